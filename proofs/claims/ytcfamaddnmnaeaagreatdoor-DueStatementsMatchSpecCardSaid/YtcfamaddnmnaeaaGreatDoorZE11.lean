/- Walks and laws over abstract values, merged by tools/merge.py. No statement of the seat. -/
import Derived.Test.YtcfamaddnmnaeaaGreatDoorZE10
set_option linter.unusedSimpArgs false
set_option linter.unusedVariables false
set_option maxHeartbeats 1000000
set_option maxRecDepth 100000
open List renaming length_map -> ZlM, mem_map -> ZmM
open Nat renaming le_of_ble_eq_true -> ZnB, zero_le -> ZnZ
namespace Go.Proofs.YtcfamaddnmnaeaaGreatDoor
open Go.RowKit
namespace Ty
theorem ag_135 : AggT Tryz.prog 135 2 := .of (by kernel_rfl)
theorem fo_59_0 : Yaf Tryz.prog 59 0 = some 0 := by kernel_rfl
theorem fo_59_1 : Yaf Tryz.prog 59 1 = some 1 := by kernel_rfl
end Ty
open Ty
theorem eqT_Ali : EqT Tryz.prog 122 [.str, .str, .int .i64] := .of (by kernel_rfl)
theorem eq_Ali (x y : Ali) : EqD Tryz.prog 122 x.ds y.ds (decide (x = y)) := .of eqT_Ali [.string x.source, .string x.title, .int .i64 x.recd] [.string y.source, .string y.title, .int .i64 y.recd] rfl rfl rfl rfl (by
 cases x
 cases y
 simp [sameL, sameV])
theorem c_eqAli (l : List Ali) : Yaq Tryz.prog 53 [.sl (l.map Ali.ds), .sl (l.map Ali.ds)] (.v (.bool true)) := by
 refine Yah (n := 26) (ds' := [.v (.bool true)]) Tryz.func53 J (by kernel_rfl) J [4] J J ?_
 intro B w0 F0 fr
 refine .bound 0 J (fun hbd0 => ?_)
 rw [ZlM] at hbd0
 refine .sr (.aN ?_)
 refine .seq (.sr (.mA ?_))
 refine .sA (.lenSl J et_32.ht J) ?_
 refine .mA ?_
 refine .sA (.lenSl J et_32.ht J) ?_
 refine .sA (.neq J J J) (.nil ?_)
 refine .cT J (fun h1 => ?_) fun h1 => ?_
 ·exact absurd J h1
 refine .skip (.seq (.sr (.mA ?_)))
 refine .sA (.lenSl J et_32.ht J) ?_
 refine .mN ?_
 refine .block (.loop (G := Nat) (fun k => Env.of [(13, .iv k), (0, .d (.sl (l.map Ali.ds))), (1, .d (.sl (l.map Ali.ds))), (12, .iv (l.map Ali.ds).length)]) (fun k => []) (fun k => k <= l.length) (fun k => l.length - k) 0 (ZnZ _) (Sub.less ⟨U, U, U, U, trivial⟩ (fun _ h => h)) ?_)
 intro k hk
 refine .sr (.sA (.lss J J J) (.nil ?_))
 refine .seq (.cT J (fun h2 => ?_) fun h2 => ?_)
 ·rw [ZlM] at h2
  have hlt : k < l.length := by omega
  refine .skip (.seq (.block (.sr (.mA ?_))))
  refine .aN ?_
  refine .seq (.draw (by kernel_rfl) (by kernel_rfl) ?_)
  refine .sA (.moveD J J) (.sA (.moveD J J) (.sA (.indexAddr J et_32 J J k J (Yad hlt) J) (.sA (.loadAgg J ag_122 J J) (.sA (.moveD J J) (.sA (.moveD J J) ?_)))))
  refine .sA (.indexAddr J et_32 J J k J (Yad hlt) J) (.sA (.loadAgg J ag_122 J J) (.sA (.aggNeq J J J (eq_Ali _ _)) ?_))
  refine .nil ?_
  refine .cN J (fun h3 => ?_) fun h3 => ?_
  ·exact absurd J h3
  refine .skip (.region (.sA (.add64 J J J) ?_))
  refine .mN ?_
  refine ⟨k + 1, (by omega), (by dsimp only; omega), Sub.less ⟨U, U, U, U, trivial⟩ (fun _ h => h)⟩
 refine .exit (.sr (.aN ?_))
 refine .ret (rD J ?_)
 all_goals (rfl)
theorem eqT_Tr : EqT Tryz.prog 125 [.int .i64, .int .i64] := .of (by kernel_rfl)
theorem eq_Tr (x y : Tr) : EqD Tryz.prog 125 x.ds y.ds (decide (x = y)) := .of eqT_Tr [.int .i64 x.frm, .int .i64 x.rate] [.int .i64 y.frm, .int .i64 y.rate] rfl rfl rfl rfl (by
 cases x
 cases y
 simp [sameL, sameV])
theorem c_eqTr (l : List Tr) : Yaq Tryz.prog 54 [.sl (l.map Tr.ds), .sl (l.map Tr.ds)] (.v (.bool true)) := by
 refine Yah (n := 26) (ds' := [.v (.bool true)]) Tryz.func54 J (by kernel_rfl) J [4] J J ?_
 intro B w0 F0 fr
 refine .bound 0 J (fun hbd0 => ?_)
 rw [ZlM] at hbd0
 refine .sr (.aN ?_)
 refine .seq (.sr (.mA ?_))
 refine .sA (.lenSl J et_61.ht J) ?_
 refine .mA ?_
 refine .sA (.lenSl J et_61.ht J) ?_
 refine .sA (.neq J J J) (.nil ?_)
 refine .cT J (fun h1 => ?_) fun h1 => ?_
 ·exact absurd J h1
 refine .skip (.seq (.sr (.mA ?_)))
 refine .sA (.lenSl J et_61.ht J) ?_
 refine .mN ?_
 refine .block (.loop (G := Nat) (fun k => Env.of [(13, .iv k), (0, .d (.sl (l.map Tr.ds))), (1, .d (.sl (l.map Tr.ds))), (12, .iv (l.map Tr.ds).length)]) (fun k => []) (fun k => k <= l.length) (fun k => l.length - k) 0 (ZnZ _) (Sub.less ⟨U, U, U, U, trivial⟩ (fun _ h => h)) ?_)
 intro k hk
 refine .sr (.sA (.lss J J J) (.nil ?_))
 refine .seq (.cT J (fun h2 => ?_) fun h2 => ?_)
 ·rw [ZlM] at h2
  have hlt : k < l.length := by omega
  refine .skip (.seq (.block (.sr (.mA ?_))))
  refine .aN ?_
  refine .seq (.draw (by kernel_rfl) (by kernel_rfl) ?_)
  refine .sA (.moveD J J) (.sA (.moveD J J) (.sA (.indexAddr J et_61 J J k J (Yad hlt) J) (.sA (.loadAgg J ag_125 J J) (.sA (.moveD J J) (.sA (.moveD J J) ?_)))))
  refine .sA (.indexAddr J et_61 J J k J (Yad hlt) J) (.sA (.loadAgg J ag_125 J J) (.sA (.aggNeq J J J (eq_Tr _ _)) ?_))
  refine .nil ?_
  refine .cN J (fun h3 => ?_) fun h3 => ?_
  ·exact absurd J h3
  refine .skip (.region (.sA (.add64 J J J) ?_))
  refine .mN ?_
  refine ⟨k + 1, (by omega), (by dsimp only; omega), Sub.less ⟨U, U, U, U, trivial⟩ (fun _ h => h)⟩
 refine .exit (.sr (.aN ?_))
 refine .ret (rD J ?_)
 all_goals (rfl)
theorem eqT_Stk : EqT Tryz.prog 131 [.str, .int .i64] := .of (by kernel_rfl)
theorem eq_Stk (x y : Stk) : EqD Tryz.prog 131 x.ds y.ds (decide (x = y)) := .of eqT_Stk [.string x.party, .int .i64 x.weight] [.string y.party, .int .i64 y.weight] rfl rfl rfl rfl (by
 cases x
 cases y
 simp [sameL, sameV])
theorem c_eqStk (l : List Stk) : Yaq Tryz.prog 55 [.sl (l.map Stk.ds), .sl (l.map Stk.ds)] (.v (.bool true)) := by
 refine Yah (n := 26) (ds' := [.v (.bool true)]) Tryz.func55 J (by kernel_rfl) J [4] J J ?_
 intro B w0 F0 fr
 refine .bound 0 J (fun hbd0 => ?_)
 rw [ZlM] at hbd0
 refine .sr (.aN ?_)
 refine .seq (.sr (.mA ?_))
 refine .sA (.lenSl J et_126.ht J) ?_
 refine .mA ?_
 refine .sA (.lenSl J et_126.ht J) ?_
 refine .sA (.neq J J J) (.nil ?_)
 refine .cT J (fun h1 => ?_) fun h1 => ?_
 ·exact absurd J h1
 refine .skip (.seq (.sr (.mA ?_)))
 refine .sA (.lenSl J et_126.ht J) ?_
 refine .mN ?_
 refine .block (.loop (G := Nat) (fun k => Env.of [(13, .iv k), (0, .d (.sl (l.map Stk.ds))), (1, .d (.sl (l.map Stk.ds))), (12, .iv (l.map Stk.ds).length)]) (fun k => []) (fun k => k <= l.length) (fun k => l.length - k) 0 (ZnZ _) (Sub.less ⟨U, U, U, U, trivial⟩ (fun _ h => h)) ?_)
 intro k hk
 refine .sr (.sA (.lss J J J) (.nil ?_))
 refine .seq (.cT J (fun h2 => ?_) fun h2 => ?_)
 ·rw [ZlM] at h2
  have hlt : k < l.length := by omega
  refine .skip (.seq (.block (.sr (.mA ?_))))
  refine .aN ?_
  refine .seq (.draw (by kernel_rfl) (by kernel_rfl) ?_)
  refine .sA (.moveD J J) (.sA (.moveD J J) (.sA (.indexAddr J et_126 J J k J (Yad hlt) J) (.sA (.loadAgg J ag_131 J J) (.sA (.moveD J J) (.sA (.moveD J J) ?_)))))
  refine .sA (.indexAddr J et_126 J J k J (Yad hlt) J) (.sA (.loadAgg J ag_131 J J) (.sA (.aggNeq J J J (eq_Stk _ _)) ?_))
  refine .nil ?_
  refine .cN J (fun h3 => ?_) fun h3 => ?_
  ·exact absurd J h3
  refine .skip (.region (.sA (.add64 J J J) ?_))
  refine .mN ?_
  refine ⟨k + 1, (by omega), (by dsimp only; omega), Sub.less ⟨U, U, U, U, trivial⟩ (fun _ h => h)⟩
 refine .exit (.sr (.aN ?_))
 refine .ret (rD J ?_)
 all_goals (rfl)
theorem eqT_Hld : EqT Tryz.prog 105 [.str, .int .i64, .int .i64] := .of (by kernel_rfl)
theorem eq_Hld (x y : Hld) : EqD Tryz.prog 105 x.ds y.ds (decide (x = y)) := .of eqT_Hld [.string x.deal, .int .i64 x.period, .int .i64 x.cents] [.string y.deal, .int .i64 y.period, .int .i64 y.cents] rfl rfl rfl rfl (by
 cases x
 cases y
 simp [sameL, sameV])
theorem c_eqHld (l : List Hld) : Yaq Tryz.prog 52 [.sl (l.map Hld.ds), .sl (l.map Hld.ds)] (.v (.bool true)) := by
 refine Yah (n := 26) (ds' := [.v (.bool true)]) Tryz.func52 J (by kernel_rfl) J [4] J J ?_
 intro B w0 F0 fr
 refine .bound 0 J (fun hbd0 => ?_)
 rw [ZlM] at hbd0
 refine .sr (.aN ?_)
 refine .seq (.sr (.mA ?_))
 refine .sA (.lenSl J et_38.ht J) ?_
 refine .mA ?_
 refine .sA (.lenSl J et_38.ht J) ?_
 refine .sA (.neq J J J) (.nil ?_)
 refine .cT J (fun h1 => ?_) fun h1 => ?_
 ·exact absurd J h1
 refine .skip (.seq (.sr (.mA ?_)))
 refine .sA (.lenSl J et_38.ht J) ?_
 refine .mN ?_
 refine .block (.loop (G := Nat) (fun k => Env.of [(13, .iv k), (0, .d (.sl (l.map Hld.ds))), (1, .d (.sl (l.map Hld.ds))), (12, .iv (l.map Hld.ds).length)]) (fun k => []) (fun k => k <= l.length) (fun k => l.length - k) 0 (ZnZ _) (Sub.less ⟨U, U, U, U, trivial⟩ (fun _ h => h)) ?_)
 intro k hk
 refine .sr (.sA (.lss J J J) (.nil ?_))
 refine .seq (.cT J (fun h2 => ?_) fun h2 => ?_)
 ·rw [ZlM] at h2
  have hlt : k < l.length := by omega
  refine .skip (.seq (.block (.sr (.mA ?_))))
  refine .aN ?_
  refine .seq (.draw (by kernel_rfl) (by kernel_rfl) ?_)
  refine .sA (.moveD J J) (.sA (.moveD J J) (.sA (.indexAddr J et_38 J J k J (Yad hlt) J) (.sA (.loadAgg J Ybk J J) (.sA (.moveD J J) (.sA (.moveD J J) ?_)))))
  refine .sA (.indexAddr J et_38 J J k J (Yad hlt) J) (.sA (.loadAgg J Ybk J J) (.sA (.aggNeq J J J (eq_Hld _ _)) ?_))
  refine .nil ?_
  refine .cN J (fun h3 => ?_) fun h3 => ?_
  ·exact absurd J h3
  refine .skip (.region (.sA (.add64 J J J) ?_))
  refine .mN ?_
  refine ⟨k + 1, (by omega), (by dsimp only; omega), Sub.less ⟨U, U, U, U, trivial⟩ (fun _ h => h)⟩
 refine .exit (.sr (.aN ?_))
 refine .ret (rD J ?_)
 all_goals (rfl)
theorem c_eqI (l : List Int) : Yaq Tryz.prog 21 [.sl (l.map intD), .sl (l.map intD)] (.v (.bool true)) := c_eqInt (l.map intD) (fun y hy => by obtain ⟨z, _, rfl⟩ := ZmM.1 hy; exact ⟨z, rfl⟩)
theorem c_sameB (b : Bks) : Yaq Tryz.prog 16 [.agg b.ds, .agg b.ds] (.v (.bool true)) := by
 refine Yah (n := 31) (ds' := [.v (.bool true)]) Tryz.func16 J (by kernel_rfl) J [4] J J ?_
 intro B w0 F0 fr
 refine .sr (.sA (.box J J J) ?_)
 refine .sA (.box J J J) ?_
 refine .aN ?_
 refine .sr (.sA (.fieldAddr J YaB J) ?_)
 refine .sA (.load J sc_3 J) (.sA (.fieldAddr J YaB J) (.sA (.load J sc_3 J) (.sA (.eql J J J) ?_)))
 refine .mA ?_
 refine .sT 10 J (fun g1 => ?_) fun g1 => ?_
 ·refine .sG (.fieldAddr J Ybh J) ?_
  refine .sG (.load J YaO J) ?_
  refine .sG (.fieldAddr J Ybh J) ?_
  refine .sG (.load J YaO J) ?_
  refine .sG (.call J (.cons (.rfl' J) (.cons (.rfl' J) .nil)) (c_eqI _)) ?_
  refine .sA (.pickT J J J) ?_
  refine .mA ?_
  refine .sG (.fieldAddr J YaJ J) ?_
  refine .sG (.load J Ycn J) ?_
  refine .sG (.fieldAddr J YaJ J) ?_
  refine .sG (.load J Ycn J) ?_
  refine .sG (.call J (.cons (.rfl' J) (.cons (.rfl' J) .nil)) (c_eqHld _)) ?_
  refine .sA (.pickT J J J) ?_
  refine .mA ?_
  refine .sG (.fieldAddr J Ybv J) ?_
  refine .sG (.load J YaO J) ?_
  refine .sG (.fieldAddr J Ybv J) ?_
  refine .sG (.load J YaO J) ?_
  refine .sG (.call J (.cons (.rfl' J) (.cons (.rfl' J) .nil)) (c_eqI _)) ?_
  refine .sA (.pickT J J J) ?_
  refine .aN ?_
  refine .ret (rD J ?_)
  all_goals (rfl)
 exact absurd J g1
theorem c_sameC (c : Ctr) : Yaq Tryz.prog 17 [.agg c.ds, .agg c.ds] (.v (.bool true)) := by
 refine Yah (n := 146) (ds' := [.v (.bool true)]) Tryz.func17 J (by kernel_rfl) J [4] J J ?_
 intro B w0 F0 fr
 refine .sr (.sA (.box J J J) ?_)
 refine .sA (.box J J J) ?_
 refine .aN ?_
 refine .seq (.sr (.sA (.fieldAddr J Yck J) ?_))
 refine .sA (.load J sc_32 J) (.sA (.fieldAddr J Yck J) (.sA (.load J sc_32 J) (.sA (.call J (.cons (.rfl' J) (.cons (.rfl' J) .nil)) (c_eqAli _)) (.sA (.not J J) ?_))))
 refine .mA ?_
 refine .sG (.fieldAddr J YaE J) ?_
 refine .sG (.load J YbI J) ?_
 refine .sG (.lenSl J et_33.ht J) ?_
 refine .sG (.fieldAddr J YaE J) ?_
 refine .sG (.load J YbI J) ?_
 refine .sG (.lenSl J et_33.ht J) ?_
 refine .sG (.neq J J J) ?_
 refine .sA (.pickF J J J) ?_
 refine .mA ?_
 refine .sT 26 J (fun g1 => ?_) fun g1 => ?_
 ·exact absurd J g1
 refine .sG (.fieldAddr J YaP J) ?_
 refine .sG (.load J Yce J) ?_
 refine .sG (.lenSl J et_34.ht J) ?_
 refine .sG (.fieldAddr J YaP J) ?_
 refine .sG (.load J Yce J) ?_
 refine .sG (.lenSl J et_34.ht J) ?_
 refine .sG (.neq J J J) ?_
 refine .sA (.pickF J J J) (.nil ?_)
 refine .cT J (fun h2 => ?_) fun h2 => ?_
 ·exact absurd J h2
 refine .skip (.seq (.sr (.sA (.fieldAddr J YaE J) ?_)))
 refine .sA (.load J YbI J) (.sA (.lenSl J et_33.ht J) ?_)
 refine .mN ?_
 refine .block (.bound 36 J (fun hbd => ?_))
 rw [ZlM] at hbd
 refine .loop (G := Nat) (fun k => Env.of [(38, .iv k), (36, .d (.sl (c.deals.map Deal.ds))), (37, .iv (c.deals.map Deal.ds).length), (2, .d (.fp c.ds)), (3, .d (.fp c.ds))]) (fun k => []) (fun k => k <= c.deals.length) (fun k => c.deals.length - k) 0 (ZnZ _) (Sub.less ⟨U, U, U, U, U, trivial⟩ (fun _ h => h)) ?_
 intro k hk
 refine .sr (.sA (.lss J J J) (.nil ?_))
 refine .seq (.cT J (fun h3 => ?_) fun h3 => ?_)
 ·rw [ZlM] at h3
  have hlt : k < c.deals.length := by omega
  refine .skip (.seq (.block (.sr (.mA ?_))))
  refine .sA (.indexAddr J et_33 J J k J (Yad hlt) J) (.sA (.loadAgg J ag_63 J J) ?_)
  refine .alloc 101 J J J J zt_63 J J J ?_
  refine .aA ?_
  refine .store J J J sz_63 J (.head _) J J J (ZnB J) ?_
  refine .freezeCells 6 (ds := c.deals[k].ds) J (.head _) (.nil ?_)
  refine .sr (.sA (.fieldAddr J YaE J) ?_)
  refine .sA (.load J YbI J) ?_
  refine .mA ?_
  refine .sA (.indexAddr J et_33 J J k J (Yad hlt) J) (.sA (.loadAgg J ag_63 J J) ?_)
  refine .alloc 102 J J J J zt_63 J J J ?_
  refine .store J J J sz_63 J (.head _) J J J (ZnB J) ?_
  refine .freezeCells 7 (ds := c.deals[k].ds) J (.head _) (.nil ?_)
  refine .sr (.sA (.fieldAddr J YaZ J) ?_)
  refine .sA (.load J sc_9 J) (.sA (.fieldAddr J YaZ J) (.sA (.load J sc_9 J) (.sA (.sneq J J J) ?_)))
  refine .mA ?_
  refine .sT 53 J (fun g4 => ?_) fun g4 => ?_
  ·exact absurd J g4
  refine .sG (.fieldAddr J fo_63_1 J) ?_
  refine .sG (.load J sc_9 J) ?_
  refine .sG (.fieldAddr J fo_63_1 J) ?_
  refine .sG (.load J sc_9 J) ?_
  refine .sG (.sneq J J J) ?_
  refine .sA (.pickF J J J) ?_
  refine .mA ?_
  refine .sT 60 J (fun g5 => ?_) fun g5 => ?_
  ·exact absurd J g5
  refine .sG (.fieldAddr J Ycj J) ?_
  refine .sG (.load J sc_3 J) ?_
  refine .sG (.fieldAddr J Ycj J) ?_
  refine .sG (.load J sc_3 J) ?_
  refine .sG (.neq J J J) ?_
  refine .sA (.pickF J J J) ?_
  refine .mA ?_
  refine .sT 67 J (fun g6 => ?_) fun g6 => ?_
  ·exact absurd J g6
  refine .sG (.fieldAddr J fo_63_3 J) ?_
  refine .sG (.load J sc_3 J) ?_
  refine .sG (.fieldAddr J fo_63_3 J) ?_
  refine .sG (.load J sc_3 J) ?_
  refine .sG (.neq J J J) ?_
  refine .sA (.pickF J J J) ?_
  refine .mA ?_
  refine .sT 74 J (fun g7 => ?_) fun g7 => ?_
  ·exact absurd J g7
  refine .sG (.fieldAddr J Ybm J) ?_
  refine .sG (.load J YaO J) ?_
  refine .sG (.fieldAddr J Ybm J) ?_
  refine .sG (.load J YaO J) ?_
  refine .sG (.call J (.cons (.rfl' J) (.cons (.rfl' J) .nil)) (c_eqI _)) ?_
  refine .sG (.not J J) ?_
  refine .sA (.pickF J J J) ?_
  refine .mA ?_
  refine .sG (.fieldAddr J Yci J) ?_
  refine .sG (.load J sc_61 J) ?_
  refine .sG (.fieldAddr J Yci J) ?_
  refine .sG (.load J sc_61 J) ?_
  refine .sG (.call J (.cons (.rfl' J) (.cons (.rfl' J) .nil)) (c_eqTr _)) ?_
  refine .sG (.not J J) ?_
  refine .sA (.pickF J J J) ?_
  refine .mA ?_
  refine .sG (.fieldAddr J fo_63_6 J) ?_
  refine .sG (.load J sc_3 J) ?_
  refine .sG (.fieldAddr J fo_63_6 J) ?_
  refine .sG (.load J sc_3 J) ?_
  refine .sG (.neq J J J) ?_
  refine .sA (.pickF J J J) ?_
  refine .mA ?_
  refine .sT 97 J (fun g8 => ?_) fun g8 => ?_
  ·exact absurd J g8
  refine .sG (.fieldAddr J fo_63_7 J) ?_
  refine .sG (.load J sc_3 J) ?_
  refine .sG (.fieldAddr J fo_63_7 J) ?_
  refine .sG (.load J sc_3 J) ?_
  refine .sG (.neq J J J) ?_
  refine .sA (.pickF J J J) ?_
  refine .mA ?_
  refine .sT 104 J (fun g9 => ?_) fun g9 => ?_
  ·exact absurd J g9
  refine .sG (.fieldAddr J fo_63_8 J) ?_
  refine .sG (.load J sc_3 J) ?_
  refine .sG (.fieldAddr J fo_63_8 J) ?_
  refine .sG (.load J sc_3 J) ?_
  refine .sG (.neq J J J) ?_
  refine .sA (.pickF J J J) (.nil ?_)
  refine .cT J (fun h10 => ?_) fun h10 => ?_
  ·exact absurd J h10
  refine .skip (.region (.sA (.add64 J J J) ?_))
  refine .mN ?_
  refine ⟨k + 1, (by omega), (by dsimp only; omega), Sub.less ⟨U, U, U, U, U, trivial⟩ (fun _ h => h)⟩
 refine .exit (.seq (.sr (.sA (.fieldAddr J YaP J) ?_)))
 refine .sA (.load J Yce J) (.sA (.lenSl J et_34.ht J) ?_)
 refine .mN ?_
 refine .block (.bound 113 J (fun hbd => ?_))
 rw [ZlM] at hbd
 refine .loop (G := Nat) (fun k => Env.of [(115, .iv k), (113, .d (.sl (c.groups.map Grp.ds))), (114, .iv (c.groups.map Grp.ds).length), (2, .d (.fp c.ds)), (3, .d (.fp c.ds))]) (fun k => []) (fun k => k <= c.groups.length) (fun k => c.groups.length - k) 0 (ZnZ _) (Sub.less ⟨U, U, U, U, U, trivial⟩ (fun _ h => h)) ?_
 intro k hk
 refine .sr (.sA (.lss J J J) (.nil ?_))
 refine .seq (.cT J (fun h11 => ?_) fun h11 => ?_)
 ·rw [ZlM] at h11
  have hlt : k < c.groups.length := by omega
  refine .skip (.seq (.block (.sr (.mA ?_))))
  refine .sA (.indexAddr J et_34 J J k J (Yad hlt) J) (.sA (.loadAgg J ag_128 J J) ?_)
  refine .alloc 103 J J J J zt_128 J J J ?_
  refine .aA ?_
  refine .store J J J sz_128 J (.head _) J J J (ZnB J) ?_
  refine .freezeCells 9 (ds := c.groups[k].ds) J (.head _) (.nil ?_)
  refine .sr (.sA (.fieldAddr J YaP J) ?_)
  refine .sA (.load J Yce J) ?_
  refine .mA ?_
  refine .sA (.indexAddr J et_34 J J k J (Yad hlt) J) (.sA (.loadAgg J ag_128 J J) ?_)
  refine .alloc 104 J J J J zt_128 J J J ?_
  refine .store J J J sz_128 J (.head _) J J J (ZnB J) ?_
  refine .freezeCells 10 (ds := c.groups[k].ds) J (.head _) (.nil ?_)
  refine .sr (.sA (.fieldAddr J Ya1 J) ?_)
  refine .sA (.load J sc_9 J) (.sA (.fieldAddr J Ya1 J) (.sA (.load J sc_9 J) (.sA (.sneq J J J) ?_)))
  refine .mA ?_
  refine .sT 130 J (fun g12 => ?_) fun g12 => ?_
  ·exact absurd J g12
  refine .sG (.fieldAddr J fo_128_1 J) ?_
  refine .sG (.load J sc_3 J) ?_
  refine .sG (.fieldAddr J fo_128_1 J) ?_
  refine .sG (.load J sc_3 J) ?_
  refine .sG (.neq J J J) ?_
  refine .sA (.pickF J J J) ?_
  refine .mA ?_
  refine .sT 137 J (fun g13 => ?_) fun g13 => ?_
  ·exact absurd J g13
  refine .sG (.fieldAddr J YaT J) ?_
  refine .sG (.load J YbV J) ?_
  refine .sG (.fieldAddr J YaT J) ?_
  refine .sG (.load J YbV J) ?_
  refine .sG (.call J (.cons (.rfl' J) (.cons (.rfl' J) .nil)) (c_eqStk _)) ?_
  refine .sG (.not J J) ?_
  refine .sA (.pickF J J J) (.nil ?_)
  refine .cond J (fun h => nomatch h) (fun _ => ?_)
  refine .skip (.region (.sA (.add64 J J J) ?_))
  refine .mN ?_
  refine ⟨k + 1, (by omega), (by dsimp only; omega), Sub.less ⟨U, U, U, U, U, trivial⟩ (fun _ h => h)⟩
 refine .exit (.sr (.aN ?_))
 refine .ret (rD J ?_)
 all_goals (rfl)
theorem eqT_Rw : EqT Tryz.prog 114 [.str, .int .i64, .int .i64, .int .i64, .int .i64] := .of (by kernel_rfl)
theorem eq_Rw (x y : Rw) : EqD Tryz.prog 114 x.ds y.ds (decide (x = y)) := .of eqT_Rw [.string x.deal, .int .i64 x.earned, .int .i64 x.withheld, .int .i64 x.released, .int .i64 x.advance] [.string y.deal, .int .i64 y.earned, .int .i64 y.withheld, .int .i64 y.released, .int .i64 y.advance] rfl rfl rfl rfl (by
 cases x
 cases y
 simp [sameL, sameV])
theorem c_eqRw (l : List Rw) : Yaq Tryz.prog 56 [.sl (l.map Rw.ds), .sl (l.map Rw.ds)] (.v (.bool true)) := by
 refine Yah (n := 26) (ds' := [.v (.bool true)]) Tryz.func56 J (by kernel_rfl) J [4] J J ?_
 intro B w0 F0 fr
 refine .bound 0 J (fun hbd0 => ?_)
 rw [ZlM] at hbd0
 refine .sr (.aN ?_)
 refine .seq (.sr (.mA ?_))
 refine .sA (.lenSl J et_56.ht J) ?_
 refine .mA ?_
 refine .sA (.lenSl J et_56.ht J) ?_
 refine .sA (.neq J J J) (.nil ?_)
 refine .cT J (fun h1 => ?_) fun h1 => ?_
 ·exact absurd J h1
 refine .skip (.seq (.sr (.mA ?_)))
 refine .sA (.lenSl J et_56.ht J) ?_
 refine .mN ?_
 refine .block (.loop (G := Nat) (fun k => Env.of [(13, .iv k), (0, .d (.sl (l.map Rw.ds))), (1, .d (.sl (l.map Rw.ds))), (12, .iv (l.map Rw.ds).length)]) (fun k => []) (fun k => k <= l.length) (fun k => l.length - k) 0 (ZnZ _) (Sub.less ⟨U, U, U, U, trivial⟩ (fun _ h => h)) ?_)
 intro k hk
 refine .sr (.sA (.lss J J J) (.nil ?_))
 refine .seq (.cT J (fun h2 => ?_) fun h2 => ?_)
 ·rw [ZlM] at h2
  have hlt : k < l.length := by omega
  refine .skip (.seq (.block (.sr (.mA ?_))))
  refine .aN ?_
  refine .seq (.draw (by kernel_rfl) (by kernel_rfl) ?_)
  refine .sA (.moveD J J) (.sA (.moveD J J) (.sA (.indexAddr J et_56 J J k J (Yad hlt) J) (.sA (.loadAgg J Ycb J J) (.sA (.moveD J J) (.sA (.moveD J J) ?_)))))
  refine .sA (.indexAddr J et_56 J J k J (Yad hlt) J) (.sA (.loadAgg J Ycb J J) (.sA (.aggNeq J J J (eq_Rw _ _)) ?_))
  refine .nil ?_
  refine .cN J (fun h3 => ?_) fun h3 => ?_
  ·exact absurd J h3
  refine .skip (.region (.sA (.add64 J J J) ?_))
  refine .mN ?_
  refine ⟨k + 1, (by omega), (by dsimp only; omega), Sub.less ⟨U, U, U, U, trivial⟩ (fun _ h => h)⟩
 refine .exit (.sr (.aN ?_))
 refine .ret (rD J ?_)
 all_goals (rfl)
theorem eqT_Pd : EqT Tryz.prog 135 [.str, .int .i64] := .of (by kernel_rfl)
theorem eq_Pd (x y : Pd) : EqD Tryz.prog 135 x.ds y.ds (decide (x = y)) := .of eqT_Pd [.string x.party, .int .i64 x.cents] [.string y.party, .int .i64 y.cents] rfl rfl rfl rfl (by
 cases x
 cases y
 simp [sameL, sameV])
theorem c_eqPd (l : List Pd) : Yaq Tryz.prog 57 [.sl (l.map Pd.ds), .sl (l.map Pd.ds)] (.v (.bool true)) := by
 refine Yah (n := 26) (ds' := [.v (.bool true)]) Tryz.func57 J (by kernel_rfl) J [4] J J ?_
 intro B w0 F0 fr
 refine .bound 0 J (fun hbd0 => ?_)
 rw [ZlM] at hbd0
 refine .sr (.aN ?_)
 refine .seq (.sr (.mA ?_))
 refine .sA (.lenSl J et_57.ht J) ?_
 refine .mA ?_
 refine .sA (.lenSl J et_57.ht J) ?_
 refine .sA (.neq J J J) (.nil ?_)
 refine .cT J (fun h1 => ?_) fun h1 => ?_
 ·exact absurd J h1
 refine .skip (.seq (.sr (.mA ?_)))
 refine .sA (.lenSl J et_57.ht J) ?_
 refine .mN ?_
 refine .block (.loop (G := Nat) (fun k => Env.of [(13, .iv k), (0, .d (.sl (l.map Pd.ds))), (1, .d (.sl (l.map Pd.ds))), (12, .iv (l.map Pd.ds).length)]) (fun k => []) (fun k => k <= l.length) (fun k => l.length - k) 0 (ZnZ _) (Sub.less ⟨U, U, U, U, trivial⟩ (fun _ h => h)) ?_)
 intro k hk
 refine .sr (.sA (.lss J J J) (.nil ?_))
 refine .seq (.cT J (fun h2 => ?_) fun h2 => ?_)
 ·rw [ZlM] at h2
  have hlt : k < l.length := by omega
  refine .skip (.seq (.block (.sr (.mA ?_))))
  refine .aN ?_
  refine .seq (.draw (by kernel_rfl) (by kernel_rfl) ?_)
  refine .sA (.moveD J J) (.sA (.moveD J J) (.sA (.indexAddr J et_57 J J k J (Yad hlt) J) (.sA (.loadAgg J ag_135 J J) (.sA (.moveD J J) (.sA (.moveD J J) ?_)))))
  refine .sA (.indexAddr J et_57 J J k J (Yad hlt) J) (.sA (.loadAgg J ag_135 J J) (.sA (.aggNeq J J J (eq_Pd _ _)) ?_))
  refine .nil ?_
  refine .cN J (fun h3 => ?_) fun h3 => ?_
  ·exact absurd J h3
  refine .skip (.region (.sA (.add64 J J J) ?_))
  refine .mN ?_
  refine ⟨k + 1, (by omega), (by dsimp only; omega), Sub.less ⟨U, U, U, U, trivial⟩ (fun _ h => h)⟩
 refine .exit (.sr (.aN ?_))
 refine .ret (rD J ?_)
 all_goals (rfl)
theorem c_sameS (l : List Stm) : Yaq Tryz.prog 18 [.sl (l.map Stm.ds), .sl (l.map Stm.ds)] (.v (.bool true)) := by
 refine Yah (n := 74) (ds' := [.v (.bool true)]) Tryz.func18 J (by kernel_rfl) J [4] J J ?_
 intro B w0 F0 fr
 refine .bound 0 J (fun hbd0 => ?_)
 rw [ZlM] at hbd0
 refine .sr (.aN ?_)
 refine .seq (.sr (.mA ?_))
 refine .sA (.lenSl J et_41.ht J) ?_
 refine .mA ?_
 refine .sA (.lenSl J et_41.ht J) ?_
 refine .sA (.neq J J J) (.nil ?_)
 refine .cT J (fun h1 => ?_) fun h1 => ?_
 ·exact absurd J h1
 refine .skip (.seq (.sr (.mA ?_)))
 refine .sA (.lenSl J et_41.ht J) ?_
 refine .mN ?_
 refine .block (.loop (G := Nat) (fun k => Env.of [(15, .iv k), (13, .d (.sl (l.map Stm.ds))), (14, .iv (l.map Stm.ds).length), (0, .d (.sl (l.map Stm.ds))), (1, .d (.sl (l.map Stm.ds)))]) (fun k => []) (fun k => k <= l.length) (fun k => l.length - k) 0 (ZnZ _) (Sub.less ⟨U, U, U, U, U, trivial⟩ (fun _ h => h)) ?_)
 intro k hk
 refine .sr (.sA (.lss J J J) (.nil ?_))
 refine .seq (.cT J (fun h2 => ?_) fun h2 => ?_)
 ·rw [ZlM] at h2
  have hlt : k < l.length := by omega
  refine .skip (.seq (.block (.sr (.mA ?_))))
  refine .sA (.indexAddr J et_41 J J k J (Yad hlt) J) (.sA (.loadAgg J ag_59 J J) ?_)
  refine .alloc 101 J J J J zt_59 J J J ?_
  refine .aA ?_
  refine .store J J J sz_59 J (.head _) J J J (ZnB J) ?_
  refine .freezeCells 6 (ds := l[k].ds) J (.head _) (.nil ?_)
  refine .sr (.mA ?_)
  refine .mA ?_
  refine .sA (.indexAddr J et_41 J J k J (Yad hlt) J) (.sA (.loadAgg J ag_59 J J) ?_)
  refine .alloc 102 J J J J zt_59 J J J ?_
  refine .store J J J sz_59 J (.head _) J J J (ZnB J) ?_
  refine .freezeCells 7 (ds := l[k].ds) J (.head _) (.nil ?_)
  refine .sr (.sA (.fieldAddr J fo_59_0 J) ?_)
  refine .sA (.load J sc_3 J) (.sA (.fieldAddr J fo_59_0 J) (.sA (.load J sc_3 J) (.sA (.neq J J J) ?_)))
  refine .mA ?_
  refine .sT 29 J (fun g3 => ?_) fun g3 => ?_
  ·exact absurd J g3
  refine .sG (.fieldAddr J fo_59_1 J) ?_
  refine .sG (.load J sc_9 J) ?_
  refine .sG (.fieldAddr J fo_59_1 J) ?_
  refine .sG (.load J sc_9 J) ?_
  refine .sG (.sneq J J J) ?_
  refine .sA (.pickF J J J) ?_
  refine .mA ?_
  refine .sT 36 J (fun g4 => ?_) fun g4 => ?_
  ·exact absurd J g4
  refine .sG (.fieldAddr J fo_59_2 J) ?_
  refine .sG (.load J sc_56 J) ?_
  refine .sG (.fieldAddr J fo_59_2 J) ?_
  refine .sG (.load J sc_56 J) ?_
  refine .sG (.call J (.cons (.rfl' J) (.cons (.rfl' J) .nil)) (c_eqRw _)) ?_
  refine .sG (.not J J) ?_
  refine .sA (.pickF J J J) ?_
  refine .mA ?_
  refine .sG (.fieldAddr J fo_59_3 J) ?_
  refine .sG (.load J sc_3 J) ?_
  refine .sG (.fieldAddr J fo_59_3 J) ?_
  refine .sG (.load J sc_3 J) ?_
  refine .sG (.neq J J J) ?_
  refine .sA (.pickF J J J) ?_
  refine .mA ?_
  refine .sT 51 J (fun g5 => ?_) fun g5 => ?_
  ·exact absurd J g5
  refine .sG (.fieldAddr J fo_59_4 J) ?_
  refine .sG (.load J sc_3 J) ?_
  refine .sG (.fieldAddr J fo_59_4 J) ?_
  refine .sG (.load J sc_3 J) ?_
  refine .sG (.neq J J J) ?_
  refine .sA (.pickF J J J) ?_
  refine .mA ?_
  refine .sT 58 J (fun g6 => ?_) fun g6 => ?_
  ·exact absurd J g6
  refine .sG (.fieldAddr J fo_59_5 J) ?_
  refine .sG (.load J sc_57 J) ?_
  refine .sG (.fieldAddr J fo_59_5 J) ?_
  refine .sG (.load J sc_57 J) ?_
  refine .sG (.call J (.cons (.rfl' J) (.cons (.rfl' J) .nil)) (c_eqPd _)) ?_
  refine .sG (.not J J) ?_
  refine .sA (.pickF J J J) ?_
  refine .mA ?_
  refine .sG (.fieldAddr J YbJ J) ?_
  refine .sG (.load J sc_3 J) ?_
  refine .sG (.fieldAddr J YbJ J) ?_
  refine .sG (.load J sc_3 J) ?_
  refine .sG (.neq J J J) ?_
  refine .sA (.pickF J J J) (.nil ?_)
  refine .cT J (fun h7 => ?_) fun h7 => ?_
  ·exact absurd J h7
  refine .skip (.region (.sA (.add64 J J J) ?_))
  refine .mN ?_
  refine ⟨k + 1, (by omega), (by dsimp only; omega), Sub.less ⟨U, U, U, U, U, trivial⟩ (fun _ h => h)⟩
 refine .exit (.sr (.aN ?_))
 refine .ret (rD J ?_)
 all_goals (rfl)
theorem lawSta (b : Bks) (l : List Rpt) (hb : okBks b) (ho : ∀ x ∈ l, okRpt x) : Ya3 Tryz.prog MaxT 5 [.agg b.ds, .sl (l.map Rpt.ds)] (.v (.bool true)) := by
 refine YaF (n := 73) (ds' := [.v (.bool true)]) Tryz.func5 J (by kernel_rfl) J [4] J J ?_
 intro B w0 F0 hT
 refine .sr (.sA (.box J J J) ?_)
 refine .aN ?_
 refine .sr (.sA (.loadAgg J Ybs J J) ?_)
 refine .mA ?_
 -- wants the world
 refine .callT J J J hT Yan J (.cons (.rfl' J) (.cons (.rfl' J) .nil)) (c_pIss b l hb ho) ?_
 refine .mA ?_
 refine .sA (.extract J J J) (.sA (.extract J J J) (.sA (.extract J J J) ?_))
 refine .alloc 101 J J J J zt_40 J J J ?_
 refine .store J J J sz_40 J (.head _) J J J (ZnB J) ?_
 refine .freezeCells 5 (ds := (issB b l).ds) J (.head _) ?_
 refine .aA ?_
 refine .aN ?_
 refine .sr (.sA (.loadAgg J Ybs J J) ?_)
 refine .mA ?_
 -- wants the world
 refine .callT J J J hT Yan J (.cons (.rfl' J) (.cons (.rfl' J) .nil)) (c_rIss b l hb ho) ?_
 refine .mA ?_
 refine .sA (.extract J J J) (.sA (.extract J J J) (.sA (.extract J J J) ?_))
 refine .alloc 102 J J J J zt_40 J J J ?_
 refine .store J J J sz_40 J (.head _) J J J (ZnB J) ?_
 refine .freezeCells 8 (ds := (issB b l).ds) J (.head _) ?_
 refine .aA ?_
 refine .aN ?_
 refine .seq (.sr (.mA ?_))
 refine .mA ?_
 refine .sA (.neq J J J) ?_
 refine .mA ?_
 refine .sT 30 J (fun g1 => ?_) fun g1 => ?_
 ·exact absurd J g1
 refine .sG (.loadAgg J Ybs J J) ?_
 refine .sG (.loadAgg J Ybs J J) ?_
 refine .sG (.call J (.cons (.rfl' J) (.cons (.rfl' J) .nil)) (c_sameB (issB b l))) ?_
 refine .sG (.not J J) ?_
 refine .sA (.pickF J J J) ?_
 refine .mA ?_
 refine .sG (.fieldAddr J Yay J) ?_
 refine .sG (.loadAggT J ag_36 J (ZnB J)) ?_
 refine .sG (.fieldAddr J Yay J) ?_
 refine .sG (.loadAggT J ag_36 J (ZnB J)) ?_
 refine .sG (.call J (.cons (.rfl' J) (.cons (.rfl' J) .nil)) (c_sameC (issB b l).ctr)) ?_
 refine .sG (.not J J) ?_
 refine .sA (.pickF J J J) ?_
 refine .mA ?_
 refine .sG (.moveD J J) ?_
 refine .sG (.moveD J J) ?_
 refine .sG (.call J (.cons (.rfl' J) (.cons (.rfl' J) .nil)) (c_sameS (issS b l))) ?_
 refine .sG (.not J J) ?_
 refine .sA (.pickF J J J) (.nil ?_)
 refine .cond J (fun h => nomatch h) (fun _ => ?_)
 refine .skip (.sr (.sA (.loadAgg J Ybs J J) ?_))
 refine .mA ?_
 -- wants the world
 refine .callT J J J hT Yan J (.cons (.rfl' J) (.cons (.rfl' J) .nil)) (c_pOw b l hb ho) ?_
 refine .mA ?_
 refine .sA (.extract J J J) (.sA (.extract J J J) ?_)
 refine .aA ?_
 refine .aN ?_
 refine .sr (.sA (.loadAgg J Ybs J J) ?_)
 refine .mA ?_
 -- wants the world
 refine .callT J J J hT Yan J (.cons (.rfl' J) (.cons (.rfl' J) .nil)) (c_rOw b l hb ho) ?_
 refine .mA ?_
 refine .sA (.extract J J J) (.sA (.extract J J J) ?_)
 refine .aA ?_
 refine .aN ?_
 refine .sr (.mA ?_)
 refine .mA ?_
 refine .sA (.eql J J J) ?_
 refine .mA ?_
 refine .sT 65 J (fun g2 => ?_) fun g2 => ?_
 ·refine .sG (.moveD J J) ?_
  refine .sG (.moveD J J) ?_
  refine .sG (.call J (.cons (.rfl' J) (.cons (.rfl' J) .nil)) (c_eqI _)) ?_
  refine .sA (.pickT J J J) ?_
  refine .mA ?_
  refine .sG (.call J .nil c_awake) ?_
  refine .sA (.pickT J J J) ?_
  refine .aN ?_
  refine .ret (rD J ?_)
  all_goals (rfl)
 exact absurd J g2
end Go.Proofs.YtcfamaddnmnaeaaGreatDoor
