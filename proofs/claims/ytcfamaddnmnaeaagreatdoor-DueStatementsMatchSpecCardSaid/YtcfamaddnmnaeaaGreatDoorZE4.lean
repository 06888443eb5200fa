/- Walks and laws over abstract values, merged by tools/merge.py. No statement of the seat. -/
import Derived.Laws.Cover3
import Derived.Shelf.SlSortCmp.WholeK
import Derived.Lib.RowBridge
import Derived.StillTailTactics
import Derived.Test.YtcfamaddnmnaeaaGreatDoorZE3
set_option linter.unusedSimpArgs false
set_option linter.unusedVariables false
set_option maxHeartbeats 2000000
set_option maxRecDepth 100000
open List renaming length_map -> ZlM, getElem?_eq_getElem -> ZgE, getElem?_eq_some_iff -> ZgS, getElem_mem -> ZgM, length_take -> ZlT, getD_eq_getElem?_getD -> ZgD, getElem_map -> ZgP, getElem?_take -> ZgT, length_drop -> ZlD, mem_singleton -> ZmS, mem_map -> ZmM
open Array renaming getElem?_eq_some_iff -> ZaS, getD_eq_getD_getElem? -> ZaD
open Nat renaming le_of_ble_eq_true -> ZnB, zero_le -> ZnZ, le_refl -> ZnR, le_trans -> ZnT
namespace Go.Proofs.YtcfamaddnmnaeaaGreatDoor
section
open Go.RowKit
namespace Ty
theorem ag_125 : AggT Tryz.prog 125 2 := .of (by kernel_rfl)
theorem ag_128 : AggT Tryz.prog 128 3 := .of (by kernel_rfl)
theorem ag_131 : AggT Tryz.prog 131 2 := .of (by kernel_rfl)
theorem ag_36 : AggT Tryz.prog 36 3 := .of (by kernel_rfl)
theorem ag_63 : AggT Tryz.prog 63 9 := .of (by kernel_rfl)
theorem et_126 : ElemTy Tryz.prog 126 131 2 24 (.agg #[(.string ⟨#[]⟩), (.int .i64 0)]) := ⟨by kernel_rfl, by kernel_rfl, by kernel_rfl, by decide⟩
theorem et_33 : ElemTy Tryz.prog 33 63 9 120 (.agg #[(.string ⟨#[]⟩), (.string ⟨#[]⟩), (.int .i64 0), (.int .i64 0), (.slice none 0 0), (.slice none 0 0), (.int .i64 0), (.int .i64 0), (.int .i64 0)]) := ⟨by kernel_rfl, by kernel_rfl, by kernel_rfl, by decide⟩
theorem et_34 : ElemTy Tryz.prog 34 128 3 48 (.agg #[(.string ⟨#[]⟩), (.int .i64 0), (.slice none 0 0)]) := ⟨by kernel_rfl, by kernel_rfl, by kernel_rfl, by decide⟩
theorem et_61 : ElemTy Tryz.prog 61 125 2 16 (.agg #[(.int .i64 0), (.int .i64 0)]) := ⟨by kernel_rfl, by kernel_rfl, by kernel_rfl, by decide⟩
theorem YaN : Yaf Tryz.prog 125 0 = some 0 := by kernel_rfl
theorem fo_125_1 : Yaf Tryz.prog 125 1 = some 1 := by kernel_rfl
theorem Ya1 : Yaf Tryz.prog 128 0 = some 0 := by kernel_rfl
theorem fo_128_1 : Yaf Tryz.prog 128 1 = some 1 := by kernel_rfl
theorem YaT : Yaf Tryz.prog 128 2 = some 2 := by kernel_rfl
theorem Yb9 : Yaf Tryz.prog 131 0 = some 0 := by kernel_rfl
theorem fo_131_1 : Yaf Tryz.prog 131 1 = some 1 := by kernel_rfl
theorem YaE : Yaf Tryz.prog 36 1 = some 1 := by kernel_rfl
theorem YaP : Yaf Tryz.prog 36 2 = some 2 := by kernel_rfl
theorem YaZ : Yaf Tryz.prog 63 0 = some 0 := by kernel_rfl
theorem fo_63_1 : Yaf Tryz.prog 63 1 = some 1 := by kernel_rfl
theorem Ycj : Yaf Tryz.prog 63 2 = some 2 := by kernel_rfl
theorem fo_63_3 : Yaf Tryz.prog 63 3 = some 3 := by kernel_rfl
theorem Ybm : Yaf Tryz.prog 63 4 = some 4 := by kernel_rfl
theorem Yci : Yaf Tryz.prog 63 5 = some 5 := by kernel_rfl
theorem fo_63_6 : Yaf Tryz.prog 63 6 = some 6 := by kernel_rfl
theorem fo_63_7 : Yaf Tryz.prog 63 7 = some 7 := by kernel_rfl
theorem fo_63_8 : Yaf Tryz.prog 63 8 = some 8 := by kernel_rfl
theorem YbV : Scal Tryz.prog 126 := .of (by kernel_rfl)
theorem YbI : Scal Tryz.prog 33 := .of (by kernel_rfl)
theorem Yce : Scal Tryz.prog 34 := .of (by kernel_rfl)
theorem sc_61 : Scal Tryz.prog 61 := .of (by kernel_rfl)
theorem sz_125 : ∀ w, (sizeOf 125).run Tryz.prog w = .ok 2 w := SizeT.of (by kernel_rfl)
theorem sz_128 : ∀ w, (sizeOf 128).run Tryz.prog w = .ok 3 w := SizeT.of (by kernel_rfl)
theorem sz_131 : ∀ w, (sizeOf 131).run Tryz.prog w = .ok 2 w := SizeT.of (by kernel_rfl)
theorem sz_63 : ∀ w, (sizeOf 63).run Tryz.prog w = .ok 9 w := SizeT.of (by kernel_rfl)
theorem zt_125 : (Tryz.prog.info? 125).bind (·.zero) = some (.agg #[(.int .i64 0), (.int .i64 0)]) := by kernel_rfl
theorem zt_128 : (Tryz.prog.info? 128).bind (·.zero) = some (.agg #[(.string ⟨#[]⟩), (.int .i64 0), (.slice none 0 0)]) := by kernel_rfl
theorem zt_131 : (Tryz.prog.info? 131).bind (·.zero) = some (.agg #[(.string ⟨#[]⟩), (.int .i64 0)]) := by kernel_rfl
theorem zt_63 : (Tryz.prog.info? 63).bind (·.zero) = some (.agg #[(.string ⟨#[]⟩), (.string ⟨#[]⟩), (.int .i64 0), (.int .i64 0), (.slice none 0 0), (.slice none 0 0), (.int .i64 0), (.int .i64 0), (.int .i64 0)]) := by kernel_rfl
end Ty
open Ty
open Go.Lib
def idxBy {α : Type} (p : α -> Bool) (l : List α) : Int := if l.any p then (l.findIdx p : Int) else -1
theorem idxBy_yes {α : Type} {p : α -> Bool} {l : List α} {k : Nat} (hk : k < l.length) (h : ∀ c ∈ l.take k, p c = false) (h2 : p l[k] = true) : idxBy p l = k := by
 have hm : l.any p = true := List.any_eq_true.2 ⟨_, ZgM hk, h2⟩
 unfold idxBy
 rw [if_pos hm]
 congr 1
 rw [List.findIdx_eq hk]
 refine ⟨h2, fun j hj => ?_⟩
 have := h l[j] (List.mem_take_iff_getElem.2 ⟨j, by omega, rfl⟩)
 simpa using this
theorem idxBy_no {α : Type} {p : α -> Bool} {l : List α} (h : ∀ c ∈ l.take l.length, p c = false) : idxBy p l = -1 := by
 unfold idxBy
 rw [if_neg]
 intro hx
 obtain ⟨c, hc, hp⟩ := List.any_eq_true.1 hx
 have := h c (by rw [List.take_length]; exact hc)
 rw [hp] at this; simp at this
theorem idx_any {α : Type} {p : α -> Bool} {l : List α} : idxBy p l < 0 ↔ l.any p = false := by
 unfold idxBy
 cases h : l.any p with
 | true => simp
 | false => simp
def grpFB (g : Grp) (b : ByteArray) : Int := if YaI g.name = false then 5 else if sle g.name b = true then 8 else Ybq g
def YaS (c : Ctr) (d : Deal) (b : ByteArray) : Int := if YaI d.name = false then 5 else if sle d.name b = true then 8 else Yas c d
def okGrp (g : Grp) : Prop := g.name.size <= 9223372036854775807 /\ ∀ s ∈ g.cut, s.party.size <= 9223372036854775807
theorem c_pTiers (l : List Tr) : Yaq Tryz.prog 146 [.sl (l.map Tr.ds)] (.v (.int .i64 (YaW l))) := by
 refine Yah (n := 51) (ds' := [.v (.int .i64 (YaW l))]) Tryz.func146 J (by kernel_rfl) J [2] J J ?_
 intro B w0 F0 fr
 refine .sr (.aN ?_)
 refine .seq (.sr (.mA ?_))
 refine .sA (.lenSl J et_61.ht J) ?_
 refine .sA (.eql J J J) (.nil ?_)
 refine .cT J (fun h1 => ?_) fun h1 => ?_
 ·rw [ZlM] at h1
  have HR : YaW l = 9 := if_pos (by omega)
  refine .sr (.aN ?_)
  refine .ret (rD J ?_)
  all_goals (first | rw [HR] | (rw [HX, Yab (f := Yaw l) hk.2 (by unfold Yaw; rw [dif_pos hlt]; grind) _ hlt]; unfold Yaw; rw [dif_pos hlt]; grind))
 rw [ZlM] at h1
 refine .skip (.seq (.sr (.mA ?_)))
 refine .sA (.lenSl J et_61.ht J) ?_
 refine .sA (.gtr J J J) (.nil ?_)
 refine .cT J (fun h2 => ?_) fun h2 => ?_
 ·rw [ZlM] at h2
  have HR : YaW l = 2 := by unfold YaW; grind
  refine .sr (.aN ?_)
  refine .ret (rD J ?_)
  all_goals (first | rw [HR] | (rw [HX, Yab (f := Yaw l) hk.2 (by unfold Yaw; rw [dif_pos hlt]; grind) _ hlt]; unfold Yaw; rw [dif_pos hlt]; grind))
 rw [ZlM] at h2
 have HX : YaW l = ffst (Yaw l) l.length := by unfold YaW; grind
 refine .skip (.seq (.sr (.mA ?_)))
 refine .sA (.lenSl J et_61.ht J) ?_
 refine .mN ?_
 refine .block (.loop (G := Nat) (fun k => Env.of [(13, .iv k), (11, .d (.sl (l.map Tr.ds))), (12, .iv (l.map Tr.ds).length), (0, .d (.sl (l.map Tr.ds)))]) (fun k => []) (fun k => k <= l.length /\ ffst (Yaw l) k = 0) (fun k => l.length - k) 0 ⟨ZnZ _, J⟩ (Sub.less ⟨U, U, U, U, trivial⟩ (fun _ h => h)) ?_)
 intro k hk
 refine .sr (.sA (.lss J J J) (.nil ?_))
 refine .seq (.cT J (fun h3 => ?_) fun h3 => ?_)
 ·rw [ZlM] at h3
  have hlt : k < l.length := by omega
  refine .skip (.seq (.block (.sr (.mA ?_))))
  refine .sA (.indexAddr J et_61 J J k J (Yad hlt) J) (.sA (.loadAgg J ag_125 J J) ?_)
  refine .alloc 101 J J J J zt_125 J J J ?_
  refine .aA ?_
  refine .store J J J sz_125 J (.head _) J J J (ZnB J) ?_
  refine .freezeCells 4 (ds := l[k].ds) J (.head _) (.nil ?_)
  refine .seq (.sr (.sA (.fieldAddr J YaN J) ?_))
  refine .sA (.load J sc_3 J) (.sA (.call J (.cons (.rfl' J) (.cons (.rfl' J) (.cons (.rfl' J) .nil))) (YbG _ _ _)) (.sA (.not J J) ?_))
  refine .mA ?_
  refine .sN 22 J (fun g4 => ?_) fun g4 => ?_
  ·refine .pA ?_
   refine .pA ?_
   refine .pA ?_
   refine .pA ?_
   refine .sA (.pickT J J J) (.nil ?_)
   refine .cond J (fun _ => ?_) (fun h => nomatch h)
   refine .sr (.aN ?_)
   refine .ret (rD J ?_)
   all_goals (first | rw [HR] | (rw [HX, Yab (f := Yaw l) hk.2 (by unfold Yaw; rw [dif_pos hlt]; grind) _ hlt]; unfold Yaw; rw [dif_pos hlt]; grind))
  refine .sG (.fieldAddr J fo_125_1 J) ?_
  refine .sG (.load J sc_3 J) ?_
  refine .sG (.call J (.cons (.rfl' J) (.cons (.rfl' J) (.cons (.rfl' J) .nil))) (YbG _ _ _)) ?_
  refine .sG (.not J J) ?_
  refine .sA (.pickF J J J) (.nil ?_)
  refine .cN J (fun h5 => ?_) fun h5 => ?_
  ·refine .sr (.aN ?_)
   refine .ret (rD J ?_)
   all_goals (first | rw [HR] | (rw [HX, Yab (f := Yaw l) hk.2 (by unfold Yaw; rw [dif_pos hlt]; grind) _ hlt]; unfold Yaw; rw [dif_pos hlt]; grind))
  refine .skip (.seq (.draw (by kernel_rfl) (by kernel_rfl) ?_))
  refine .sA (.moveD J J) (.sA (.eql J J J) (.sA (.moveD J J) ?_))
  refine .sT 30 J (fun g6 => ?_) fun g6 => ?_
  ·refine .sG (.fieldAddr J YaN J) ?_
   refine .sG (.load J sc_3 J) ?_
   refine .sG (.neq J J J) ?_
   refine .sA (.pickT J J J) (.sA (.moveD J J) ?_)
   refine .sT 35 J (fun g7 => ?_) fun g7 => ?_
   ·refine .pA ?_
    refine .pA ?_
    refine .pA ?_
    refine .pass ⟨38, J, .inr ⟨J, J⟩⟩ J J ?_
    refine .pass ⟨38, J, .inr ⟨J, J⟩⟩ J J ?_
    refine .pass ⟨38, J, .inr ⟨J, J⟩⟩ J J ?_
    refine .pass ⟨38, J, .inr ⟨J, J⟩⟩ J J ?_
    refine .pass ⟨38, J, .inr ⟨J, J⟩⟩ J J ?_
    refine .pass ⟨38, J, .inr ⟨J, J⟩⟩ J J ?_
    refine .pass ⟨38, J, .inr ⟨J, J⟩⟩ J J ?_
    refine .pass ⟨38, J, .inr ⟨J, J⟩⟩ J J ?_
    refine .pass ⟨38, J, .inr ⟨J, J⟩⟩ J J ?_
    refine .pA ?_
    refine .sA (.pickT J J J) ?_
    refine .nil ?_
    refine .cond J (fun _ => ?_) (fun h => nomatch h)
    refine .sr (.aN ?_)
    refine .ret (rD J ?_)
    all_goals (first | rw [HR] | (rw [HX, Yab (f := Yaw l) hk.2 (by unfold Yaw; rw [dif_pos hlt]; grind) _ hlt]; unfold Yaw; rw [dif_pos hlt]; grind))
   refine .sG (.moveD J J) ?_
   refine .sG (.gtr J J J) ?_
   refine .sG (.moveD J J) ?_
   refine .sT 38 J (fun g8 => ?_) fun g8 => ?_
   ·refine .sG (.fieldAddr J YaN J) ?_
    refine .sG (.load J sc_3 J) ?_
    refine .sG (.moveD J J) ?_
    refine .sG (.moveD J J) ?_
    refine .sG (.sub64 J J J) ?_
    refine .sG (.indexAddr J et_61 J J (k - 1) (by omega) (Yad (by omega)) J) ?_
    refine .sG (.fieldAddr J YaN J) ?_
    refine .sG (.load J sc_3 J) ?_
    refine .sG (.leq J J J) ?_
    refine .sG (.pickT J J J) ?_
    refine .sA (.pickF J J J) ?_
    refine .nil ?_
    refine .cT J (fun h9 => ?_) fun h9 => ?_
    ·refine .sr (.aN ?_)
     refine .ret (rD J ?_)
     all_goals (first | rw [HR] | (rw [HX, Yab (f := Yaw l) hk.2 (by unfold Yaw; rw [dif_pos hlt]; grind) _ hlt]; unfold Yaw; rw [dif_pos hlt]; grind))
    refine .skip (.region (.sA (.add64 J J J) ?_))
    refine .mN ?_
    refine ⟨k + 1, ⟨by omega, Yag hk.2 (by unfold Yaw; rw [dif_pos hlt]; grind)⟩, (by dsimp only; omega), Sub.less ⟨U, U, U, U, trivial⟩ (fun _ h => h)⟩
   refine .pA ?_
   refine .pA ?_
   refine .pA ?_
   refine .pA ?_
   refine .pA ?_
   refine .pA ?_
   refine .pA ?_
   refine .pA ?_
   refine .pA ?_
   refine .sG (.pickF J J J) ?_
   refine .sA (.pickF J J J) ?_
   refine .nil ?_
   refine .cond J (fun h => nomatch h) (fun _ => ?_)
   refine .skip (.region (.sA (.add64 J J J) ?_))
   refine .mN ?_
   refine ⟨k + 1, ⟨by omega, Yag hk.2 (by unfold Yaw; rw [dif_pos hlt]; grind)⟩, (by dsimp only; omega), Sub.less ⟨U, U, U, U, trivial⟩ (fun _ h => h)⟩
  refine .pA ?_
  refine .pA ?_
  refine .pA ?_
  refine .sA (.pickF J J J) (.sA (.moveD J J) ?_)
  refine .sG (.moveD J J) ?_
  refine .sG (.gtr J J J) ?_
  refine .sG (.moveD J J) ?_
  refine .sT 38 J (fun g10 => ?_) fun g10 => ?_
  ·refine .sG (.fieldAddr J YaN J) ?_
   refine .sG (.load J sc_3 J) ?_
   refine .sG (.moveD J J) ?_
   refine .sG (.moveD J J) ?_
   refine .sG (.sub64 J J J) ?_
   refine .sG (.indexAddr J et_61 J J (k - 1) (by omega) (Yad (by omega)) J) ?_
   refine .sG (.fieldAddr J YaN J) ?_
   refine .sG (.load J sc_3 J) ?_
   refine .sG (.leq J J J) ?_
   refine .sG (.pickT J J J) ?_
   refine .sA (.pickF J J J) ?_
   refine .nil ?_
   refine .cT J (fun h11 => ?_) fun h11 => ?_
   ·refine .sr (.aN ?_)
    refine .ret (rD J ?_)
    all_goals (first | rw [HR] | (rw [HX, Yab (f := Yaw l) hk.2 (by unfold Yaw; rw [dif_pos hlt]; grind) _ hlt]; unfold Yaw; rw [dif_pos hlt]; grind))
   refine .skip (.region (.sA (.add64 J J J) ?_))
   refine .mN ?_
   refine ⟨k + 1, ⟨by omega, Yag hk.2 (by unfold Yaw; rw [dif_pos hlt]; grind)⟩, (by dsimp only; omega), Sub.less ⟨U, U, U, U, trivial⟩ (fun _ h => h)⟩
  refine .pA ?_
  refine .pA ?_
  refine .pA ?_
  refine .pA ?_
  refine .pA ?_
  refine .pA ?_
  refine .pA ?_
  refine .pA ?_
  refine .pA ?_
  refine .sG (.pickF J J J) ?_
  refine .sA (.pickF J J J) ?_
  refine .nil ?_
  refine .cond J (fun h => nomatch h) (fun _ => ?_)
  refine .skip (.region (.sA (.add64 J J J) ?_))
  refine .mN ?_
  refine ⟨k + 1, ⟨by omega, Yag hk.2 (by unfold Yaw; rw [dif_pos hlt]; grind)⟩, (by dsimp only; omega), Sub.less ⟨U, U, U, U, trivial⟩ (fun _ h => h)⟩
 rw [ZlM] at h3
 have HR : YaW l = 0 := by rw [HX, show l.length = k by omega]; exact hk.2
 refine .exit (.sr (.aN ?_))
 refine .ret (rD J ?_)
 all_goals (first | rw [HR] | (rw [HX, Yab (f := Yaw l) hk.2 (by unfold Yaw; rw [dif_pos hlt]; grind) _ hlt]; unfold Yaw; rw [dif_pos hlt]; grind))
theorem c_rTiers (l : List Tr) : Yaq Tryz.prog 235 [.sl (l.map Tr.ds)] (.v (.int .i64 (YaW l))) := by
 refine Yah (n := 53) (ds' := [.v (.int .i64 (YaW l))]) Tryz.func235 J (by kernel_rfl) J [2] J J ?_
 intro B w0 F0 fr
 refine .sr (.aN ?_)
 refine .seq (.sr (.mA ?_))
 refine .sA (.lenSl J et_61.ht J) ?_
 refine .sA (.eql J J J) (.nil ?_)
 refine .cT J (fun h1 => ?_) fun h1 => ?_
 ·rw [ZlM] at h1
  have HR : YaW l = 9 := if_pos (by omega)
  refine .sr (.aN ?_)
  refine .ret (rD J ?_)
  all_goals (first | rw [HR] | (rw [HX, Yab (f := Yaw l) hk.2 (by unfold Yaw; rw [dif_pos hlt]; grind) _ hlt]; unfold Yaw; rw [dif_pos hlt]; grind))
 rw [ZlM] at h1
 refine .skip (.seq (.sr (.mA ?_)))
 refine .sA (.lenSl J et_61.ht J) ?_
 refine .sA (.gtr J J J) (.nil ?_)
 refine .cT J (fun h2 => ?_) fun h2 => ?_
 ·rw [ZlM] at h2
  have HR : YaW l = 2 := by unfold YaW; grind
  refine .sr (.aN ?_)
  refine .ret (rD J ?_)
  all_goals (first | rw [HR] | (rw [HX, Yab (f := Yaw l) hk.2 (by unfold Yaw; rw [dif_pos hlt]; grind) _ hlt]; unfold Yaw; rw [dif_pos hlt]; grind))
 rw [ZlM] at h2
 have HX : YaW l = ffst (Yaw l) l.length := by unfold YaW; grind
 refine .skip (.seq (.sr (.mA ?_)))
 refine .sA (.lenSl J et_61.ht J) ?_
 refine .mN ?_
 refine .block (.loop (G := Nat) (fun k => Env.of [(13, .iv k), (11, .d (.sl (l.map Tr.ds))), (12, .iv (l.map Tr.ds).length), (0, .d (.sl (l.map Tr.ds)))]) (fun k => []) (fun k => k <= l.length /\ ffst (Yaw l) k = 0) (fun k => l.length - k) 0 ⟨ZnZ _, J⟩ (Sub.less ⟨U, U, U, U, trivial⟩ (fun _ h => h)) ?_)
 intro k hk
 refine .sr (.sA (.lss J J J) (.nil ?_))
 refine .seq (.cT J (fun h3 => ?_) fun h3 => ?_)
 ·rw [ZlM] at h3
  have hlt : k < l.length := by omega
  refine .skip (.seq (.block (.sr (.mA ?_))))
  refine .sA (.indexAddr J et_61 J J k J (Yad hlt) J) (.sA (.loadAgg J ag_125 J J) ?_)
  refine .alloc 101 J J J J zt_125 J J J ?_
  refine .aA ?_
  refine .store J J J sz_125 J (.head _) J J J (ZnB J) ?_
  refine .freezeCells 4 (ds := l[k].ds) J (.head _) (.nil ?_)
  refine .block (.sr (.sA (.fieldAddr J YaN J) ?_))
  refine .sA (.load J sc_3 J) (.sA (.call J (.cons (.rfl' J) (.cons (.rfl' J) (.cons (.rfl' J) .nil))) (Ybr _ _ _)) (.sA (.not J J) ?_))
  refine .mA ?_
  refine .sN 23 J (fun g4 => ?_) fun g4 => ?_
  ·refine .pA ?_
   refine .pA ?_
   refine .pA ?_
   refine .pA ?_
   refine .sA (.pickT J J J) ?_
   refine .aN ?_
   refine .cond J (fun _ => ?_) (fun h => nomatch h)
   refine .sr (.aN ?_)
   refine .ret (rD J ?_)
   all_goals (first | rw [HR] | (rw [HX, Yab (f := Yaw l) hk.2 (by unfold Yaw; rw [dif_pos hlt]; grind) _ hlt]; unfold Yaw; rw [dif_pos hlt]; grind))
  refine .sG (.fieldAddr J fo_125_1 J) ?_
  refine .sG (.load J sc_3 J) ?_
  refine .sG (.call J (.cons (.rfl' J) (.cons (.rfl' J) (.cons (.rfl' J) .nil))) (Ybr _ _ _)) ?_
  refine .sG (.not J J) ?_
  refine .sA (.pickF J J J) ?_
  refine .aN ?_
  refine .cN J (fun h5 => ?_) fun h5 => ?_
  ·refine .sr (.aN ?_)
   refine .ret (rD J ?_)
   all_goals (first | rw [HR] | (rw [HX, Yab (f := Yaw l) hk.2 (by unfold Yaw; rw [dif_pos hlt]; grind) _ hlt]; unfold Yaw; rw [dif_pos hlt]; grind))
  refine .seq (.draw (by kernel_rfl) (by kernel_rfl) ?_)
  refine .sA (.moveD J J) (.sA (.eql J J J) (.sA (.moveD J J) ?_))
  refine .sT 32 J (fun g6 => ?_) fun g6 => ?_
  ·refine .sG (.fieldAddr J YaN J) ?_
   refine .sG (.load J sc_3 J) ?_
   refine .sG (.neq J J J) ?_
   refine .sA (.pickT J J J) (.sA (.moveD J J) ?_)
   refine .sT 37 J (fun g7 => ?_) fun g7 => ?_
   ·refine .pA ?_
    refine .pA ?_
    refine .pA ?_
    refine .pass ⟨40, J, .inr ⟨J, J⟩⟩ J J ?_
    refine .pass ⟨40, J, .inr ⟨J, J⟩⟩ J J ?_
    refine .pass ⟨40, J, .inr ⟨J, J⟩⟩ J J ?_
    refine .pass ⟨40, J, .inr ⟨J, J⟩⟩ J J ?_
    refine .pass ⟨40, J, .inr ⟨J, J⟩⟩ J J ?_
    refine .pass ⟨40, J, .inr ⟨J, J⟩⟩ J J ?_
    refine .pass ⟨40, J, .inr ⟨J, J⟩⟩ J J ?_
    refine .pass ⟨40, J, .inr ⟨J, J⟩⟩ J J ?_
    refine .pass ⟨40, J, .inr ⟨J, J⟩⟩ J J ?_
    refine .pA ?_
    refine .sA (.pickT J J J) (.sA (.assignD J J) ?_)
    refine .nil ?_
    refine .cond J (fun _ => ?_) (fun h => nomatch h)
    refine .sr (.aN ?_)
    refine .ret (rD J ?_)
    all_goals (first | rw [HR] | (rw [HX, Yab (f := Yaw l) hk.2 (by unfold Yaw; rw [dif_pos hlt]; grind) _ hlt]; unfold Yaw; rw [dif_pos hlt]; grind))
   refine .sG (.moveD J J) ?_
   refine .sG (.gtr J J J) ?_
   refine .sG (.moveD J J) ?_
   refine .sT 40 J (fun g8 => ?_) fun g8 => ?_
   ·refine .sG (.fieldAddr J YaN J) ?_
    refine .sG (.load J sc_3 J) ?_
    refine .sG (.moveD J J) ?_
    refine .sG (.moveD J J) ?_
    refine .sG (.sub64 J J J) ?_
    refine .sG (.indexAddr J et_61 J J (k - 1) (by omega) (Yad (by omega)) J) ?_
    refine .sG (.fieldAddr J YaN J) ?_
    refine .sG (.load J sc_3 J) ?_
    refine .sG (.leq J J J) ?_
    refine .sG (.pickT J J J) ?_
    refine .sA (.pickF J J J) (.sA (.assignD J J) ?_)
    refine .nil ?_
    refine .cT J (fun h9 => ?_) fun h9 => ?_
    ·refine .sr (.aN ?_)
     refine .ret (rD J ?_)
     all_goals (first | rw [HR] | (rw [HX, Yab (f := Yaw l) hk.2 (by unfold Yaw; rw [dif_pos hlt]; grind) _ hlt]; unfold Yaw; rw [dif_pos hlt]; grind))
    refine .skip (.region (.sA (.add64 J J J) ?_))
    refine .mN ?_
    refine ⟨k + 1, ⟨by omega, Yag hk.2 (by unfold Yaw; rw [dif_pos hlt]; grind)⟩, (by dsimp only; omega), Sub.less ⟨U, U, U, U, trivial⟩ (fun _ h => h)⟩
   refine .pA ?_
   refine .pA ?_
   refine .pA ?_
   refine .pA ?_
   refine .pA ?_
   refine .pA ?_
   refine .pA ?_
   refine .pA ?_
   refine .pA ?_
   refine .sG (.pickF J J J) ?_
   refine .sA (.pickF J J J) (.sA (.assignD J J) ?_)
   refine .nil ?_
   refine .cond J (fun h => nomatch h) (fun _ => ?_)
   refine .skip (.region (.sA (.add64 J J J) ?_))
   refine .mN ?_
   refine ⟨k + 1, ⟨by omega, Yag hk.2 (by unfold Yaw; rw [dif_pos hlt]; grind)⟩, (by dsimp only; omega), Sub.less ⟨U, U, U, U, trivial⟩ (fun _ h => h)⟩
  refine .pA ?_
  refine .pA ?_
  refine .pA ?_
  refine .sA (.pickF J J J) (.sA (.moveD J J) ?_)
  refine .sG (.moveD J J) ?_
  refine .sG (.gtr J J J) ?_
  refine .sG (.moveD J J) ?_
  refine .sT 40 J (fun g10 => ?_) fun g10 => ?_
  ·refine .sG (.fieldAddr J YaN J) ?_
   refine .sG (.load J sc_3 J) ?_
   refine .sG (.moveD J J) ?_
   refine .sG (.moveD J J) ?_
   refine .sG (.sub64 J J J) ?_
   refine .sG (.indexAddr J et_61 J J (k - 1) (by omega) (Yad (by omega)) J) ?_
   refine .sG (.fieldAddr J YaN J) ?_
   refine .sG (.load J sc_3 J) ?_
   refine .sG (.leq J J J) ?_
   refine .sG (.pickT J J J) ?_
   refine .sA (.pickF J J J) (.sA (.assignD J J) ?_)
   refine .nil ?_
   refine .cT J (fun h11 => ?_) fun h11 => ?_
   ·refine .sr (.aN ?_)
    refine .ret (rD J ?_)
    all_goals (first | rw [HR] | (rw [HX, Yab (f := Yaw l) hk.2 (by unfold Yaw; rw [dif_pos hlt]; grind) _ hlt]; unfold Yaw; rw [dif_pos hlt]; grind))
   refine .skip (.region (.sA (.add64 J J J) ?_))
   refine .mN ?_
   refine ⟨k + 1, ⟨by omega, Yag hk.2 (by unfold Yaw; rw [dif_pos hlt]; grind)⟩, (by dsimp only; omega), Sub.less ⟨U, U, U, U, trivial⟩ (fun _ h => h)⟩
  refine .pA ?_
  refine .pA ?_
  refine .pA ?_
  refine .pA ?_
  refine .pA ?_
  refine .pA ?_
  refine .pA ?_
  refine .pA ?_
  refine .pA ?_
  refine .sG (.pickF J J J) ?_
  refine .sA (.pickF J J J) (.sA (.assignD J J) ?_)
  refine .nil ?_
  refine .cond J (fun h => nomatch h) (fun _ => ?_)
  refine .skip (.region (.sA (.add64 J J J) ?_))
  refine .mN ?_
  refine ⟨k + 1, ⟨by omega, Yag hk.2 (by unfold Yaw; rw [dif_pos hlt]; grind)⟩, (by dsimp only; omega), Sub.less ⟨U, U, U, U, trivial⟩ (fun _ h => h)⟩
 rw [ZlM] at h3
 have HR : YaW l = 0 := by rw [HX, show l.length = k by omega]; exact hk.2
 refine .exit (.sr (.aN ?_))
 refine .ret (rD J ?_)
 all_goals (first | rw [HR] | (rw [HX, Yab (f := Yaw l) hk.2 (by unfold Yaw; rw [dif_pos hlt]; grind) _ hlt]; unfold Yaw; rw [dif_pos hlt]; grind))
theorem c_pGrp (g : Grp) (b : ByteArray) (hg : okGrp g) : Yaq Tryz.prog 111 [.agg g.ds, .v (.string b)] (.v (.int .i64 (grpFB g b))) := by
 refine Yah (n := 66) (ds' := [.v (.int .i64 (grpFB g b))]) Tryz.func111 J (by kernel_rfl) J [4] J J ?_
 intro B w0 F0 fr
 refine .sr (.sA (.box J J J) ?_)
 refine .aN ?_
 refine .seq (.block (.sr (.sA (.fieldAddr J Ya1 J) ?_)))
 refine .sA (.load J sc_9 J) (.sA (.call J (.cons (.rfl' J) .nil) (c_pName _ hg.1)) (.sA (.not J J) ?_))
 refine .aN ?_
 refine .cond J (fun h1 => ?_) (fun h1 => ?_)
 ·replace h1 := Ybb h1
  have n0 := h1
  have HR : grpFB g b = 5 := by unfold grpFB Ybq; grind
  refine .sr (.aN ?_)
  refine .ret (rD J ?_)
  all_goals (first | rw [HR] | (rw [HX, Yab (f := stkF g.cut) hk.2 (by unfold stkF; rw [dif_pos hlt]; grind) _ hlt]; unfold stkF; rw [dif_pos hlt]; grind))
 replace h1 := Ybc h1
 have n1 : ¬ YaI g.name = false := by rw [h1]; decide
 refine .sr (.sA (.fieldAddr J Ya1 J) ?_)
 refine .sA (.load J sc_9 J) ?_
 refine .mA ?_
 refine .sA (.sleq J J J) ?_
 refine .aN ?_
 refine .cond J (fun h2 => ?_) (fun h2 => ?_)
 ·skip
  have n2 : sle g.name b = true := h2
  have HR : grpFB g b = 8 := by unfold grpFB Ybq; grind
  refine .sr (.aN ?_)
  refine .ret (rD J ?_)
  all_goals (first | rw [HR] | (rw [HX, Yab (f := stkF g.cut) hk.2 (by unfold stkF; rw [dif_pos hlt]; grind) _ hlt]; unfold stkF; rw [dif_pos hlt]; grind))
 have n2 : ¬ sle g.name b = true := by intro hh; rw [show sle g.name b = false from h2] at hh; cases hh
 refine .sr (.sA (.fieldAddr J fo_128_1 J) ?_)
 refine .sA (.load J sc_3 J) (.sA (.call J (.cons (.rfl' J) (.cons (.rfl' J) (.cons (.rfl' J) .nil))) (YbG _ _ _)) (.sA (.not J J) ?_))
 refine .aN ?_
 refine .cN J (fun h3 => ?_) fun h3 => ?_
 ·have HR : grpFB g b = 1 := by unfold grpFB Ybq; grind
  refine .sr (.aN ?_)
  refine .ret (rD J ?_)
  all_goals (first | rw [HR] | (rw [HX, Yab (f := stkF g.cut) hk.2 (by unfold stkF; rw [dif_pos hlt]; grind) _ hlt]; unfold stkF; rw [dif_pos hlt]; grind))
 refine .sr (.sA (.fieldAddr J YaT J) ?_)
 refine .sA (.load J YbV J) (.sA (.lenSl J et_126.ht J) (.sA (.eql J J J) ?_))
 refine .aN ?_
 refine .cT J (fun h4 => ?_) fun h4 => ?_
 ·rw [ZlM] at h4
  have HR : grpFB g b = 9 := by unfold grpFB Ybq; grind
  refine .sr (.aN ?_)
  refine .ret (rD J ?_)
  all_goals (first | rw [HR] | (rw [HX, Yab (f := stkF g.cut) hk.2 (by unfold stkF; rw [dif_pos hlt]; grind) _ hlt]; unfold stkF; rw [dif_pos hlt]; grind))
 rw [ZlM] at h4
 refine .sr (.sA (.fieldAddr J YaT J) ?_)
 refine .sA (.load J YbV J) (.sA (.lenSl J et_126.ht J) (.sA (.gtr J J J) ?_))
 refine .aN ?_
 refine .cT J (fun h5 => ?_) fun h5 => ?_
 ·rw [ZlM] at h5
  have HR : grpFB g b = 2 := by unfold grpFB Ybq; grind
  refine .sr (.aN ?_)
  refine .ret (rD J ?_)
  all_goals (first | rw [HR] | (rw [HX, Yab (f := stkF g.cut) hk.2 (by unfold stkF; rw [dif_pos hlt]; grind) _ hlt]; unfold stkF; rw [dif_pos hlt]; grind))
 rw [ZlM] at h5
 have HX : grpFB g b = ffst (stkF g.cut) g.cut.length := by unfold grpFB Ybq; grind
 refine .skip (.seq (.sr (.sA (.fieldAddr J YaT J) ?_)))
 refine .sA (.load J YbV J) (.sA (.lenSl J et_126.ht J) ?_)
 refine .mN ?_
 refine .block (.loop (G := Nat) (fun k => Env.of [(35, .iv k), (33, .d (.sl (g.cut.map Stk.ds))), (34, .iv (g.cut.map Stk.ds).length), (2, .d (.fp g.ds))]) (fun k => []) (fun k => k <= g.cut.length /\ ffst (stkF g.cut) k = 0) (fun k => g.cut.length - k) 0 ⟨ZnZ _, J⟩ (Sub.less ⟨U, U, U, U, trivial⟩ (fun _ h => h)) ?_)
 intro k hk
 refine .sr (.sA (.lss J J J) (.nil ?_))
 refine .seq (.cT J (fun h6 => ?_) fun h6 => ?_)
 ·rw [ZlM] at h6
  have hlt : k < g.cut.length := by omega
  have hgk := hg.2 _ (ZgM hlt)
  refine .skip (.seq (.block (.sr (.mA ?_))))
  refine .sA (.indexAddr J et_126 J J k J (Yad hlt) J) (.sA (.loadAgg J ag_131 J J) ?_)
  refine .alloc 101 J J J J zt_131 J J J ?_
  refine .aA ?_
  refine .store J J J sz_131 J (.head _) J J J (ZnB J) ?_
  refine .freezeCells 6 (ds := g.cut[k].ds) J (.head _) (.nil ?_)
  refine .block (.sr (.sA (.fieldAddr J Yb9 J) ?_))
  refine .sA (.load J sc_9 J) (.sA (.call J (.cons (.rfl' J) .nil) (c_pName _ hgk)) (.sA (.not J J) ?_))
  refine .aN ?_
  refine .cond J (fun h7 => ?_) (fun h7 => ?_)
  ·replace h7 := Ybb h7
   refine .sr (.aN ?_)
   refine .ret (rD J ?_)
   all_goals (first | rw [HR] | (rw [HX, Yab (f := stkF g.cut) hk.2 (by unfold stkF; rw [dif_pos hlt]; grind) _ hlt]; unfold stkF; rw [dif_pos hlt]; grind))
  replace h7 := Ybc h7
  have n4 : ¬ YaI g.cut[k].party = false := by rw [h7]; decide
  refine .seq (.draw (by kernel_rfl) (by kernel_rfl) ?_)
  refine .sA (.moveD J J) (.sA (.gtr J J J) (.sA (.moveD J J) ?_))
  refine .sT 48 J (fun g8 => ?_) fun g8 => ?_
  ·have hk0 : 0 < k := by omega
   refine .sG (.fieldAddr J Yb9 J) ?_
   refine .sG (.load J sc_9 J) ?_
   refine .sG (.fieldAddr J YaT J) ?_
   refine .sG (.load J YbV J) ?_
   refine .sG (.moveD J J) ?_
   refine .sG (.sub64 J J J) ?_
   refine .sG (.indexAddr J et_126 J J (k - 1) (by omega) (Yad (by omega)) J) ?_
   refine .sG (.fieldAddr J Yb9 J) ?_
   refine .sG (.load J sc_9 J) ?_
   refine .sG (.sleq J J J) ?_
   refine .sA (.pickT J J J) (.sA (.assignD J J) ?_)
   refine .nil ?_
   refine .cond J (fun h9 => ?_) (fun h9 => ?_)
   ·skip
    have n5 : (0 < k /\ sle g.cut[k].party (g.cut[k-1]'(by omega)).party = true) := ⟨hk0, h9⟩
    refine .sr (.aN ?_)
    refine .ret (rD J ?_)
    all_goals (first | rw [HR] | (rw [HX, Yab (f := stkF g.cut) hk.2 (by unfold stkF; rw [dif_pos hlt]; grind) _ hlt]; unfold stkF; rw [dif_pos hlt]; grind))
   have n5 : ¬ (0 < k /\ sle g.cut[k].party (g.cut[k-1]'(by omega)).party = true) := fun hh => by have h5 := hh.2; rw [show sle g.cut[k].party (g.cut[k-1]'(by omega)).party = false from h9] at h5; cases h5
   refine .sr (.sA (.fieldAddr J fo_131_1 J) ?_)
   refine .sA (.load J sc_3 J) (.sA (.call J (.cons (.rfl' J) (.cons (.rfl' J) (.cons (.rfl' J) .nil))) (YbG _ _ _)) (.sA (.not J J) ?_))
   refine .aN ?_
   refine .cN J (fun h10 => ?_) fun h10 => ?_
   ·refine .sr (.aN ?_)
    refine .ret (rD J ?_)
    all_goals (first | rw [HR] | (rw [HX, Yab (f := stkF g.cut) hk.2 (by unfold stkF; rw [dif_pos hlt]; grind) _ hlt]; unfold stkF; rw [dif_pos hlt]; grind))
   refine .skip (.region (.sA (.add64 J J J) ?_))
   refine .mN ?_
   refine ⟨k + 1, ⟨by omega, Yag hk.2 (by unfold stkF; rw [dif_pos hlt]; grind)⟩, (by dsimp only; omega), Sub.less ⟨U, U, U, U, trivial⟩ (fun _ h => h)⟩
  have n5 : ¬ (0 < k /\ sle g.cut[k].party (g.cut[k-1]'(by omega)).party = true) := fun hh => by omega
  refine .pA ?_
  refine .pA ?_
  refine .pA ?_
  refine .pA ?_
  refine .pA ?_
  refine .pA ?_
  refine .pA ?_
  refine .pA ?_
  refine .pA ?_
  refine .pA ?_
  refine .sA (.pickF J J J) (.sA (.assignD J J) ?_)
  refine .nil ?_
  refine .cond J (fun h => nomatch h) (fun _ => ?_)
  refine .sr (.sA (.fieldAddr J fo_131_1 J) ?_)
  refine .sA (.load J sc_3 J) (.sA (.call J (.cons (.rfl' J) (.cons (.rfl' J) (.cons (.rfl' J) .nil))) (YbG _ _ _)) (.sA (.not J J) ?_))
  refine .aN ?_
  refine .cN J (fun h11 => ?_) fun h11 => ?_
  ·refine .sr (.aN ?_)
   refine .ret (rD J ?_)
   all_goals (first | rw [HR] | (rw [HX, Yab (f := stkF g.cut) hk.2 (by unfold stkF; rw [dif_pos hlt]; grind) _ hlt]; unfold stkF; rw [dif_pos hlt]; grind))
  refine .skip (.region (.sA (.add64 J J J) ?_))
  refine .mN ?_
  refine ⟨k + 1, ⟨by omega, Yag hk.2 (by unfold stkF; rw [dif_pos hlt]; grind)⟩, (by dsimp only; omega), Sub.less ⟨U, U, U, U, trivial⟩ (fun _ h => h)⟩
 rw [ZlM] at h6
 have HR : grpFB g b = 0 := by rw [HX, show g.cut.length = k by omega]; exact hk.2
 refine .exit (.sr (.aN ?_))
 refine .ret (rD J ?_)
 all_goals (first | rw [HR] | (rw [HX, Yab (f := stkF g.cut) hk.2 (by unfold stkF; rw [dif_pos hlt]; grind) _ hlt]; unfold stkF; rw [dif_pos hlt]; grind))
theorem c_rGrp (g : Grp) (hg : okGrp g) : Yaq Tryz.prog 199 [.agg g.ds] (.v (.int .i64 (Ybq g))) := by
 refine Yah (n := 54) (ds' := [.v (.int .i64 (Ybq g))]) Tryz.func199 J (by kernel_rfl) J [2] J J ?_
 intro B w0 F0 fr
 refine .sr (.sA (.box J J J) ?_)
 refine .aN ?_
 refine .seq (.block (.sr (.sA (.fieldAddr J fo_128_1 J) ?_)))
 refine .sA (.load J sc_3 J) (.sA (.call J (.cons (.rfl' J) (.cons (.rfl' J) (.cons (.rfl' J) .nil))) (Ybr _ _ _)) (.sA (.not J J) ?_))
 refine .aN ?_
 refine .cN J (fun h1 => ?_) fun h1 => ?_
 ·have HR : Ybq g = 1 := by unfold Ybq; grind
  refine .sr (.aN ?_)
  refine .ret (rD J ?_)
  all_goals (first | rw [HR] | (rw [HX, Yab (f := stkF g.cut) hk.2 (by unfold stkF; rw [dif_pos hlt]; grind) _ hlt]; unfold stkF; rw [dif_pos hlt]; grind))
 refine .sr (.sA (.fieldAddr J YaT J) ?_)
 refine .sA (.load J YbV J) (.sA (.lenSl J et_126.ht J) (.sA (.eql J J J) ?_))
 refine .aN ?_
 refine .cT J (fun h2 => ?_) fun h2 => ?_
 ·rw [ZlM] at h2
  have HR : Ybq g = 9 := by unfold Ybq; grind
  refine .sr (.aN ?_)
  refine .ret (rD J ?_)
  all_goals (first | rw [HR] | (rw [HX, Yab (f := stkF g.cut) hk.2 (by unfold stkF; rw [dif_pos hlt]; grind) _ hlt]; unfold stkF; rw [dif_pos hlt]; grind))
 rw [ZlM] at h2
 refine .sr (.sA (.fieldAddr J YaT J) ?_)
 refine .sA (.load J YbV J) (.sA (.lenSl J et_126.ht J) (.sA (.gtr J J J) ?_))
 refine .aN ?_
 refine .cT J (fun h3 => ?_) fun h3 => ?_
 ·rw [ZlM] at h3
  have HR : Ybq g = 2 := by unfold Ybq; grind
  refine .sr (.aN ?_)
  refine .ret (rD J ?_)
  all_goals (first | rw [HR] | (rw [HX, Yab (f := stkF g.cut) hk.2 (by unfold stkF; rw [dif_pos hlt]; grind) _ hlt]; unfold stkF; rw [dif_pos hlt]; grind))
 rw [ZlM] at h3
 have HX : Ybq g = ffst (stkF g.cut) g.cut.length := by unfold Ybq; grind
 refine .skip (.seq (.sr (.sA (.fieldAddr J YaT J) ?_)))
 refine .sA (.load J YbV J) (.sA (.lenSl J et_126.ht J) ?_)
 refine .mN ?_
 refine .block (.loop (G := Nat) (fun k => Env.of [(23, .iv k), (21, .d (.sl (g.cut.map Stk.ds))), (22, .iv (g.cut.map Stk.ds).length), (1, .d (.fp g.ds))]) (fun k => []) (fun k => k <= g.cut.length /\ ffst (stkF g.cut) k = 0) (fun k => g.cut.length - k) 0 ⟨ZnZ _, J⟩ (Sub.less ⟨U, U, U, U, trivial⟩ (fun _ h => h)) ?_)
 intro k hk
 refine .sr (.sA (.lss J J J) (.nil ?_))
 refine .seq (.cT J (fun h4 => ?_) fun h4 => ?_)
 ·rw [ZlM] at h4
  have hlt : k < g.cut.length := by omega
  have hgk := hg.2 _ (ZgM hlt)
  refine .skip (.seq (.block (.sr (.mA ?_))))
  refine .sA (.indexAddr J et_126 J J k J (Yad hlt) J) (.sA (.loadAgg J ag_131 J J) ?_)
  refine .alloc 101 J J J J zt_131 J J J ?_
  refine .aA ?_
  refine .store J J J sz_131 J (.head _) J J J (ZnB J) ?_
  refine .freezeCells 4 (ds := g.cut[k].ds) J (.head _) (.nil ?_)
  refine .block (.sr (.sA (.fieldAddr J Yb9 J) ?_))
  refine .sA (.load J sc_9 J) (.sA (.call J (.cons (.rfl' J) .nil) (c_rName _ hgk)) (.sA (.not J J) ?_))
  refine .aN ?_
  refine .cond J (fun h5 => ?_) (fun h5 => ?_)
  ·replace h5 := Ybb h5
   refine .sr (.aN ?_)
   refine .ret (rD J ?_)
   all_goals (first | rw [HR] | (rw [HX, Yab (f := stkF g.cut) hk.2 (by unfold stkF; rw [dif_pos hlt]; grind) _ hlt]; unfold stkF; rw [dif_pos hlt]; grind))
  replace h5 := Ybc h5
  have n4 : ¬ YaI g.cut[k].party = false := by rw [h5]; decide
  refine .seq (.draw (by kernel_rfl) (by kernel_rfl) ?_)
  refine .sA (.moveD J J) (.sA (.gtr J J J) (.sA (.moveD J J) ?_))
  refine .sT 36 J (fun g6 => ?_) fun g6 => ?_
  ·have hk0 : 0 < k := by omega
   refine .sG (.fieldAddr J Yb9 J) ?_
   refine .sG (.load J sc_9 J) ?_
   refine .sG (.fieldAddr J YaT J) ?_
   refine .sG (.load J YbV J) ?_
   refine .sG (.moveD J J) ?_
   refine .sG (.sub64 J J J) ?_
   refine .sG (.indexAddr J et_126 J J (k - 1) (by omega) (Yad (by omega)) J) ?_
   refine .sG (.fieldAddr J Yb9 J) ?_
   refine .sG (.load J sc_9 J) ?_
   refine .sG (.sleq J J J) ?_
   refine .sA (.pickT J J J) (.sA (.assignD J J) ?_)
   refine .nil ?_
   refine .cond J (fun h7 => ?_) (fun h7 => ?_)
   ·skip
    have n5 : (0 < k /\ sle g.cut[k].party (g.cut[k-1]'(by omega)).party = true) := ⟨hk0, h7⟩
    refine .sr (.aN ?_)
    refine .ret (rD J ?_)
    all_goals (first | rw [HR] | (rw [HX, Yab (f := stkF g.cut) hk.2 (by unfold stkF; rw [dif_pos hlt]; grind) _ hlt]; unfold stkF; rw [dif_pos hlt]; grind))
   have n5 : ¬ (0 < k /\ sle g.cut[k].party (g.cut[k-1]'(by omega)).party = true) := fun hh => by have h5 := hh.2; rw [show sle g.cut[k].party (g.cut[k-1]'(by omega)).party = false from h7] at h5; cases h5
   refine .sr (.sA (.fieldAddr J fo_131_1 J) ?_)
   refine .sA (.load J sc_3 J) (.sA (.call J (.cons (.rfl' J) (.cons (.rfl' J) (.cons (.rfl' J) .nil))) (Ybr _ _ _)) (.sA (.not J J) ?_))
   refine .aN ?_
   refine .cN J (fun h8 => ?_) fun h8 => ?_
   ·refine .sr (.aN ?_)
    refine .ret (rD J ?_)
    all_goals (first | rw [HR] | (rw [HX, Yab (f := stkF g.cut) hk.2 (by unfold stkF; rw [dif_pos hlt]; grind) _ hlt]; unfold stkF; rw [dif_pos hlt]; grind))
   refine .skip (.region (.sA (.add64 J J J) ?_))
   refine .mN ?_
   refine ⟨k + 1, ⟨by omega, Yag hk.2 (by unfold stkF; rw [dif_pos hlt]; grind)⟩, (by dsimp only; omega), Sub.less ⟨U, U, U, U, trivial⟩ (fun _ h => h)⟩
  have n5 : ¬ (0 < k /\ sle g.cut[k].party (g.cut[k-1]'(by omega)).party = true) := fun hh => by omega
  refine .pA ?_
  refine .pA ?_
  refine .pA ?_
  refine .pA ?_
  refine .pA ?_
  refine .pA ?_
  refine .pA ?_
  refine .pA ?_
  refine .pA ?_
  refine .pA ?_
  refine .sA (.pickF J J J) (.sA (.assignD J J) ?_)
  refine .nil ?_
  refine .cond J (fun h => nomatch h) (fun _ => ?_)
  refine .sr (.sA (.fieldAddr J fo_131_1 J) ?_)
  refine .sA (.load J sc_3 J) (.sA (.call J (.cons (.rfl' J) (.cons (.rfl' J) (.cons (.rfl' J) .nil))) (Ybr _ _ _)) (.sA (.not J J) ?_))
  refine .aN ?_
  refine .cN J (fun h9 => ?_) fun h9 => ?_
  ·refine .sr (.aN ?_)
   refine .ret (rD J ?_)
   all_goals (first | rw [HR] | (rw [HX, Yab (f := stkF g.cut) hk.2 (by unfold stkF; rw [dif_pos hlt]; grind) _ hlt]; unfold stkF; rw [dif_pos hlt]; grind))
  refine .skip (.region (.sA (.add64 J J J) ?_))
  refine .mN ?_
  refine ⟨k + 1, ⟨by omega, Yag hk.2 (by unfold stkF; rw [dif_pos hlt]; grind)⟩, (by dsimp only; omega), Sub.less ⟨U, U, U, U, trivial⟩ (fun _ h => h)⟩
 rw [ZlM] at h4
 have HR : Ybq g = 0 := by rw [HX, show g.cut.length = k by omega]; exact hk.2
 refine .exit (.sr (.aN ?_))
 refine .ret (rD J ?_)
 all_goals (first | rw [HR] | (rw [HX, Yab (f := stkF g.cut) hk.2 (by unfold stkF; rw [dif_pos hlt]; grind) _ hlt]; unfold stkF; rw [dif_pos hlt]; grind))
theorem c_ixGrp (l : List Grp) (p : Grp -> Bool) (f : Nat) (caps : List D) (hp : ∀ x : Grp, Yaq Tryz.prog f (.agg x.ds :: caps) (.v (.bool (p x)))) : Yaq Tryz.prog 203 [.sl (l.map Grp.ds), .clo (.func f) caps] (.v (.int .i64 (idxBy p l))) := by
 refine Yah (n := 19) (ds' := [.v (.int .i64 (idxBy p l))]) Tryz.func203 J (by kernel_rfl) J [4] J J ?_
 intro B w0 F0 fr
 refine .bound 0 J (fun hbd0 => ?_)
 rw [ZlM] at hbd0
 refine .sr (.aN ?_)
 refine .seq (.sr (.mA ?_))
 refine .sA (.lenSl J et_34.ht J) ?_
 refine .mN ?_
 refine .block (.loop (G := Nat) (fun k => Env.of [(8, .iv k), (6, .d (.sl (l.map Grp.ds))), (7, .iv (l.map Grp.ds).length), (0, .d (.sl (l.map Grp.ds))), (1, .d (.clo (.func f) caps))]) (fun k => []) (fun k => k <= l.length /\ ∀ c ∈ l.take k, p c = false) (fun k => l.length - k) 0 ⟨ZnZ _, fun c h => by simp at h⟩ (Sub.less ⟨U, U, U, U, U, trivial⟩ (fun _ h => h)) ?_)
 intro k hk
 refine .sr (.sA (.lss J J J) (.nil ?_))
 refine .seq (.cT J (fun h1 => ?_) fun h1 => ?_)
 ·rw [ZlM] at h1
  have hlt : k < l.length := by omega
  refine .skip (.seq (.block (.sr (.mA ?_))))
  refine .aN ?_
  refine .sr (.mA ?_)
  refine .mA ?_
  refine .mA ?_
  refine .sA (.indexAddr J et_34 J J k J (Yad hlt) J) (.sA (.loadAgg J ag_128 J J) ?_)
  refine .sA (.callClo J J (.cons (.rfl' J) .nil) (hp l[k])) (.nil ?_)
  refine .cond J (fun h2 => ?_) (fun h2 => ?_)
  ·skip
   rw [idxBy_yes hlt hk.2 h2]
   refine .sr (.mA ?_)
   refine .aN ?_
   refine .ret (rD J ?_)
   all_goals (rfl)
  have hT := take_f hlt hk.2 h2
  refine .skip (.region (.sA (.add64 J J J) ?_))
  refine .mN ?_
  refine ⟨k + 1, ⟨by omega, hT⟩, (by dsimp only; omega), Sub.less ⟨U, U, U, U, U, trivial⟩ (fun _ h => h)⟩
 rw [ZlM] at h1
 rw [idxBy_no (fun c hc => hk.2 c (by rw [show k = l.length by omega]; exact hc))]
 refine .exit (.sr (.aN ?_))
 refine .ret (rD J ?_)
 all_goals (rfl)
theorem c_groupOf (c : Ctr) (nm : ByteArray) : Yaq Tryz.prog 234 [.agg c.ds, .v (.string nm)] (.v (.int .i64 (idxBy (fun x : Grp => decide (x.name = nm)) c.groups))) := by
 refine Yah (n := 21) (ds' := [.v (.int .i64 (idxBy (fun x : Grp => decide (x.name = nm)) c.groups))]) Tryz.func234 J (by kernel_rfl) J [4] J J ?_
 intro B w0 F0 fr
 refine .sr (.sA (.box J J J) ?_)
 refine .aN ?_
 refine .seq (.sr (.sA (.fieldAddr J YaP J) ?_))
 refine .sA (.load J Yce J) (.sA (.lenSl J et_34.ht J) ?_)
 refine .mN ?_
 refine .block (.bound 8 J (fun hbd8 => ?_))
 rw [ZlM] at hbd8
 refine .loop (G := Nat) (fun k => Env.of [(10, .iv k), (8, .d (.sl (c.groups.map Grp.ds))), (9, .iv (c.groups.map Grp.ds).length), (1, .d (.v (.string nm)))]) (fun k => []) (fun k => k <= c.groups.length /\ ∀ x ∈ c.groups.take k, decide (x.name = nm) = false) (fun k => c.groups.length - k) 0 ⟨ZnZ _, fun x h => by simp at h⟩ (Sub.less ⟨U, U, U, U, trivial⟩ (fun _ h => h)) ?_
 intro k hk
 refine .sr (.sA (.lss J J J) (.nil ?_))
 refine .seq (.cT J (fun h1 => ?_) fun h1 => ?_)
 ·rw [ZlM] at h1
  have hlt : k < c.groups.length := by omega
  refine .skip (.seq (.block (.sr (.mA ?_))))
  refine .sA (.indexAddr J et_34 J J k J (Yad hlt) J) (.sA (.loadAgg J ag_128 J J) ?_)
  refine .alloc 101 J J J J zt_128 J J J ?_
  refine .aA ?_
  refine .store J J J sz_128 J (.head _) J J J (ZnB J) ?_
  refine .freezeCells 6 (ds := c.groups[k].ds) J (.head _) (.nil ?_)
  refine .sr (.sA (.fieldAddr J Ya1 J) ?_)
  refine .sA (.load J sc_9 J) ?_
  refine .mA ?_
  refine .sA (.seql J J J) (.nil ?_)
  refine .cT J (fun h2 => ?_) fun h2 => ?_
  ·rw [idxBy_yes hlt hk.2 (decide_eq_true h2)]
   refine .sr (.mA ?_)
   refine .aN ?_
   refine .ret (rD J ?_)
   all_goals (rfl)
  have hT := take_f (p := fun x : Grp => decide (x.name = nm)) hlt hk.2 (decide_eq_false h2)
  refine .skip (.region (.sA (.add64 J J J) ?_))
  refine .mN ?_
  refine ⟨k + 1, ⟨by omega, hT⟩, (by dsimp only; omega), Sub.less ⟨U, U, U, U, trivial⟩ (fun _ h => by cases h)⟩
 rw [ZlM] at h1
 rw [idxBy_no (fun x hx => hk.2 x (by rw [show k = c.groups.length by omega]; exact hx))]
 refine .exit (.sr (.aN ?_))
 refine .ret (rD J ?_)
 all_goals (rfl)
theorem c_ixDeal (l : List Deal) (p : Deal -> Bool) (f : Nat) (caps : List D) (hp : ∀ x : Deal, Yaq Tryz.prog f (.agg x.ds :: caps) (.v (.bool (p x)))) : Yaq Tryz.prog 180 [.sl (l.map Deal.ds), .clo (.func f) caps] (.v (.int .i64 (idxBy p l))) := by
 refine Yah (n := 19) (ds' := [.v (.int .i64 (idxBy p l))]) Tryz.func180 J (by kernel_rfl) J [4] J J ?_
 intro B w0 F0 fr
 refine .bound 0 J (fun hbd0 => ?_)
 rw [ZlM] at hbd0
 refine .sr (.aN ?_)
 refine .seq (.sr (.mA ?_))
 refine .sA (.lenSl J et_33.ht J) ?_
 refine .mN ?_
 refine .block (.loop (G := Nat) (fun k => Env.of [(8, .iv k), (6, .d (.sl (l.map Deal.ds))), (7, .iv (l.map Deal.ds).length), (0, .d (.sl (l.map Deal.ds))), (1, .d (.clo (.func f) caps))]) (fun k => []) (fun k => k <= l.length /\ ∀ c ∈ l.take k, p c = false) (fun k => l.length - k) 0 ⟨ZnZ _, fun c h => by simp at h⟩ (Sub.less ⟨U, U, U, U, U, trivial⟩ (fun _ h => h)) ?_)
 intro k hk
 refine .sr (.sA (.lss J J J) (.nil ?_))
 refine .seq (.cT J (fun h1 => ?_) fun h1 => ?_)
 ·rw [ZlM] at h1
  have hlt : k < l.length := by omega
  refine .skip (.seq (.block (.sr (.mA ?_))))
  refine .aN ?_
  refine .sr (.mA ?_)
  refine .mA ?_
  refine .mA ?_
  refine .sA (.indexAddr J et_33 J J k J (Yad hlt) J) (.sA (.loadAgg J ag_63 J J) ?_)
  refine .sA (.callClo J J (.cons (.rfl' J) .nil) (hp l[k])) (.nil ?_)
  refine .cond J (fun h2 => ?_) (fun h2 => ?_)
  ·skip
   rw [idxBy_yes hlt hk.2 h2]
   refine .sr (.mA ?_)
   refine .aN ?_
   refine .ret (rD J ?_)
   all_goals (rfl)
  have hT := take_f hlt hk.2 h2
  refine .skip (.region (.sA (.add64 J J J) ?_))
  refine .mN ?_
  refine ⟨k + 1, ⟨by omega, hT⟩, (by dsimp only; omega), Sub.less ⟨U, U, U, U, U, trivial⟩ (fun _ h => h)⟩
 rw [ZlM] at h1
 rw [idxBy_no (fun c hc => hk.2 c (by rw [show k = l.length by omega]; exact hc))]
 refine .exit (.sr (.aN ?_))
 refine .ret (rD J ?_)
 all_goals (rfl)
theorem c_dealOf (c : Ctr) (nm : ByteArray) : Yaq Tryz.prog 138 [.agg c.ds, .v (.string nm)] (.v (.int .i64 (idxBy (fun x : Deal => decide (x.name = nm)) c.deals))) := by
 refine Yah (n := 21) (ds' := [.v (.int .i64 (idxBy (fun x : Deal => decide (x.name = nm)) c.deals))]) Tryz.func138 J (by kernel_rfl) J [4] J J ?_
 intro B w0 F0 fr
 refine .sr (.sA (.box J J J) ?_)
 refine .aN ?_
 refine .seq (.sr (.sA (.fieldAddr J YaE J) ?_))
 refine .sA (.load J YbI J) (.sA (.lenSl J et_33.ht J) ?_)
 refine .mN ?_
 refine .block (.bound 8 J (fun hbd8 => ?_))
 rw [ZlM] at hbd8
 refine .loop (G := Nat) (fun k => Env.of [(10, .iv k), (8, .d (.sl (c.deals.map Deal.ds))), (9, .iv (c.deals.map Deal.ds).length), (1, .d (.v (.string nm)))]) (fun k => []) (fun k => k <= c.deals.length /\ ∀ x ∈ c.deals.take k, decide (x.name = nm) = false) (fun k => c.deals.length - k) 0 ⟨ZnZ _, fun x h => by simp at h⟩ (Sub.less ⟨U, U, U, U, trivial⟩ (fun _ h => h)) ?_
 intro k hk
 refine .sr (.sA (.lss J J J) (.nil ?_))
 refine .seq (.cT J (fun h1 => ?_) fun h1 => ?_)
 ·rw [ZlM] at h1
  have hlt : k < c.deals.length := by omega
  refine .skip (.seq (.block (.sr (.mA ?_))))
  refine .sA (.indexAddr J et_33 J J k J (Yad hlt) J) (.sA (.loadAgg J ag_63 J J) ?_)
  refine .alloc 101 J J J J zt_63 J J J ?_
  refine .aA ?_
  refine .store J J J sz_63 J (.head _) J J J (ZnB J) ?_
  refine .freezeCells 6 (ds := c.deals[k].ds) J (.head _) (.nil ?_)
  refine .sr (.sA (.fieldAddr J YaZ J) ?_)
  refine .sA (.load J sc_9 J) ?_
  refine .mA ?_
  refine .sA (.seql J J J) (.nil ?_)
  refine .cT J (fun h2 => ?_) fun h2 => ?_
  ·rw [idxBy_yes hlt hk.2 (decide_eq_true h2)]
   refine .sr (.mA ?_)
   refine .aN ?_
   refine .ret (rD J ?_)
   all_goals (rfl)
  have hT := take_f (p := fun x : Deal => decide (x.name = nm)) hlt hk.2 (decide_eq_false h2)
  refine .skip (.region (.sA (.add64 J J J) ?_))
  refine .mN ?_
  refine ⟨k + 1, ⟨by omega, hT⟩, (by dsimp only; omega), Sub.less ⟨U, U, U, U, trivial⟩ (fun _ h => by cases h)⟩
 rw [ZlM] at h1
 rw [idxBy_no (fun x hx => hk.2 x (by rw [show k = c.deals.length by omega]; exact hx))]
 refine .exit (.sr (.aN ?_))
 refine .ret (rD J ?_)
 all_goals (rfl)
theorem c_gAt1 (x : Grp) (nm : ByteArray) : Yaq Tryz.prog 204 [.agg x.ds, .fp [.v (.string nm)]] (.v (.bool (decide (x.name = nm)))) := by
 refine Yah (n := 8) (ds' := [.v (.bool (decide (x.name = nm)))]) Tryz.func204 J (by kernel_rfl) J [3] J J ?_
 intro B w0 F0 fr
 refine .sr (.sA (.box J J J) ?_)
 refine .aN ?_
 refine .sr (.sA (.fieldAddr J Ya1 J) ?_)
 refine .sA (.load J sc_9 J) (.sA (.load J sc_9 J) (.sA (.seql J J J) ?_))
 refine .aN ?_
 refine .ret (rD J ?_)
 all_goals (rfl)
theorem c_groupAt (c : Ctr) (nm : ByteArray) : Yaq Tryz.prog 145 [.agg c.ds, .v (.string nm)] (.v (.int .i64 (idxBy (fun x : Grp => decide (x.name = nm)) c.groups))) := by
 refine Yah (n := 9) (ds' := [.v (.int .i64 (idxBy (fun x : Grp => decide (x.name = nm)) c.groups))]) Tryz.func145 J (by kernel_rfl) J [4] J J ?_
 intro B w0 F0 fr
 refine .sr (.sA (.box J J J) ?_)
 refine .sA (.box J J J) ?_
 refine .aN ?_
 refine .sr (.sA (.fieldAddr J YaP J) ?_)
 refine .sA (.load J Yce J) (.sA (.makeFunc J (.cons (.rfl' J) .nil)) (.sA (.call J (.cons (.rfl' J) (.cons (.rfl' J) .nil)) (c_ixGrp c.groups (fun x => decide (x.name = nm)) 204 _ (fun x => c_gAt1 x nm))) ?_))
 refine .aN ?_
 refine .ret (rD J ?_)
 all_goals (rfl)
theorem c_pDeal (c : Ctr) (d : Deal) (b : ByteArray) (hd : d.name.size <= 9223372036854775807) : Yaq Tryz.prog 112 [.agg c.ds, .agg d.ds, .v (.string b)] (.v (.int .i64 (YaS c d b))) := by
 refine Yah (n := 91) (ds' := [.v (.int .i64 (YaS c d b))]) Tryz.func112 J (by kernel_rfl) J [6] J J ?_
 intro B w0 F0 fr
 refine .sr (.sA (.box J J J) ?_)
 refine .sA (.box J J J) ?_
 refine .aN ?_
 refine .seq (.block (.sr (.sA (.fieldAddr J YaZ J) ?_)))
 refine .sA (.load J sc_9 J) (.sA (.call J (.cons (.rfl' J) .nil) (c_pName _ hd)) (.sA (.not J J) ?_))
 refine .aN ?_
 refine .cond J (fun h1 => ?_) (fun h1 => ?_)
 ·replace h1 := Ybb h1
  have n0 := h1
  have HR : YaS c d b = 5 := by unfold YaS Yas; grind
  refine .sr (.aN ?_)
  refine .ret (rD J ?_)
  all_goals (first | rw [HR] | (rw [HX _ (Yab (f := recF d.recs) hk.2 (by unfold recF; rw [dif_pos hlt]; grind) _ hlt) (by unfold recF; rw [dif_pos hlt]; grind)]; unfold recF; rw [dif_pos hlt]; grind))
 replace h1 := Ybc h1
 have n1 : ¬ YaI d.name = false := by rw [h1]; decide
 refine .sr (.sA (.fieldAddr J YaZ J) ?_)
 refine .sA (.load J sc_9 J) ?_
 refine .mA ?_
 refine .sA (.sleq J J J) ?_
 refine .aN ?_
 refine .cond J (fun h2 => ?_) (fun h2 => ?_)
 ·skip
  have n2 : sle d.name b = true := h2
  have HR : YaS c d b = 8 := by unfold YaS Yas; grind
  refine .sr (.aN ?_)
  refine .ret (rD J ?_)
  all_goals (first | rw [HR] | (rw [HX _ (Yab (f := recF d.recs) hk.2 (by unfold recF; rw [dif_pos hlt]; grind) _ hlt) (by unfold recF; rw [dif_pos hlt]; grind)]; unfold recF; rw [dif_pos hlt]; grind))
 have n2 : ¬ sle d.name b = true := by intro hh; rw [show sle d.name b = false from h2] at hh; cases hh
 refine .sr (.sA (.loadAgg J ag_36 J J) ?_)
 refine .sA (.fieldAddr J fo_63_1 J) (.sA (.load J sc_9 J) (.sA (.call J (.cons (.rfl' J) (.cons (.rfl' J) .nil)) (c_groupAt c _)) (.sA (.lss J J J) ?_)))
 refine .aN ?_
 refine .cT J (fun h3 => ?_) fun h3 => ?_
 ·have n3 : grpIdx c.groups d.group = false := idx_any.1 h3
  have HR : YaS c d b = 9 := by unfold YaS Yas; grind
  refine .sr (.aN ?_)
  refine .ret (rD J ?_)
  all_goals (first | rw [HR] | (rw [HX _ (Yab (f := recF d.recs) hk.2 (by unfold recF; rw [dif_pos hlt]; grind) _ hlt) (by unfold recF; rw [dif_pos hlt]; grind)]; unfold recF; rw [dif_pos hlt]; grind))
 have n3 : ¬ grpIdx c.groups d.group = false := fun hh => h3 (idx_any.2 hh)
 refine .sr (.sA (.fieldAddr J Ycj J) ?_)
 refine .sA (.load J sc_3 J) (.sA (.call J (.cons (.rfl' J) (.cons (.rfl' J) (.cons (.rfl' J) .nil))) (YbG _ _ _)) (.sA (.not J J) ?_))
 refine .mA ?_
 refine .sN 31 J (fun g4 => ?_) fun g4 => ?_
 ·have HR : YaS c d b = 1 := by unfold YaS Yas; grind
  refine .pA ?_
  refine .pA ?_
  refine .pA ?_
  refine .pA ?_
  refine .pA ?_
  refine .pA ?_
  refine .pA ?_
  refine .sA (.pickT J J J) ?_
  refine .aN ?_
  refine .cond J (fun _ => ?_) (fun h => nomatch h)
  refine .sr (.aN ?_)
  refine .ret (rD J ?_)
  all_goals (first | rw [HR] | (rw [HX _ (Yab (f := recF d.recs) hk.2 (by unfold recF; rw [dif_pos hlt]; grind) _ hlt) (by unfold recF; rw [dif_pos hlt]; grind)]; unfold recF; rw [dif_pos hlt]; grind))
 refine .sG (.fieldAddr J fo_63_3 J) ?_
 refine .sG (.load J sc_3 J) ?_
 refine .sG (.fieldAddr J Ycj J) ?_
 refine .sG (.load J sc_3 J) ?_
 refine .sG (.add64 J J J) ?_
 refine .sG (.call J (.cons (.rfl' J) (.cons (.rfl' J) (.cons (.rfl' J) .nil))) (YbG _ _ _)) ?_
 refine .sG (.not J J) ?_
 refine .sA (.pickF J J J) ?_
 refine .aN ?_
 refine .cN J (fun h5 => ?_) fun h5 => ?_
 ·have HR : YaS c d b = 1 := by unfold YaS Yas; grind
  refine .sr (.aN ?_)
  refine .ret (rD J ?_)
  all_goals (first | rw [HR] | (rw [HX _ (Yab (f := recF d.recs) hk.2 (by unfold recF; rw [dif_pos hlt]; grind) _ hlt) (by unfold recF; rw [dif_pos hlt]; grind)]; unfold recF; rw [dif_pos hlt]; grind))
 refine .sr (.sA (.fieldAddr J Ybm J) ?_)
 refine .sA (.load J YaO J) (.sA (.lenSl J et_37.ht J) (.sA (.gtr J J J) ?_))
 refine .aN ?_
 refine .cT J (fun h6 => ?_) fun h6 => ?_
 ·rw [ZlM] at h6
  have HR : YaS c d b = 2 := by unfold YaS Yas; grind
  refine .sr (.aN ?_)
  refine .ret (rD J ?_)
  all_goals (first | rw [HR] | (rw [HX _ (Yab (f := recF d.recs) hk.2 (by unfold recF; rw [dif_pos hlt]; grind) _ hlt) (by unfold recF; rw [dif_pos hlt]; grind)]; unfold recF; rw [dif_pos hlt]; grind))
 rw [ZlM] at h6
 have HX : ∀ z, ffst (recF d.recs) d.recs.length = z -> z ≠ 0 -> YaS c d b = z := fun z q1 q2 => by subst q1; unfold YaS Yas; grind
 refine .skip (.seq (.sr (.sA (.fieldAddr J Ybm J) ?_)))
 refine .sA (.load J YaO J) (.sA (.lenSl J et_37.ht J) ?_)
 refine .mN ?_
 refine .block (.loop (G := Nat) (fun k => Env.of [(48, .iv k), (46, .d (.sl (d.recs.map intD))), (47, .iv (d.recs.map intD).length), (3, .d (.fp c.ds)), (4, .d (.fp d.ds))]) (fun k => []) (fun k => k <= d.recs.length /\ ffst (recF d.recs) k = 0) (fun k => d.recs.length - k) 0 ⟨ZnZ _, J⟩ (Sub.less ⟨U, U, U, U, U, trivial⟩ (fun _ h => h)) ?_)
 intro k hk
 refine .sr (.sA (.lss J J J) (.nil ?_))
 refine .seq (.cT J (fun h7 => ?_) fun h7 => ?_)
 ·rw [ZlM] at h7
  have hlt : k < d.recs.length := by omega
  refine .skip (.seq (.block (.sr (.mA ?_))))
  refine .sA (.indexAddr J et_37 J J k J (Yad hlt) J) (.sA (.load J sc_3 J) ?_)
  refine .aA ?_
  refine .aN ?_
  refine .seq (.sr (.mA ?_))
  refine .sA (.call J (.cons (.rfl' J) (.cons (.rfl' J) (.cons (.rfl' J) .nil))) (YbG _ _ _)) ?_
  refine .sA (.not J J) (.nil ?_)
  refine .cN J (fun h8 => ?_) fun h8 => ?_
  ·refine .sr (.aN ?_)
   refine .ret (rD J ?_)
   all_goals (first | rw [HR] | (rw [HX _ (Yab (f := recF d.recs) hk.2 (by unfold recF; rw [dif_pos hlt]; grind) _ hlt) (by unfold recF; rw [dif_pos hlt]; grind)]; unfold recF; rw [dif_pos hlt]; grind))
  refine .skip (.sr (.mA ?_))
  refine .sA (.gtr J J J) ?_
  refine .mA ?_
  refine .sT 58 J (fun g9 => ?_) fun g9 => ?_
  ·refine .sG (.moveD J J) ?_
   refine .sG (.fieldAddr J Ybm J) ?_
   refine .sG (.load J YaO J) ?_
   refine .sG (.moveD J J) ?_
   refine .sG (.sub64 J J J) ?_
   refine .sG (.indexAddr J et_37 J J (k - 1) (by omega) (Yad (by omega)) J) ?_
   refine .sG (.load J sc_3 J) ?_
   refine .sG (.leq J J J) ?_
   refine .sA (.pickT J J J) (.nil ?_)
   refine .cT J (fun h10 => ?_) fun h10 => ?_
   ·refine .sr (.aN ?_)
    refine .ret (rD J ?_)
    all_goals (first | rw [HR] | (rw [HX _ (Yab (f := recF d.recs) hk.2 (by unfold recF; rw [dif_pos hlt]; grind) _ hlt) (by unfold recF; rw [dif_pos hlt]; grind)]; unfold recF; rw [dif_pos hlt]; grind))
   refine .skip (.region (.sA (.add64 J J J) ?_))
   refine .mN ?_
   refine ⟨k + 1, ⟨by omega, Yag hk.2 (by unfold recF; rw [dif_pos hlt]; grind)⟩, (by dsimp only; omega), Sub.less ⟨U, U, U, U, U, trivial⟩ (fun _ h => h)⟩
  refine .pA ?_
  refine .pA ?_
  refine .pA ?_
  refine .pA ?_
  refine .pA ?_
  refine .pA ?_
  refine .pA ?_
  refine .pA ?_
  refine .sA (.pickF J J J) (.nil ?_)
  refine .cond J (fun h => nomatch h) (fun _ => ?_)
  refine .skip (.region (.sA (.add64 J J J) ?_))
  refine .mN ?_
  refine ⟨k + 1, ⟨by omega, Yag hk.2 (by unfold recF; rw [dif_pos hlt]; grind)⟩, (by dsimp only; omega), Sub.less ⟨U, U, U, U, U, trivial⟩ (fun _ h => h)⟩
 rw [ZlM] at h7
 have HZ : ffst (recF d.recs) d.recs.length = 0 := by rw [show d.recs.length = k by omega]; exact hk.2
 refine .exit (.seq (.sr (.sA (.fieldAddr J Yci J) ?_)))
 refine .sA (.load J sc_61 J) (.sA (.call J (.cons (.rfl' J) .nil) (c_pTiers d.tiers)) ?_)
 refine .aN ?_
 refine .sr (.mA ?_)
 refine .sA (.neq J J J) (.nil ?_)
 refine .cT J (fun h11 => ?_) fun h11 => ?_
 ·have n6 := h11
  have HR : YaS c d b = YaW d.tiers := by unfold YaS Yas; grind
  refine .sr (.mA ?_)
  refine .aN ?_
  refine .ret (rD J ?_)
  all_goals (first | rw [HR] | (rw [HX _ (Yab (f := recF d.recs) hk.2 (by unfold recF; rw [dif_pos hlt]; grind) _ hlt) (by unfold recF; rw [dif_pos hlt]; grind)]; unfold recF; rw [dif_pos hlt]; grind))
 have n6 : ¬ YaW d.tiers ≠ 0 := h11
 refine .skip (.seq (.sr (.sA (.fieldAddr J fo_63_6 J) ?_)))
 refine .sA (.load J sc_3 J) (.sA (.call J (.cons (.rfl' J) (.cons (.rfl' J) (.cons (.rfl' J) .nil))) (YbG _ _ _)) (.sA (.not J J) ?_))
 refine .mA ?_
 refine .sN 79 J (fun g12 => ?_) fun g12 => ?_
 ·have HR : YaS c d b = 1 := by unfold YaS Yas; grind
  refine .pA ?_
  refine .pA ?_
  refine .pA ?_
  refine .pA ?_
  refine .sA (.pickT J J J) ?_
  refine .mA ?_
  refine .pA ?_
  refine .pA ?_
  refine .pA ?_
  refine .pA ?_
  refine .sA (.pickT J J J) (.nil ?_)
  refine .cond J (fun _ => ?_) (fun h => nomatch h)
  refine .sr (.aN ?_)
  refine .ret (rD J ?_)
  all_goals (first | rw [HR] | (rw [HX _ (Yab (f := recF d.recs) hk.2 (by unfold recF; rw [dif_pos hlt]; grind) _ hlt) (by unfold recF; rw [dif_pos hlt]; grind)]; unfold recF; rw [dif_pos hlt]; grind))
 refine .sG (.fieldAddr J fo_63_7 J) ?_
 refine .sG (.load J sc_3 J) ?_
 refine .sG (.call J (.cons (.rfl' J) (.cons (.rfl' J) (.cons (.rfl' J) .nil))) (YbG _ _ _)) ?_
 refine .sG (.not J J) ?_
 refine .sA (.pickF J J J) ?_
 refine .mA ?_
 refine .sN 85 J (fun g13 => ?_) fun g13 => ?_
 ·have HR : YaS c d b = 1 := by unfold YaS Yas; grind
  refine .pA ?_
  refine .pA ?_
  refine .pA ?_
  refine .pA ?_
  refine .sA (.pickT J J J) (.nil ?_)
  refine .cond J (fun _ => ?_) (fun h => nomatch h)
  refine .sr (.aN ?_)
  refine .ret (rD J ?_)
  all_goals (first | rw [HR] | (rw [HX _ (Yab (f := recF d.recs) hk.2 (by unfold recF; rw [dif_pos hlt]; grind) _ hlt) (by unfold recF; rw [dif_pos hlt]; grind)]; unfold recF; rw [dif_pos hlt]; grind))
 refine .sG (.fieldAddr J fo_63_8 J) ?_
 refine .sG (.load J sc_3 J) ?_
 refine .sG (.call J (.cons (.rfl' J) (.cons (.rfl' J) (.cons (.rfl' J) .nil))) (YbG _ _ _)) ?_
 refine .sG (.not J J) ?_
 refine .sA (.pickF J J J) (.nil ?_)
 refine .cN J (fun h14 => ?_) fun h14 => ?_
 ·have HR : YaS c d b = 1 := by unfold YaS Yas; grind
  refine .sr (.aN ?_)
  refine .ret (rD J ?_)
  all_goals (first | rw [HR] | (rw [HX _ (Yab (f := recF d.recs) hk.2 (by unfold recF; rw [dif_pos hlt]; grind) _ hlt) (by unfold recF; rw [dif_pos hlt]; grind)]; unfold recF; rw [dif_pos hlt]; grind))
 have HR : YaS c d b = 0 := by unfold YaS Yas; grind
 refine .skip (.sr (.aN ?_))
 refine .ret (rD J ?_)
 all_goals (first | rw [HR] | (rw [HX _ (Yab (f := recF d.recs) hk.2 (by unfold recF; rw [dif_pos hlt]; grind) _ hlt) (by unfold recF; rw [dif_pos hlt]; grind)]; unfold recF; rw [dif_pos hlt]; grind))
theorem c_rDeal (c : Ctr) (d : Deal) (hd : d.name.size <= 9223372036854775807) : Yaq Tryz.prog 200 [.agg c.ds, .agg d.ds] (.v (.int .i64 (Yas c d))) := by
 refine Yah (n := 79) (ds' := [.v (.int .i64 (Yas c d))]) Tryz.func200 J (by kernel_rfl) J [4] J J ?_
 intro B w0 F0 fr
 refine .sr (.sA (.box J J J) ?_)
 refine .sA (.box J J J) ?_
 refine .aN ?_
 refine .seq (.block (.sr (.sA (.loadAgg J ag_36 J J) ?_)))
 refine .sA (.fieldAddr J fo_63_1 J) (.sA (.load J sc_9 J) (.sA (.call J (.cons (.rfl' J) (.cons (.rfl' J) .nil)) (c_groupOf c _)) (.sA (.lss J J J) ?_)))
 refine .aN ?_
 refine .cT J (fun h1 => ?_) fun h1 => ?_
 ·have n3 : grpIdx c.groups d.group = false := idx_any.1 h1
  have HR : Yas c d = 9 := by unfold Yas; grind
  refine .sr (.aN ?_)
  refine .ret (rD J ?_)
  all_goals (first | rw [HR] | (rw [HX _ (Yab (f := recF d.recs) hk.2 (by unfold recF; rw [dif_pos hlt]; grind) _ hlt) (by unfold recF; rw [dif_pos hlt]; grind)]; unfold recF; rw [dif_pos hlt]; grind))
 have n3 : ¬ grpIdx c.groups d.group = false := fun hh => h1 (idx_any.2 hh)
 refine .sr (.sA (.fieldAddr J Ycj J) ?_)
 refine .sA (.load J sc_3 J) (.sA (.call J (.cons (.rfl' J) (.cons (.rfl' J) (.cons (.rfl' J) .nil))) (Ybr _ _ _)) (.sA (.not J J) ?_))
 refine .mA ?_
 refine .sN 19 J (fun g2 => ?_) fun g2 => ?_
 ·have HR : Yas c d = 1 := by unfold Yas; grind
  refine .pA ?_
  refine .pA ?_
  refine .pA ?_
  refine .pA ?_
  refine .pA ?_
  refine .pA ?_
  refine .pA ?_
  refine .sA (.pickT J J J) ?_
  refine .aN ?_
  refine .cond J (fun _ => ?_) (fun h => nomatch h)
  refine .sr (.aN ?_)
  refine .ret (rD J ?_)
  all_goals (first | rw [HR] | (rw [HX _ (Yab (f := recF d.recs) hk.2 (by unfold recF; rw [dif_pos hlt]; grind) _ hlt) (by unfold recF; rw [dif_pos hlt]; grind)]; unfold recF; rw [dif_pos hlt]; grind))
 refine .sG (.fieldAddr J fo_63_3 J) ?_
 refine .sG (.load J sc_3 J) ?_
 refine .sG (.fieldAddr J Ycj J) ?_
 refine .sG (.load J sc_3 J) ?_
 refine .sG (.add64 J J J) ?_
 refine .sG (.call J (.cons (.rfl' J) (.cons (.rfl' J) (.cons (.rfl' J) .nil))) (Ybr _ _ _)) ?_
 refine .sG (.not J J) ?_
 refine .sA (.pickF J J J) ?_
 refine .aN ?_
 refine .cN J (fun h3 => ?_) fun h3 => ?_
 ·have HR : Yas c d = 1 := by unfold Yas; grind
  refine .sr (.aN ?_)
  refine .ret (rD J ?_)
  all_goals (first | rw [HR] | (rw [HX _ (Yab (f := recF d.recs) hk.2 (by unfold recF; rw [dif_pos hlt]; grind) _ hlt) (by unfold recF; rw [dif_pos hlt]; grind)]; unfold recF; rw [dif_pos hlt]; grind))
 refine .sr (.sA (.fieldAddr J Ybm J) ?_)
 refine .sA (.load J YaO J) (.sA (.lenSl J et_37.ht J) (.sA (.gtr J J J) ?_))
 refine .aN ?_
 refine .cT J (fun h4 => ?_) fun h4 => ?_
 ·rw [ZlM] at h4
  have HR : Yas c d = 2 := by unfold Yas; grind
  refine .sr (.aN ?_)
  refine .ret (rD J ?_)
  all_goals (first | rw [HR] | (rw [HX _ (Yab (f := recF d.recs) hk.2 (by unfold recF; rw [dif_pos hlt]; grind) _ hlt) (by unfold recF; rw [dif_pos hlt]; grind)]; unfold recF; rw [dif_pos hlt]; grind))
 rw [ZlM] at h4
 have HX : ∀ z, ffst (recF d.recs) d.recs.length = z -> z ≠ 0 -> Yas c d = z := fun z q1 q2 => by subst q1; unfold Yas; grind
 refine .skip (.seq (.sr (.sA (.fieldAddr J Ybm J) ?_)))
 refine .sA (.load J YaO J) (.sA (.lenSl J et_37.ht J) ?_)
 refine .mN ?_
 refine .block (.loop (G := Nat) (fun k => Env.of [(36, .iv k), (34, .d (.sl (d.recs.map intD))), (35, .iv (d.recs.map intD).length), (2, .d (.fp c.ds)), (3, .d (.fp d.ds))]) (fun k => []) (fun k => k <= d.recs.length /\ ffst (recF d.recs) k = 0) (fun k => d.recs.length - k) 0 ⟨ZnZ _, J⟩ (Sub.less ⟨U, U, U, U, U, trivial⟩ (fun _ h => h)) ?_)
 intro k hk
 refine .sr (.sA (.lss J J J) (.nil ?_))
 refine .seq (.cT J (fun h5 => ?_) fun h5 => ?_)
 ·rw [ZlM] at h5
  have hlt : k < d.recs.length := by omega
  refine .skip (.seq (.block (.sr (.mA ?_))))
  refine .sA (.indexAddr J et_37 J J k J (Yad hlt) J) (.sA (.load J sc_3 J) ?_)
  refine .aA ?_
  refine .aN ?_
  refine .seq (.sr (.mA ?_))
  refine .sA (.call J (.cons (.rfl' J) (.cons (.rfl' J) (.cons (.rfl' J) .nil))) (Ybr _ _ _)) ?_
  refine .sA (.not J J) (.nil ?_)
  refine .cN J (fun h6 => ?_) fun h6 => ?_
  ·refine .sr (.aN ?_)
   refine .ret (rD J ?_)
   all_goals (first | rw [HR] | (rw [HX _ (Yab (f := recF d.recs) hk.2 (by unfold recF; rw [dif_pos hlt]; grind) _ hlt) (by unfold recF; rw [dif_pos hlt]; grind)]; unfold recF; rw [dif_pos hlt]; grind))
  refine .skip (.sr (.mA ?_))
  refine .sA (.gtr J J J) ?_
  refine .mA ?_
  refine .sT 46 J (fun g7 => ?_) fun g7 => ?_
  ·refine .sG (.moveD J J) ?_
   refine .sG (.fieldAddr J Ybm J) ?_
   refine .sG (.load J YaO J) ?_
   refine .sG (.moveD J J) ?_
   refine .sG (.sub64 J J J) ?_
   refine .sG (.indexAddr J et_37 J J (k - 1) (by omega) (Yad (by omega)) J) ?_
   refine .sG (.load J sc_3 J) ?_
   refine .sG (.leq J J J) ?_
   refine .sA (.pickT J J J) (.nil ?_)
   refine .cT J (fun h8 => ?_) fun h8 => ?_
   ·refine .sr (.aN ?_)
    refine .ret (rD J ?_)
    all_goals (first | rw [HR] | (rw [HX _ (Yab (f := recF d.recs) hk.2 (by unfold recF; rw [dif_pos hlt]; grind) _ hlt) (by unfold recF; rw [dif_pos hlt]; grind)]; unfold recF; rw [dif_pos hlt]; grind))
   refine .skip (.region (.sA (.add64 J J J) ?_))
   refine .mN ?_
   refine ⟨k + 1, ⟨by omega, Yag hk.2 (by unfold recF; rw [dif_pos hlt]; grind)⟩, (by dsimp only; omega), Sub.less ⟨U, U, U, U, U, trivial⟩ (fun _ h => h)⟩
  refine .pA ?_
  refine .pA ?_
  refine .pA ?_
  refine .pA ?_
  refine .pA ?_
  refine .pA ?_
  refine .pA ?_
  refine .pA ?_
  refine .sA (.pickF J J J) (.nil ?_)
  refine .cond J (fun h => nomatch h) (fun _ => ?_)
  refine .skip (.region (.sA (.add64 J J J) ?_))
  refine .mN ?_
  refine ⟨k + 1, ⟨by omega, Yag hk.2 (by unfold recF; rw [dif_pos hlt]; grind)⟩, (by dsimp only; omega), Sub.less ⟨U, U, U, U, U, trivial⟩ (fun _ h => h)⟩
 rw [ZlM] at h5
 have HZ : ffst (recF d.recs) d.recs.length = 0 := by rw [show d.recs.length = k by omega]; exact hk.2
 refine .exit (.seq (.sr (.sA (.fieldAddr J Yci J) ?_)))
 refine .sA (.load J sc_61 J) (.sA (.call J (.cons (.rfl' J) .nil) (c_rTiers d.tiers)) ?_)
 refine .aN ?_
 refine .sr (.mA ?_)
 refine .sA (.neq J J J) (.nil ?_)
 refine .cT J (fun h9 => ?_) fun h9 => ?_
 ·have n6 := h9
  have HR : Yas c d = YaW d.tiers := by unfold Yas; grind
  refine .sr (.mA ?_)
  refine .aN ?_
  refine .ret (rD J ?_)
  all_goals (first | rw [HR] | (rw [HX _ (Yab (f := recF d.recs) hk.2 (by unfold recF; rw [dif_pos hlt]; grind) _ hlt) (by unfold recF; rw [dif_pos hlt]; grind)]; unfold recF; rw [dif_pos hlt]; grind))
 have n6 : ¬ YaW d.tiers ≠ 0 := h9
 refine .skip (.seq (.sr (.sA (.fieldAddr J fo_63_6 J) ?_)))
 refine .sA (.load J sc_3 J) (.sA (.call J (.cons (.rfl' J) (.cons (.rfl' J) (.cons (.rfl' J) .nil))) (Ybr _ _ _)) (.sA (.not J J) ?_))
 refine .mA ?_
 refine .sN 67 J (fun g10 => ?_) fun g10 => ?_
 ·have HR : Yas c d = 1 := by unfold Yas; grind
  refine .pA ?_
  refine .pA ?_
  refine .pA ?_
  refine .pA ?_
  refine .sA (.pickT J J J) ?_
  refine .mA ?_
  refine .pA ?_
  refine .pA ?_
  refine .pA ?_
  refine .pA ?_
  refine .sA (.pickT J J J) (.nil ?_)
  refine .cond J (fun _ => ?_) (fun h => nomatch h)
  refine .sr (.aN ?_)
  refine .ret (rD J ?_)
  all_goals (first | rw [HR] | (rw [HX _ (Yab (f := recF d.recs) hk.2 (by unfold recF; rw [dif_pos hlt]; grind) _ hlt) (by unfold recF; rw [dif_pos hlt]; grind)]; unfold recF; rw [dif_pos hlt]; grind))
 refine .sG (.fieldAddr J fo_63_7 J) ?_
 refine .sG (.load J sc_3 J) ?_
 refine .sG (.call J (.cons (.rfl' J) (.cons (.rfl' J) (.cons (.rfl' J) .nil))) (Ybr _ _ _)) ?_
 refine .sG (.not J J) ?_
 refine .sA (.pickF J J J) ?_
 refine .mA ?_
 refine .sN 73 J (fun g11 => ?_) fun g11 => ?_
 ·have HR : Yas c d = 1 := by unfold Yas; grind
  refine .pA ?_
  refine .pA ?_
  refine .pA ?_
  refine .pA ?_
  refine .sA (.pickT J J J) (.nil ?_)
  refine .cond J (fun _ => ?_) (fun h => nomatch h)
  refine .sr (.aN ?_)
  refine .ret (rD J ?_)
  all_goals (first | rw [HR] | (rw [HX _ (Yab (f := recF d.recs) hk.2 (by unfold recF; rw [dif_pos hlt]; grind) _ hlt) (by unfold recF; rw [dif_pos hlt]; grind)]; unfold recF; rw [dif_pos hlt]; grind))
 refine .sG (.fieldAddr J fo_63_8 J) ?_
 refine .sG (.load J sc_3 J) ?_
 refine .sG (.call J (.cons (.rfl' J) (.cons (.rfl' J) (.cons (.rfl' J) .nil))) (Ybr _ _ _)) ?_
 refine .sG (.not J J) ?_
 refine .sA (.pickF J J J) (.nil ?_)
 refine .cN J (fun h12 => ?_) fun h12 => ?_
 ·have HR : Yas c d = 1 := by unfold Yas; grind
  refine .sr (.aN ?_)
  refine .ret (rD J ?_)
  all_goals (first | rw [HR] | (rw [HX _ (Yab (f := recF d.recs) hk.2 (by unfold recF; rw [dif_pos hlt]; grind) _ hlt) (by unfold recF; rw [dif_pos hlt]; grind)]; unfold recF; rw [dif_pos hlt]; grind))
 have HR : Yas c d = 0 := by unfold Yas; grind
 refine .skip (.sr (.aN ?_))
 refine .ret (rD J ?_)
 all_goals (first | rw [HR] | (rw [HX _ (Yab (f := recF d.recs) hk.2 (by unfold recF; rw [dif_pos hlt]; grind) _ hlt) (by unfold recF; rw [dif_pos hlt]; grind)]; unfold recF; rw [dif_pos hlt]; grind))
def OCall (P : Program) (f : FuncId) (ds : List D) (ee size : Nat) (els : List (List D)) : Prop := Enters P f /\
 ∀ (F : Nat -> Prop) (w : World) (vs : List Value), (∀ b, F b -> b < w.heap.size) -> RepL F w vs ds ->
  Calls P f vs.toArray w fun r w' => ∃ v F', r = .returned v /\ Ext F w F' w' /\ ObOk w.heap.size F' (fun _ => v) w' 0 (.row ee size els)
theorem OCall.toA {P : Program} {f : FuncId} {ds : List D} {ee size : Nat} {els : List (List D)} (h : OCall P f ds ee size els) : Yaq P f ds (.sl els) :=
 ⟨h.1, fun F w vs hF hv => (h.2 F w vs hF hv).mono fun r w' ⟨v, F', h1, h2, h3⟩ => by
  have ho : ObsOk w.heap.size F' (fun _ => v) w' [(0, .row ee size els)] := by
   refine ⟨fun p hp => ?_, fun p hp q hq hne => ?_, fun p hp q hq _ => ?_⟩
   ·have : p = (0, .row ee size els) := by simpa using hp
    subst this
    exact h3
   ·have h4 : p = (0, .row ee size els) := by simpa using hp
    have h5 : q = (0, .row ee size els) := by simpa using hq
    rw [h4, h5] at hne
    exact absurd J hne
   ·have h4 : p = (0, .row ee size els) := by simpa using hp
    have h5 : q = (0, .row ee size els) := by simpa using hq
    rw [h4, h5]
  have hr := ob_rep ho (ZmS.2 rfl)
  refine ⟨v, _, h1, hr, fun b hb => .inl (h2.up b hb), ?_, ?_, h2.below⟩
  ·rintro b (hb | ⟨p, hp, hb⟩)
   ·exact h2.new b hb
   ·have h4 : p = (0, .row ee size els) := by simpa using hp
    subst h4
    exact .inr (h3.blk_lt hb).1
  ·rintro b (hb | ⟨p, hp, hb⟩)
   ·exact h2.lt b hb
   ·have h4 : p = (0, .row ee size els) := by simpa using hp
    subst h4
    exact (h3.blk_lt hb).2⟩
theorem OCall.eq {P : Program} {f : FuncId} {ds : List D} {ee size : Nat} {els els' : List (List D)} (h : OCall P f ds ee size els) (he : els = els') : OCall P f ds ee size els' := he ▸ h
theorem obOk_base {B B' : Nat} {F : Nat -> Prop} {ρ ρ' : Nat -> Value} {w : World} {id id' ee size : Nat} {els : List (List D)} (h : ObOk B F ρ w id (.row ee size els)) (hB : B' <= B) (he : ρ id = ρ' id') : ObOk B' F ρ' w id' (.row ee size els) := by
 obtain ⟨xs, h1, h2, h3, h4⟩ := h
 rw [he] at h1 h4
 refine ⟨xs, ⟨h1.1, ?_⟩, h2, h3, h4⟩
 rcases h1.2 with h5 | ⟨g, cap, cur, h5, h6, h7⟩
 ·exact .inl h5
 ·exact .inr ⟨g, cap, cur, h5, ZnT hB h6, h7⟩
theorem R0.newObF {cx : Cx} {F F' : Nat -> Prop} {ρ : Nat -> Value} {e : Env} {σ : Obs} {a : Act} {w w' : World} (hr : R0 cx F ρ e σ a w) {id dst : Nat} {ob : Ob} {v : Value} (hid : ∀ p ∈ σ, p.1 ≠ id) (hd : dst < cx.N) (hE : Ext F w F' w')
 (hob : ObOk cx.B F' (fun j => if j = id then v else ρ j) w' id ob) (hnew : ∀ g, blk v = some g -> w.heap.size <= g) (hfx : cx.free id = true) :
 ∃ ρ', R0 cx F' ρ' ((e.kill id).put (some dst) (.own id)) ((id, ob) :: Obs.kill id σ) (a.put (some dst) v) w' := by
 refine ⟨fun j => if j = id then v else ρ j, ?_⟩
 have h2 := hr.turn (ρ' := fun j => if j = id then v else ρ j) (id := id) (ob := ob) (row := none) (w' := w') (F' := F') (fun j hj => by simp [hj])
  ⟨hE.below.os, hE.below.tape, hE.below.output, hE.below.size, fun k hk _ => hE.below.block k hk⟩ hfx (fun g hg => by simp at hg) hE.up hE.new hE.lt hob
  (fun g hg => by rw [if_pos rfl] at hg; exact .inr (hnew g hg)) ((id, ob) :: Obs.kill id σ) (fun p hp => by
   cases hp with
   | head => exact .inl rfl
   | tail _ hp => obtain ⟨q, hq, rfl⟩ := Obs.mem_kill hp; exact .inr ⟨q, hq, hid q hq, rfl⟩)
 exact h2.put (o := ⟨some dst, .ready 0, 0, "", #[], none⟩) (v := v) (s := .own id) (Ext.refl h2.lt) (by
  have := RepS.own (F := F') (ρ := fun j => if j = id then v else ρ j) (w := w') id
  simpa using this) (by simpa [DstOk, Nat.blt_eq] using hd)
section
variable {cx : Cx} {ops : Array Oper} {o : Oper} {rest : List Oper} {e : Env} {σ : Obs} {Q : Post}
theorem AOps.callO {f : FuncId} {xs : List Operand} {ts : Array TypeId} {ds : List D} {ee size dst : Nat} {els : List (List D)} (id : Nat) (hg : o.guard = none) (ht : o.dst = some dst) (hdn : Nat.blt dst cx.N = true)
 (ho : o.op = .call { callee := .value (.func f), args := xs.toArray, argTypes := ts }) (ha : ArgsOk e xs ds) (h : OCall cx.P f ds ee size els) (hid : Obs.fresh id σ = true)
 (k : AOps cx ops rest ((e.kill id).put (some dst) (.own id)) ((id, .row ee size els) :: Obs.kill id σ) Q) (hfx : cx.free id = true := by rfl) : AOps cx ops (o :: rest) e σ Q := by
 intro a w ⟨F, ρ, hr⟩
 have hdn' : dst < cx.N := by simpa [Nat.blt_eq] using hdn
 have h4 := h.2 F w (xs.map a.eval) hr.lt (repL_ops ha (fun x _ => YaC fun t _ => hr.env t))
 have h5 := h.1 (xs.map a.eval).toArray w
 have hx : (execOp a.eval o).run cx.P w = .ok (.enter f (xs.map a.eval).toArray) w := by
  unfold execOp
  simp only [ho, resolve, Deferred.ofValue, Act.eval, invoke, Sem.run_bind, Sem.run_pure, Result.andThen_ok]
  simpa using h5
 refine wpList_plain hg fun K hK => ?_
 unfold Oper.wp
 rw [hx]
 refine h4.mono fun _ w' ⟨v, F', he, hE, hob⟩ => ?_
 subst he
 obtain ⟨ρ', h6⟩ := hr.newObF (ob := .row ee size els) (v := v) (Obs.fresh_spec hid) hdn' hE (obOk_base hob hr.hB (by simp)) (fun g hg => (hob.blk_lt hg).1) hfx
 have := k _ _ ⟨F', ρ', h6⟩
 rw [<- ht] at this
 exact hK _ _ this
theorem AOps.build0 {t el size bytes dst : Nat} {z : Value} (id : Nat) (hg : o.guard = none) (ht : o.dst = some dst) (hdn : Nat.blt dst cx.N = true) (ho : o.op = .buildSlice t 0 #[]) (T : ElemTy cx.P t el size bytes z) (hid : Obs.fresh id σ = true)
 (k : AOps cx ops rest ((e.kill id).put (some dst) (.own id)) ((id, .row el size []) :: Obs.kill id σ) Q) (hfx : cx.free id = true := by rfl) : AOps cx ops (o :: rest) e σ Q := by
 intro a w ⟨F, ρ, hr⟩
 have hdn' : dst < cx.N := by simpa [Nat.blt_eq] using hdn
 have hrun : (execOp a.eval o).run cx.P w = .ok (.value (.slice (some ⟨w.heap.size, 0, none⟩) 0 0)) (w.alloc (.cells #[] el)) := by
  unfold execOp
  simp only [ho, Instr.buildSlice, Sem.run_bind, run_underlying T.ht, Result.andThen_ok, T.sizeOf, Nat.zero_mul]
  rw [if_neg (show ¬ (0 > 2 ^ 24) by decide), if_pos trivial]
  simp only [Sem.run_bind, Sem.run_pure, Result.andThen_ok]
  have hfl : Instr.fill (fun i => some (i * size, size)) (Array.map (fun x => (#[] : Array Value)[x % (#[] : Array Value).size]!) (Array.range 0)) (Array.map (fun (x : Nat × Operand) => (x.fst, a.eval x.snd)) #[]).toList = some #[] := by simp [Instr.fill]
  rw [hfl]
  rfl
 have hrow : (w.alloc (.cells #[] el)).ownsRow cx.B el size (.slice (some ⟨w.heap.size, 0, none⟩) 0 0) 0 [] :=
  ⟨by simp, .inr ⟨w.heap.size, 0, #[], rfl, hr.hB, heap_alloc_new w _, ZnZ _, by unfold maxLen; omega, by simp, by simp⟩⟩
 obtain ⟨ρ', h5⟩ := hr.newRow (v := .slice (some ⟨w.heap.size, 0, none⟩) 0 0) (els := []) (Obs.fresh_spec hid) hdn' ((Below.refl _ _).alloc (ZnR _) (.cells #[] el))
  ⟨fun _ _ => undef, by dsimp only; rw [if_pos rfl]; exact hrow, fun i hi => by simp at hi, fun i hi => by simp at hi, fun g hg hf => by dsimp only at hg; rw [if_pos rfl] at hg; simp [blk] at hg; have := hr.lt g hf; omega⟩
  (fun g hg => by simp [blk] at hg; omega) hfx
 refine wpList_plain hg fun K hK => ?_
 unfold Oper.wp
 rw [hrun]
 have := k _ _ ⟨F, ρ', h5⟩
 rw [<- ht] at this
 exact hK _ _ this
theorem R0.freeze0 {F : Nat -> Prop} {ρ : Nat -> Value} {a : Act} {w : World} (h : R0 cx F ρ e σ a w) {id ee size : Nat} {els : List (List D)} (hm : (id, Ob.row ee size els) ∈ σ) :
 ∃ F', R0 cx F' ρ e (Obs.del id σ) a w /\ Rep F' w (ρ id) (.sl els) := by
 have hF2 : ∀ b, (F b \/ blk (ρ id) = some b) -> b < w.heap.size := fun b hb => by
  rcases hb with hb | hb
  ·exact h.lt b hb
  ·exact ((h.obs.ok _ hm).blk_lt hb).2
 refine ⟨fun b => F b \/ blk (ρ id) = some b, ⟨h.size, h.defers, hF2, fun b hb => .inl (h.base b hb), fun b hb => ?_, h.below, h.hB, fun u => ?_, ?_, h.up, fun p hp => h.kown p (Obs.mem_del hp).1, h.fixed⟩, h.rep_row hm (fun b hb => .inl hb) (fun g hg => .inr hg)⟩
 ·rcases hb with hb | hb
  ·exact h.new b hb
  ·exact .inr (h.kown _ hm b hb)
 ·exact RepS.turn (row := none) (h.env u) h.lt (fun g hg => by simp at hg) ⟨rfl, rfl, rfl, ZnR _, fun _ _ _ => rfl⟩ (fun b hb => .inl hb)
 ·refine ⟨fun p hp => ?_, fun p hp q hq => h.obs.apart p (Obs.mem_del hp).1 q (Obs.mem_del hq).1, fun p hp q hq => h.obs.uniq p (Obs.mem_del hp).1 q (Obs.mem_del hq).1⟩
  obtain ⟨h1, h2⟩ := Obs.mem_del hp
  have h3 := h.obs.ok p h1
  have hne : ∀ g, blk (ρ p.1) = some g -> blk (ρ id) ≠ some g := fun g hg => h.obs.apart p h1 _ hm h2 g hg
  exact h3.more h.lt (fun b hb => .inl hb) (fun g hg hf => by
   rcases hf with hf | hf
   ·exact h3.nF hg hf
   ·exact hne g hg hf)
theorem R0.freezeIn {F : Nat -> Prop} {ρ : Nat -> Value} {a : Act} {w : World} (h : R0 cx F ρ e σ a w) {c off id ee size : Nat} {ss : List S} {els : List (List D)} (hc : (c, Ob.cells ss) ∈ Obs.del id σ) (hs : ss[off]? = some (.own id)) (hm : (id, Ob.row ee size els) ∈ σ) :
 ∃ F', R0 cx F' ρ e (Obs.upd c (.cells (ss.set off (.d (.sl els)))) (Obs.del id σ)) a w := by
 obtain ⟨F', h1, h2⟩ := h.freeze0 hm
 exact ⟨F', h1.recell hc hs fun x hx => by cases hx; exact .d h2⟩
theorem AWP.freezeIn {cd : Code} (c off : Nat) {id ee size : Nat} {ss : List S} {els : List (List D)} (hs : ss[off]? = some (.own id)) (hc : (c, Ob.cells ss) ∈ Obs.del id σ) (hm : (id, Ob.row ee size els) ∈ σ)
 (k : AWP cx cd e (Obs.upd c (.cells (ss.set off (.d (.sl els)))) (Obs.del id σ)) Q) : AWP cx cd e σ Q := fun a w ⟨_, ρ, hr⟩ => by
 obtain ⟨F', h⟩ := hr.freezeIn hc hs hm
 exact k a w ⟨F', ρ, h⟩
theorem AWP.nilOr {cd : Code} (t : Nat) (ht : e t = .d (.sl [])) (h1 : AWP cx cd (e.put (some t) (.d (.v (.slice none 0 0)))) σ Q) (h2 : ∀ ad cap, cap <= 9223372036854775807 -> AWP cx cd (e.put (some t) (.d (.v (.slice (some ad) 0 cap)))) σ Q) : AWP cx cd e σ Q := fun a w ⟨F, ρ, hr⟩ => by
 have h3 := hr.env t
 rw [ht] at h3
 have h4 := Yao h3
 have key : ∀ {v : Value}, a.tmps.getD t undef = v -> R cx (e.put (some t) (.d (.v v))) σ a w := fun {v} hv => ⟨F, ρ, hr.size, hr.defers, hr.lt, hr.base, hr.new, hr.below, hr.hB, fun u => by
  by_cases hu : u = t
  ·subst hu
   rw [Env.put_same, hv]
   exact .d (.v _)
  ·rw [Env.put_other _ _ _ _ hu]
   exact hr.env u, hr.obs, hr.up, hr.kown, hr.fixed⟩
 rcases YbD h4 with ⟨h5, _⟩ | ⟨ad, cap, size, vs, h5, hc, hm, _⟩
 ·exact h1 a w (key h5)
 ·exact h2 ad cap hm a w (key (by rw [h5]; rfl))
end
theorem Le.empty {ad : Addr} {cap : Nat} (h : cap <= 9223372036854775807) : Le (.v (.slice (some ad) 0 cap)) (.sl []) := fun F w x hx => by
 rw [rep_v hx]
 exact .sl ad cap 0 [] (fun _ _ => undef) (ZnZ _) h (fun h => absurd h (by simp)) (fun i hi => by simp at hi) (fun i j hi => by simp at hi) (fun i j hi => by simp at hi) (fun i hi => by simp at hi)
theorem AOps.le {cx : Cx} {ops : Array Oper} {rest : List Oper} {e : Env} {σ : Obs} {Q : Post} (t : Nat) {s' : S} {s : S} (ht : e t = s) (h : SLe s s') (k : AOps cx ops rest (e.put (some t) s') σ Q) : AOps cx ops rest e σ Q := fun a w ⟨F, ρ, hr⟩ =>
 k a w ⟨F, ρ, hr.size, hr.defers, hr.lt, hr.base, hr.new, hr.below, hr.hB, fun u => by
  by_cases hu : u = t
  ·subst hu
   rw [Env.put_same]
   have := hr.env u
   rw [ht] at this
   exact h F ρ w _ this
  ·rw [Env.put_other _ _ _ _ hu]
   exact hr.env u, hr.obs, hr.up, hr.kown, hr.fixed⟩
section
variable {P : Program} {B : Nat} {ops : Array Oper} {o : Oper} {e : Env} {σ : Obs}
theorem eqGuard_sl (op : BinOp) (t : TypeId) (x y : Operand) (a b : Option Addr) (n m c d : Nat) (w : World) : (eqGuard op t x y (.slice a n c) (.slice b m d)).run P w = .ok () w := by
 unfold eqGuard; cases op <;> rfl
theorem run_slice_eq_nil {t el : TypeId} (w : World) (a : Option Addr) (n c : Nat) (ht : P.underlying t = some (.slice el)) : (binOp .eql t (.slice a n c) (.slice none 0 0)).run P w = .ok (.bool a.isNone) w := by
 unfold binOp
 simp only [Sem.run_bind, run_equal_slice_nil w t el a n c ht, Result.andThen_ok]
 rfl
theorem AOp.eqNilV {t ty el : TypeId} {x y : Operand} {a : Option Addr} {n c : Nat} (ho : o.op = .binOp .eql t x y ty) (ht : P.underlying t = some (.slice el)) (hx : e.ev x = .d (.v (.slice a n c))) (hy : e.ev y = .d (.v (.slice none 0 0))) :
 AOp P B ops o e σ (.d (.v (.bool a.isNone))) := .bin ho hx hy fun w => by
 rw [Sem.run_bind, eqGuard_sl]
 exact run_slice_eq_nil w a n c ht
theorem AOp.eqNilS {t ty el : TypeId} {x y : Operand} {els : List (List D)} (ho : o.op = .binOp .eql t x y ty) (ht : P.underlying t = some (.slice el)) (hx : e.ev x = .d (.sl els)) (hy : e.ev y = .d (.v (.slice none 0 0))) (hne : els ≠ []) :
 AOp P B ops o e σ (.d (.v (.bool false))) := .value fun F ρ w a hF hr _ => by
 have h1 := hr x (by rw [ho]; simp [Op.operands])
 have h2 := hr y (by rw [ho]; simp [Op.operands])
 rw [hx] at h1
 rw [hy] at h2
 refine ⟨.bool false, F, w, ?_, .d (.v _), Ext.refl hF⟩
 rcases YbD (Yao h1) with ⟨_, h5⟩ | ⟨ad, cap, size, vs, h5, _⟩
 ·exact absurd h5 hne
 ·unfold execOp
  simp only [ho, h5, Ya0 h2]
  have h3 : (do eqGuard .eql t x y (.slice (some ad) els.length cap) (.slice none 0 0); binOp .eql t (.slice (some ad) els.length cap) (.slice none 0 0) : Sem Value).run P w = .ok (.bool false) w := by
   rw [Sem.run_bind, eqGuard_sl]
   exact run_slice_eq_nil w _ _ _ ht
  rw [Sem.run_bind, h3]
  rfl
end
def RetO (t ee size : Nat) (els : List (List D)) : Post := fun ex e σ => match ex with
 | .ret => ∃ id, e t = .own id /\ (id, Ob.row ee size els) ∈ σ
 | .normal => ∃ id, e t = .own id /\ (id, Ob.row ee size els) ∈ σ
 | _ => False
theorem Yct {P : Program} {f : FuncId} {fn : Func} {c : Code} {n ee size : Nat} {ds : List D} {els : List (List D)} (hf : P.funcs[f]? = some fn) (hb : fn.body = some c) (hn : (fn.name == "runtime.NumGoroutine") = false) (hN : fn.ntmps = n)
 (t : Nat) (hr : fn.results = #[.tmp t]) (hle' : Nat.ble ds.length n = true) (h : ∀ B w0 F0 fr, AWP ⟨P, n, B, w0, F0, fr, fun _ => false, fun _ => undef⟩ c (Env.args 0 ds) [] (RetO t ee size els)) : OCall P f ds ee size els := by
 have hle : ds.length <= n := ZnB hle'
 refine ⟨Enters.of hf hn (by rw [hb]; rfl), fun F w vs hF hv => ?_⟩
 refine calls_of_wp hf hb ?_
 have hR : R ⟨P, n, w.heap.size, w, F, (fun b => w.heap.size <= b), fun _ => false, fun _ => undef⟩ (Env.args 0 ds) [] { tmps := vs.toArray ++ Array.replicate (fn.ntmps - vs.toArray.size) undef, defers := [] } w := by
  refine ⟨F, fun _ => undef, ?_, rfl, hF, fun b hb => hb, fun b hb => .inl hb, Kept.refl _ _, ZnR _, fun t => ?_, ⟨fun p hp => by simp at hp, fun p hp => by simp at hp, fun p hp => by simp at hp⟩, fun b hb => hb, fun p hp => by simp at hp, fun i hi => by simp at hi⟩
  ·simp [hN, hv.1]; omega
  ·by_cases ht : t < ds.length
   ·have := Env.args_get ds 0 t ht
    rw [Nat.zero_add] at this
    rw [this]
    have hvt : t < vs.length := by rw [hv.1]; exact ht
    have : (vs.toArray ++ Array.replicate (fn.ntmps - vs.toArray.size) undef).getD t undef = vs[t] := by
     rw [ZaD, Array.getElem?_append_left (by simpa using hvt)]
     simp [hvt]
    rw [this]
    exact .d (hv.2 t hvt ht)
   ·have := Env.args_out ds 0 t (by omega)
    rw [Nat.zero_add] at this
    rw [this]
    exact .d (.any _)
 refine wp_mono (h _ _ _ _ _ _ hR) ?_
 rintro ex a w' ⟨e', σ', hq, F', ρ', hr'⟩
 have hres : (results fn a.tmps).run P w' = .ok (a.tmps.getD t undef) w' := by
  have key : ∀ (ts : List Nat), (List.mapM (fun r => match r with | .tmp t => pure (a.tmps.getD t undef) | .cell b t => do loadVar t (<- asAddr (a.tmps.getD b undef))) (ts.map ResultVar.tmp) : Sem (List Value)).run P w' = .ok (ts.map fun t => a.tmps.getD t undef) w' := by
   intro ts
   induction ts with
   | nil => rfl
   | cons t ts ih =>
    rw [List.map_cons, List.mapM_cons, Sem.run_bind]
    simp only [Sem.run_pure, Result.andThen_ok, Sem.run_bind, ih, List.map_cons]
  unfold results
  rw [hr, Sem.run_bind]
  have h2 : (Array.mapM (fun r => match r with | ResultVar.tmp t => pure (a.tmps.getD t undef) | ResultVar.cell b t => do loadVar t (<- asAddr (a.tmps.getD b undef))) (([t] : List Nat).map ResultVar.tmp).toArray : Sem (Array Value)).run P w' = .ok (([t] : List Nat).map fun t => a.tmps.getD t undef).toArray w' := by
   rw [List.mapM_toArray, Sem.run_map, key]
   rfl
  refine (congrArg (fun r => Result.andThen r _) h2).trans ?_
  simp only [Result.andThen_ok]
  rfl
 have hends : (∃ id, e' t = .own id /\ (id, Ob.row ee size els) ∈ σ') -> bodyPost P fn (fun r w' => ∃ v F', r = .returned v /\ Ext F w F' w' /\ ObOk w.heap.size F' (fun _ => v) w' 0 (.row ee size els)) .ret a w' := by
  rintro ⟨id, h1, h2⟩
  have h3 := hr'.env t
  rw [h1] at h3
  have h4 : a.tmps.getD t undef = ρ' id := by generalize a.tmps.getD t undef = v at h3; cases h3; rfl
  refine ⟨hr'.defers, _, hres, _, F', J, ⟨hr'.base, fun b hb => (hr'.new b hb).imp (fun x => x) fun x => x, hr'.lt, ⟨hr'.below.os, hr'.below.tape, hr'.below.output, hr'.below.size, fun k hk => hr'.below.block k hk (fun hf => by have h5 : w.heap.size <= k := hf; omega)⟩⟩, obOk_base (hr'.obs.ok _ h2) (ZnR _) h4.symm⟩
 cases ex with
 | ret => exact hends hq
 | normal => exact hends hq
 | exit id => exact hq.elim
 | goto l => exact hq.elim
 | panic c => exact hq.elim
 | outgrown => exact hq.elim
theorem XRun.callO {cx : Cx} {ops : Array Oper} {σ : Obs} {Φ : List Fr} {e : Env} {Qe : Env -> Prop} {o : Oper} {l : List Oper} {fn : FuncId} {xs : List Operand} {ts : Array TypeId} {ds : List D} {ee size : Nat} {els : List (List D)} (f : Fr) (hf : f ∈ Φ) (hg : GW ops o e true) (hgn : o.guard = none) (ht : o.dst = some f.dst) (hd : Nat.blt f.dst cx.N = true)
 (ho : o.op = .call { callee := .value (.func fn), args := xs.toArray, argTypes := ts }) (ha : ArgsOk e xs ds) (h : OCall cx.P fn ds ee size els) (hob : f.ob = .row ee size els) (hs : f.s0 = .own f.id) (k : XRun cx ops σ Φ l (e.put (some f.dst) f.s0) Qe) (hfx : cx.free f.id = true := by rfl) : XRun cx ops σ Φ (o :: l) e Qe :=
 ⟨by unfold DstOk; rw [ht]; exact hd, _, .inl ⟨hg, .inl ⟨f, hf, ⟨ht, fun e0 σ _ he hfr => by
  have hev : ∀ x ∈ xs, e0.ev x = e.ev x := fun x hx => ev_same fun t hxt => he t (YaM (by rw [ho, <- hxt]; simp [Op.operands, Call.operands, hx]))
  have ha0 : ArgsOk e0 xs ds := by
   have key : ∀ (xs : List Operand) (ds : List D), (∀ x ∈ xs, e0.ev x = e.ev x) -> ArgsOk e xs ds -> ArgsOk e0 xs ds := by
    intro xs
    induction xs with
    | nil => intro ds _ h; cases ds <;> exact h
    | cons x xs ih =>
     intro ds hx h
     cases ds with
     | nil => exact h
     | cons d ds =>
      obtain ⟨⟨d0, h1, h2⟩, h3⟩ := h
      exact ⟨⟨d0, (hx x (by simp)).trans h1, h2⟩, ih ds (fun y hy => hx y (by simp [hy])) h3⟩
   exact key xs ds hev ha
  exact AOps.callO f.id hgn ht hd ho ha0 h hfr (.nil ⟨by rw [hs], by rw [hob]⟩) hfx⟩, J⟩⟩, by rw [ht]; exact k⟩
theorem acall_ofRT {T : World -> Prop} {P : Program} {f : FuncId} {fn : Func} {c : Code} {n : Nat} {ds ds' : List D} (hf : P.funcs[f]? = some fn) (hb : fn.body = some c) (hn : (fn.name == "runtime.NumGoroutine") = false) (hN : fn.ntmps = n)
 (rs : List ResultVar) (hr : fn.results = rs.toArray) (hle' : Nat.ble ds.length n = true) (h : ∀ B w0 F0, T w0 -> AWP ⟨P, n, B, w0, F0, (fun b => w0.heap.size <= b), fun _ => false, fun _ => undef⟩ c (Env.args 0 ds) [] (RetQR P rs ds')) : Ya3 P T f ds (retOf ds') := by
 have hle : ds.length <= n := ZnB hle'
 refine ⟨Enters.of hf hn (by rw [hb]; rfl), fun F w vs hT hF hv => ?_⟩
 refine calls_of_wp hf hb ?_
 have hR : R ⟨P, n, w.heap.size, w, F, (fun b => w.heap.size <= b), fun _ => false, fun _ => undef⟩ (Env.args 0 ds) [] { tmps := vs.toArray ++ Array.replicate (fn.ntmps - vs.toArray.size) undef, defers := [] } w := by
  refine ⟨F, fun _ => undef, ?_, rfl, hF, fun b hb => hb, fun b hb => .inl hb, Kept.refl _ _, ZnR _, fun t => ?_, ⟨fun p hp => by simp at hp, fun p hp => by simp at hp, fun p hp => by simp at hp⟩, fun b hb => hb, fun p hp => by simp at hp, fun i hi => by simp at hi⟩
  ·simp [hN, hv.1]; omega
  ·by_cases ht : t < ds.length
   ·have := Env.args_get ds 0 t ht
    rw [Nat.zero_add] at this
    rw [this]
    have hvt : t < vs.length := by rw [hv.1]; exact ht
    have : (vs.toArray ++ Array.replicate (fn.ntmps - vs.toArray.size) undef).getD t undef = vs[t] := by
     rw [ZaD, Array.getElem?_append_left (by simpa using hvt)]
     simp [hvt]
    rw [this]
    exact .d (hv.2 t hvt ht)
   ·have := Env.args_out ds 0 t (by omega)
    rw [Nat.zero_add] at this
    rw [this]
    exact .d (.any _)
 refine wp_mono (h _ _ _ hT _ _ hR) ?_
 rintro ex a w' ⟨e', σ', hq, F', ρ', hr'⟩
 have hends : RetRs P e' σ' rs ds' -> bodyPost P fn (fun e w' => ∃ v F', e = .returned v /\ Rep F' w' v (retOf ds') /\ Ext F w F' w') .ret a w' := by
  intro hq
  obtain ⟨vs', hrun, hl⟩ := RetRs.rep hr' hq
  have hres : (results fn a.tmps).run P w' = .ok (match vs' with | [x] => x | l => .tuple l.toArray) w' := by
   unfold results
   rw [hr, Sem.run_bind]
   have h2 : (Array.mapM (fun r => match r with | ResultVar.tmp t => pure (a.tmps.getD t undef) | ResultVar.cell b t => do loadVar t (<- asAddr (a.tmps.getD b undef))) rs.toArray : Sem (Array Value)).run P w' = .ok vs'.toArray w' := by
    rw [List.mapM_toArray, Sem.run_map]
    have h4 : (List.mapM (fun r => match r with | ResultVar.tmp t => pure (a.tmps.getD t undef) | ResultVar.cell b t => do loadVar t (<- asAddr (a.tmps.getD b undef))) rs : Sem (List Value)).run P w' = .ok vs' w' := hrun
    rw [h4]
    rfl
   refine (congrArg (fun r => Result.andThen r _) h2).trans ?_
   simp only [Result.andThen_ok]
   rcases vs' with _ | ⟨t, _ | ⟨t2, ts⟩⟩ <;> rfl
  refine ⟨hr'.defers, _, hres, _, endF F' ρ' σ', J, ?_, endF_ext hr' (fun b hb => hb)⟩
  obtain ⟨h1, h2⟩ := hl
  rcases ds' with _ | ⟨d, _ | ⟨d2, ds'⟩⟩
  ·have : vs' = [] := List.eq_nil_of_length_eq_zero h1
   subst this
   exact .tup [] [] rfl (fun i h1 => absurd h1 (by simp))
  ·rcases vs' with _ | ⟨x, _ | ⟨y, vs'⟩⟩ <;> simp at h1
   exact h2 0 (by simp) (by simp)
  ·rcases vs' with _ | ⟨x, _ | ⟨y, vs'⟩⟩
   ·simp at h1
   ·simp at h1
   ·exact .tup _ _ h1 h2
 cases ex with
 | ret => exact hends hq
 | normal => exact hends hq
 | exit id => exact hq.elim
 | goto l => exact hq.elim
 | panic c => exact hq.elim
 | outgrown => exact hq.elim
inductive Snap (σ : Obs) : S -> D -> Prop where
 | d (x : D) : Snap σ (.d x) x
 | any (s : S) : Snap σ s .any
 | le {s : S} {d d' : D} (h : Snap σ s d) (k : Le d d') : Snap σ s d'
 | row {id e size : Nat} {els : List (List D)} (h : (id, Ob.row e size els) ∈ σ) : Snap σ (.own id) (.sl els)
 | rowS {id e size : Nat} {els : List (List S)} {ds : List (List D)} (h : (id, Ob.rowS e size els) ∈ σ) (hl : els.length = ds.length) (hs : ∀ i (h1 : i < els.length) (h2 : i < ds.length), els[i].length = ds[i].length)
  (hr : ∀ i (h1 : i < els.length) (h2 : i < ds.length) j (h3 : j < els[i].length) (h4 : j < ds[i].length), Snap σ els[i][j] ds[i][j]) : Snap σ (.own id) (.sl ds)
 | val {id : Nat} {ss : List S} {ds : List D} (h : (id, Ob.val ss) ∈ σ) (hl : ss.length = ds.length) (hr : ∀ i (h1 : i < ss.length) (h2 : i < ds.length), Snap σ ss[i] ds[i]) : Snap σ (.own id) (.agg ds)
 | ptr {id off : Nat} {ss : List S} {ds : List D} (h : (id, Ob.cells ss) ∈ σ) (hl : off + ds.length <= ss.length) (hr : ∀ i (h1 : off + i < ss.length) (h2 : i < ds.length), Snap σ ss[off + i] ds[i]) : Snap σ (.ptr id off) (.fp ds)
 | ptrS {id e size k : Nat} {els : List (List S)} {ds : List D} (h : (id, Ob.rowS e size els) ∈ σ) (hk : k < els.length) (hl : els[k].length = ds.length) (hr : ∀ j (h1 : j < els[k].length) (h2 : j < ds.length), Snap σ els[k][j] ds[j]) : Snap σ (.ptr id (k * size)) (.fp ds)
 | clo {f : FuncId} {caps : List Cap} {ds : List D} (hl : caps.length = ds.length) (hr : ∀ i (h1 : i < caps.length) (h2 : i < ds.length), Snap σ caps[i].toS ds[i]) : Snap σ (.clo f caps) (.clo (.func f) ds)
theorem obS_row {B : Nat} {F : Nat -> Prop} {ρ : Nat -> Value} {w : World} {σ : Obs} (h : ObsOk B F ρ w σ) {id ee size : Nat} {els : List (List S)} (hm : (id, Ob.rowS ee size els) ∈ σ) (hne : 0 < els.length) :
 ∃ g cap, ∃ vs : Nat -> Nat -> Value, ρ id = .slice (some ⟨g, 0, none⟩) els.length cap /\ blk (ρ id) = some g /\ els.length <= cap /\ cap <= 9223372036854775807 /\ (∀ k j, k < els.length -> j < size -> w.cell? ⟨g, k * size + j, none⟩ = some (vs k j)) /\
  (∀ k (hk : k < els.length), els[k].length = size) /\ (∀ k (hk : k < els.length) j (hj : j < els[k].length), (vs k j).oneCell' = true /\ RepS F ρ w (vs k j) els[k][j]) := by
 obtain ⟨xs, h1, h2, h3, _⟩ := h.ok _ hm
 dsimp only at h1
 rcases h1.2 with ⟨_, h4⟩ | ⟨g, cap, cur, h4, h5, h6, h7, h8, _⟩
 ·omega
 ·exact ⟨g, cap, xs, h4, by rw [h4]; rfl, h7, by unfold maxLen at h8; omega, fun k j hk hj => row_cell h1 h4 h6 hk hj, h2, h3⟩
theorem Snap.rep {B : Nat} {F : Nat -> Prop} {ρ : Nat -> Value} {w : World} {σ : Obs} (hσ : ObsOk B F ρ w σ) {s : S} {d : D} (h : Snap σ s d) : ∀ x, RepS F ρ w x s -> Rep (endF F ρ σ) w x d := by
 induction h with
 | d y => exact fun x hx => (Yao hx).mono (fun b hb => .inl hb) fun _ _ => rfl
 | any s => exact fun x _ => .any x
 | le h k ih => exact fun x hx => k _ _ _ (ih x hx)
 | row hm =>
  intro x hx
  cases hx
  exact ob_rep hσ hm
 | @rowS id e size els ds hm hl hs hr ih =>
  intro x hx
  cases hx
  by_cases hne : 0 < els.length
  ·obtain ⟨g, cap, vs, h1, h2, h3, h4, h5, h6, h7⟩ := obS_row hσ hm hne
   rw [h1, hl]
   refine .sl ⟨g, 0, none⟩ cap size ds vs (by omega) h4 (fun _ => .inr ⟨_, hm, h2⟩) (fun i hi => by rw [<- hs i (by omega) hi]; exact h6 i (by omega)) (fun i j hi hj => ?_) (fun i j hi hj => ?_) (fun i hi j hj => ?_)
   ·rw [YaU, Nat.zero_add]; exact h5 i j (by omega) hj
   ·exact (h7 i (by omega) j (by rw [h6 i (by omega)]; exact hj)).1
   ·exact ih i (by omega) hi j (by rw [hs i (by omega) hi]; exact hj) hj _ (h7 i (by omega) j (by rw [hs i (by omega) hi]; exact hj)).2
  ·obtain ⟨xs, h1, _⟩ := hσ.ok _ hm
   dsimp only at h1
   have h0 : els.length = 0 := by omega
   have hds : ds = [] := List.eq_nil_of_length_eq_zero (by omega)
   subst hds
   rcases h1.2 with ⟨h4, _⟩ | ⟨g, cap, cur, h4, h5, h6, h7, h8, _⟩
   ·rw [h4]; exact .nil
   ·rw [h4, h0]
    exact .sl ⟨g, 0, none⟩ cap size [] (fun _ _ => undef) (by simp) (by unfold maxLen at h8; omega) (fun h => absurd h (by simp)) (fun i hi => absurd hi (by simp)) (fun i j hi => absurd hi (by simp)) (fun i j hi => absurd hi (by simp)) (fun i hi => absurd hi (by simp))
 | @val id ss ds hm hl hr ih =>
  intro x hx
  cases hx
  obtain ⟨cs, h1, h2, h3⟩ := hσ.ok _ hm
  dsimp only at h1
  rw [h1]
  exact .agg cs ds (by omega) (fun i hi => (h3 i hi (by omega)).1) (fun i hi hi2 => ih i (by omega) hi2 _ (h3 i hi (by omega)).2)
 | @ptr id off ss ds hm hl hr ih =>
  intro x hx
  obtain ⟨g, ty, cs, h1, h2, h3, h4, h5, h6⟩ := hσ.ok _ hm
  dsimp only at h1
  have hv := YbX hx (g := g) (by rw [h1]; rfl)
  rw [hv]
  refine .fp ⟨g, off, none⟩ ds (fun j => cs.getD (off + j) undef) (.inr ⟨_, hm, by rw [h1]; rfl⟩) (fun j hj => ?_) (fun j hj => ?_) (fun j hj => ?_)
  ·have hjc : off + j < cs.length := by omega
   rw [YaU, cell_of_row w g (off + j) cs.toArray ty (0, 0) h4]
   simp [hjc]
  ·have hjc : off + j < cs.length := by omega
   have := (h6 (off + j) hjc (by omega)).1
   simpa [hjc] using this
  ·have hjc : off + j < cs.length := by omega
   have := ih j (by omega) hj _ (h6 (off + j) hjc (by omega)).2
   simpa [hjc] using this
 | @ptrS id e size k els ds hm hk hl hr ih =>
  intro x hx
  obtain ⟨g, cap, vs, h1, h2, h3, h4, h5, h6, h7⟩ := obS_row hσ hm (by omega)
  have hv := YbX hx (g := g) h2
  rw [hv]
  refine .fp ⟨g, k * size, none⟩ ds (fun j => vs k j) (.inr ⟨_, hm, h2⟩) (fun j hj => ?_) (fun j hj => ?_) (fun j hj => ?_)
  ·rw [YaU]
   exact h5 k j hk (by rw [<- h6 k hk]; omega)
  ·exact (h7 k hk j (by omega)).1
  ·exact ih j (by omega) hj _ (h7 k hk j (by omega)).2
 | @clo f caps ds hl hr ih =>
  intro x hx
  cases hx with
  | clo _ cs _ hcs =>
   have h1 := hcs.toS
   have h2 : cs.length = caps.length := by simpa using h1.1
   refine .clo (.func f) cs ds (by omega) fun i hi hi2 => ih i (by omega) hi2 _ ?_
   have h3 := h1.2 i hi (by simp; omega)
   rw [ZgP] at h3
   exact h3
inductive Plain : D -> Prop where
 | v (x : Value) : Plain (.v x)
 | any : Plain .any
 | agg (ds : List D) (h : ∀ d ∈ ds, Plain d) : Plain (.agg ds)
 | tup (ds : List D) (h : ∀ d ∈ ds, Plain d) : Plain (.tup ds)
theorem Plain.rep {d : D} (h : Plain d) {F F' : Nat -> Prop} {w w' : World} : ∀ x, Rep F w x d -> Rep F' w' x d := by
 induction h with
 | v y => intro x hx; cases hx; exact .v _
 | any => exact fun x _ => .any x
 | agg ds h ih =>
  intro x hx
  cases hx with
  | agg cs _ hl hone hr => exact .agg cs ds hl hone fun i h1 h2 => ih _ (ZgM h2) _ (hr i h1 h2)
 | tup ds h ih =>
  intro x hx
  cases hx with
  | tup cs _ hl hr => exact .tup cs ds hl fun i h1 h2 => ih _ (ZgM h2) _ (hr i h1 h2)
def SnapArgs (e : Env) (σ : Obs) : List Operand -> List D -> Prop
 | [], [] => True
 | x :: xs, d :: ds => Snap σ (e.ev x) d /\ SnapArgs e σ xs ds
 | _, _ => False
theorem SnapArgs.nil {e : Env} {σ : Obs} : SnapArgs e σ [] [] := trivial
theorem SnapArgs.cons {e : Env} {σ : Obs} {x : Operand} {d : D} {xs : List Operand} {ds : List D} {s : S} (hx : e.ev x = s) (h : Snap σ s d) (k : SnapArgs e σ xs ds) : SnapArgs e σ (x :: xs) (d :: ds) := ⟨hx ▸ h, k⟩
theorem SnapArgs.rep {B : Nat} {e : Env} {σ : Obs} {F : Nat -> Prop} {ρ : Nat -> Value} {w : World} {a : Act} (h : ObsOk B F ρ w σ) : ∀ {xs : List Operand} {ds : List D}, SnapArgs e σ xs ds -> (∀ x ∈ xs, RepS F ρ w (a.eval x) (e.ev x)) -> RepL (endF F ρ σ) w (xs.map a.eval) ds
 | [], [], _, _ => RepL.nil
 | x :: xs, d :: ds, hd, ha => RepL.cons (hd.1.rep h _ (ha x (by simp))) (SnapArgs.rep h hd.2 fun y hy => ha y (List.mem_cons_of_mem _ hy))
 | [], _ :: _, h, _ => h.elim
 | _ :: _, [], h, _ => h.elim
section
variable {P : Program} {B : Nat} {ops : Array Oper} {o : Oper} {e : Env} {σ : Obs}
theorem AOp.callSnap {f : FuncId} {xs : List Operand} {ts : Array TypeId} {ds : List D} {d : D}
 (ho : o.op = .call { callee := .value (.func f), args := xs.toArray, argTypes := ts }) (ha : SnapArgs e σ xs ds) (h : Yaq P f ds d) (hp : Plain d) : AOp P B ops o e σ (.d d) := by
 intro F ρ w a hF hr hσ
 have hr' : ∀ y ∈ o.op.operands.toList, RepS F ρ w (a.eval y) (e.ev y) := fun y hy => YaC fun t ht => hr t (YaM (by rw [<- ht]; exact hy))
 have h1 := ha.rep (a := a) hσ fun x hx => hr' x (by rw [ho]; simp [Op.operands, Call.operands, hx])
 have hF2 : ∀ b, endF F ρ σ b -> b < w.heap.size := by
  rintro b (hb | ⟨p, hp, hb⟩)
  ·exact hF b hb
  ·exact ((hσ.ok p hp).blk_lt hb).2
 have h2 := h.2 (endF F ρ σ) w _ hF2 h1
 have h3 := h.1 (xs.map a.eval).toArray w
 have hx : (execOp a.eval o).run P w = .ok (.enter f (xs.map a.eval).toArray) w := by
  unfold execOp
  simp only [ho, resolve, Deferred.ofValue, Act.eval, invoke, Sem.run_bind, Sem.run_pure, Result.andThen_ok]
  simpa using h3
 unfold Oper.wp
 rw [hx]
 refine h2.mono fun _ w' ⟨v, F', he, hv, hE⟩ => ?_
 subst he
 exact ⟨v, F, J, .d (hp.rep _ hv), Ext.of_below hF hE.below⟩
def S.weak : S -> D
 | .d x => x
 | _ => .any
def Ob.weak : Ob -> Ob
 | .rowS e size els => .row e size (els.map fun ss => ss.map S.weak)
 | o => o
def Obs.weak : Obs -> Obs
 | [] => []
 | p :: l => (p.1, p.2.weak) :: Obs.weak l
end
section
variable {cx : Cx} {ops : Array Oper} {o : Oper} {rest : List Oper} {e : Env} {σ : Obs} {Q : Post}
theorem AWP.obs {c : Code} {σ' : Obs} (h : ∀ p ∈ σ', p ∈ σ) (k : AWP cx c e σ' Q) : AWP cx c e σ Q := fun a w ⟨F, ρ, hr⟩ => k a w ⟨F, ρ, hr.size, hr.defers, hr.lt, hr.base, hr.new, hr.below, hr.hB, hr.env, hr.obs.sub h, hr.up, fun p hp => hr.kown p (h p hp), hr.fixed⟩
theorem AllIn.of {σ : Obs} : ∀ {l : Obs}, (∀ p ∈ l, p ∈ σ) -> AllIn σ l
 | [], _ => trivial
 | x :: l, h => ⟨h x (by simp), AllIn.of fun p hp => h p (List.mem_cons_of_mem _ hp)⟩
end
def OneS (σ : Obs) (s : S) : Prop := (∃ x : D, s = .d x /\ x.one = true /\ x.parts = [x]) \/ ∃ i ee size els, s = .own i /\ (i, Ob.row ee size els) ∈ σ
theorem OneS.d {σ : Obs} {x : D} (h1 : x.one = true) (h2 : x.parts = [x]) : OneS σ (.d x) := .inl ⟨x, rfl, h1, h2⟩
theorem OneS.own {σ : Obs} {i ee size : Nat} {els : List (List D)} (h : (i, Ob.row ee size els) ∈ σ) : OneS σ (.own i) := .inr ⟨i, ee, size, els, rfl, h⟩
theorem OneS.cell {σ : Obs} {s : S} (h : OneS σ s) {B : Nat} {F : Nat -> Prop} {ρ : Nat -> Value} {w : World} (hσ : ObsOk B F ρ w σ) {u : Value} (hu : RepS F ρ w u s) : ∃ c, u.cells = #[c] /\ c.oneCell' = true /\ RepS F ρ w c s := by
 rcases h with ⟨x, rfl, h1, h2⟩ | ⟨i, ee, size, els, rfl, hm⟩
 ·obtain ⟨h3, h4⟩ := Ybd (Yao hu) h1
  have hl := h3.1
  rw [h2] at hl
  have hs : u.cells.size = 1 := by simpa using hl
  obtain ⟨c, hc⟩ : ∃ c, u.cells = #[c] := by
   have : u.cells.toList.length = 1 := by simpa using hl
   obtain ⟨c, hc⟩ := List.length_eq_one_iff.1 this
   exact ⟨c, by rw [<- Array.toList_inj]; exact hc⟩
  refine ⟨c, hc, h4 c (by rw [hc]; simp), .d ?_⟩
  have := h3.2 0 (by rw [hc]; simp) (by rw [h2]; simp)
  simp only [hc, h2] at this
  simpa using this
 ·obtain ⟨xs, hown, _⟩ := hσ.ok _ hm
  dsimp only at hown
  have hv : u = ρ i := by cases hu; rfl
  refine ⟨ρ i, ?_, ?_, .own i⟩
  ·rw [hv]; rcases hown.2 with ⟨h3, _⟩ | ⟨g', cap, cur, h3, _⟩ <;> rw [h3] <;> rfl
  ·rcases hown.2 with ⟨h3, _⟩ | ⟨g', cap, cur, h3, _⟩ <;> rw [h3] <;> rfl
section
variable {cx : Cx} {ops : Array Oper} {o : Oper} {rest : List Oper} {e : Env} {σ : Obs} {Q : Post}
theorem AOps.loadVal {t dst : Nat} {x : Operand} {cid off size : Nat} {ss : List S} (id : Nat) (hg : o.guard = none) (ht : o.dst = some dst) (hdn : Nat.blt dst cx.N = true) (ho : o.op = .load t x) (hT : AggT cx.P t size) (hx : e.ev x = .ptr cid off) (hm : (cid, Ob.cells ss) ∈ σ) (hl : off + size <= ss.length) (hid : Obs.fresh id σ = true)
 (k : AOps cx ops rest ((e.kill id).put (some dst) (.own id)) ((id, .val (((ss.drop off).take size).map (S.kill id))) :: Obs.kill id σ) Q) (hfx : cx.free id = true := by rfl) : AOps cx ops (o :: rest) e σ Q := by
 intro a w ⟨F, ρ, hr⟩
 have h1 := YaC (e := e) (x := x) (a := a) (fun t _ => hr.env t)
 rw [hx] at h1
 obtain ⟨g, ty, cs, h2, h3, h4, h5, h6, h7⟩ := hr.obs.ok _ hm
 dsimp only at h2
 have hv := YbX h1 (g := g) (by rw [h2]; rfl)
 have hl2 : ((cs.drop off).take size).length = size := by rw [ZlT, ZlD]; omega
 have hcells : (loadCells ⟨g, off, none⟩ ((cs.drop off).take size).length).run cx.P w = .ok ((cs.drop off).take size).toArray w := run_loadCells_list w _ _ (fun j v hj => by
  have hlt := (ZgS.1 hj).1
  rw [hl2] at hlt
  rw [YaU, cell_of_row w g (off + j) cs.toArray ty (0, 0) h5, <- hj]
  simp [hlt])
 rw [hl2] at hcells
 refine wpList_plain hg fun K hK => ?_
 unfold Oper.wp execOp
 simp only [ho, hv, Instr.loadAt, Instr.sureAddr, loadVar, Sem.run_bind, Sem.run_pure, Result.andThen_ok, hT.agg w, hT.size w, if_true, hcells]
 obtain ⟨ρ', h8⟩ := hr.newObF (id := id) (dst := dst) (ob := .val (((ss.drop off).take size).map (S.kill id))) (v := .agg ((cs.drop off).take size).toArray) (Obs.fresh_spec hid) (by simpa [Nat.blt_eq] using hdn) (Ext.refl hr.lt) (by
  refine ⟨(cs.drop off).take size, by simp, by rw [hl2, ZlM, ZlT, ZlD]; omega, fun j hj hj' => ?_⟩
  have hj1 : j < size := by rw [hl2] at hj; exact hj
  simp only [ZgP, List.getElem_take, List.getElem_drop]
  exact ⟨(h7 (off + j) (by omega) (by omega)).1, (h7 (off + j) (by omega) (by omega)).2.kill id (fun i hi => by simp [hi])⟩) (fun g hg => by simp [blk] at hg) hfx
 have := k _ _ ⟨F, ρ', h8⟩
 rw [<- ht] at this
 exact hK _ _ this
end
end
section
open Go.RowKit Go.Shelf Go.Lib Go.Sort
theorem cell_top {W : World} {b i e : Nat} {cs : Array Value} {v : Value} (hb : b = W.heap.size) (hv : cs[i]? = some v) : (W.alloc (.cells cs e)).cell? ⟨b, i, none⟩ = some v := by
 subst hb
 have h : (W.alloc (.cells cs e)).heap[W.heap.size]? = some (.cells cs e (0, 0)) := heap_alloc_new W _
 rw [cell_of_row _ _ i cs e (0, 0) h, hv]
theorem rngK {α : Type} [Inhabited α] (n : Nat) (i : Nat) (h : i < n) : (Array.range n)[i]! = i := by
 rw [getElem!_pos (Array.range n) i (by simpa using h)]; simp
section
variable {α : Type} [Inhabited α]
theorem put_blockG (enc : α -> List Value) (k : Nat) {w : World} {g n e : Nat} {cur : Array Value} {os : Array Obj} {zs : Array α} (h : w.heap[g]? = some (.cells cur e (0, 0))) :
 (Sort.grow (putRowK enc k (Sort.ahead w n) g 0 zs) os).heap[g]? = some (.cells (Sort.putCells id 0 (flatK enc k zs) cur) e (0, 0)) /\
 (∀ j, j < w.heap.size -> j ≠ g -> (Sort.grow (putRowK enc k (Sort.ahead w n) g 0 zs) os).heap[j]? = w.heap[j]?) := by
 unfold putRowK
 have hg : g < w.heap.size := (ZaS.1 h).1
 have hs : ∀ j, j < w.heap.size -> (Sort.grow (Sort.putRow id (Sort.ahead w n) g 0 (flatK enc k zs)) os).heap[j]? = (Sort.putRow id (Sort.ahead w n) g 0 (flatK enc k zs)).heap[j]? := fun j hj => Sort.heap_grow_old _ _ (by rw [Sort.size_putRow]; exact hj)
 refine ⟨?_, fun j hj hne => ?_⟩
 ·rw [hs g hg]
  show (w.heap.modify g _)[g]? = _
  rw [Array.getElem?_modify, if_pos rfl, h]
  rfl
 ·rw [hs j hj]
  show (w.heap.modify g _)[j]? = _
  rw [Array.getElem?_modify, if_neg (Ne.symm hne)]
theorem put_cellsG (enc : α -> List Value) (k : Nat) (zs : Array α) (cur : Array Value) (hl : zs.size * k <= cur.size) (i c : Nat) (hi : i < zs.size) (hc : c < k) : (Sort.putCells id 0 (flatK enc k zs) cur)[i * k + c]? = some ((enc zs[i]!)[c]!) := by
 have hk0 : 0 < k := by omega
 have hb : i * k + c < zs.size * k := by
  have := Nat.mul_le_mul_right k (show i + 1 <= zs.size by omega)
  rw [Nat.add_mul, Nat.one_mul] at this
  omega
 unfold Sort.putCells
 rw [Array.getElem?_mapIdx, Array.getElem?_eq_getElem (by omega), Option.map_some, if_pos ⟨ZnZ _, by rw [size_flatK]; omega⟩]
 rw [Nat.sub_zero, get_flatK enc k zs _ hb]
 have e1 : (i * k + c) / k = i := by rw [Nat.mul_comm, Nat.mul_add_div hk0, Nat.div_eq_of_lt hc, Nat.add_zero]
 have e2 : (i * k + c) % k = c := by rw [Nat.mul_comm, Nat.mul_add_mod, Nat.mod_eq_of_lt hc]
 rw [e1, e2]
 rfl
end
theorem repSL_fn {F : Nat -> Prop} {ρ : Nat -> Value} {w : World} {vs : List Value} {id : Nat} {f : Fn} (h : RepSL F ρ w vs [.own id, .d (.clo f [])]) : vs = [ρ id, .func f #[] #[]] := by
 obtain ⟨v, u, rfl⟩ : ∃ v u, vs = [v, u] := by
  match vs, h.1 with
  | [v, u], _ => exact ⟨v, u, rfl⟩
 have h1 := h.2 0 (by simp) (by simp)
 have h2 := h.2 1 (by simp) (by simp)
 simp only [List.getElem_cons_zero, List.getElem_cons_succ] at h1 h2
 cases h1
 have h3 := Yao h2
 cases h3 with
 | clo _ cs _ hl _ =>
  have : cs = [] := List.eq_nil_of_length_eq_zero hl
  subst this
  rfl
section
variable {α : Type} (cf : α -> α -> Int)
def YbL (l : List α) : List α := l.mergeSort fun x y => !(ltOf cf y x)
def DistF (l : List α) : Prop := l.Pairwise fun x y => ltOf cf x y = true \/ ltOf cf y x = true
def RiseF (l : List α) : Prop := l.Pairwise fun x y => ltOf cf x y = true
variable {cf}
theorem sortF_perm (l : List α) : (YbL cf l).Perm l := List.mergeSort_perm l _
theorem sortF_pw (hO : SWO (ltOf cf)) (l : List α) : (YbL cf l).Pairwise fun x y => ltOf cf y x = false := by
 unfold YbL
 have := List.pairwise_mergeSort (le := fun x y => !(ltOf cf y x)) (fun a b c h1 h2 => by
  simp only [Bool.not_eq_true'] at h1 h2 ⊢
  exact hO.ntrans _ _ _ h2 h1) (fun a b => by
  rw [Bool.or_eq_true, Bool.not_eq_true', Bool.not_eq_true']
  cases h : ltOf cf b a with
  | false => exact .inl rfl
  | true => exact .inr (hO.asymmA h)) l
 exact this.imp fun h => by simpa using h
theorem distF_symm {l r : List α} (hp : l.Perm r) (h : DistF cf l) : DistF cf r := (hp.pairwise_iff (fun {a b} h => h.symm)).1 h
theorem riseF_of {l : List α} (hd : DistF cf l) (hs : l.Pairwise fun x y => ltOf cf y x = false) : RiseF cf l := by
 refine (List.Pairwise.and hd hs).imp fun {a b} ⟨h2, h3⟩ => ?_
 rcases h2 with h2 | h2
 ·exact h2
 ·rw [h3] at h2; cases h2
theorem sortF_rise (hO : SWO (ltOf cf)) {l : List α} (h : DistF cf l) : RiseF cf (YbL cf l) := riseF_of (distF_symm (sortF_perm l).symm h) (sortF_pw hO l)
theorem riseF_uniq (hO : SWO (ltOf cf)) {l r : List α} (h1 : RiseF cf l) (h2 : RiseF cf r) (hm : ∀ x, x ∈ l ↔ x ∈ r) : l = r := by
 have nd : ∀ {l : List α}, RiseF cf l -> l.Nodup := fun h => h.imp fun {a b} hab e => by rw [e, hO.irrefl] at hab; cases hab
 have hp : l.Perm r := (List.perm_ext_iff_of_nodup (nd h1) (nd h2)).2 hm
 refine List.Perm.eq_of_pairwise (le := fun x y => ltOf cf x y = true) (fun a b _ _ h3 h4 => ?_) h1 h2 hp
 have := hO.asymmA h3
 rw [h4] at this
 cases this
theorem sortF_uniq (hO : SWO (ltOf cf)) {l r : List α} (hd : DistF cf l) (hp : r.Perm l) (hs : r.Pairwise fun x y => ltOf cf y x = false) : r = YbL cf l := by
 refine riseF_uniq hO (riseF_of (distF_symm hp.symm hd) hs) (sortF_rise hO hd) fun x => ?_
 rw [hp.mem_iff, (sortF_perm l).mem_iff]
end
structure SortT (P : Program) (sf k : Nat) : Prop where
 ent : ∀ args w, (callFunc sf args).run P w = .ok (.enter sf args) w
 nil : ∀ fv w, Calls P sf #[.slice none 0 0, fv] w fun e w' => e = .returned (.tuple #[]) /\ w' = w
 all : ∀ (enc : Nat -> List Value), (∀ x, (enc x).length = k) -> (∀ x, ∀ v ∈ enc x, v.oneCell' = true) -> ∀ (cf : Nat -> Nat -> Int), SWO (ltOf cf) -> ∀ (g blk cap : Nat) (d : Array Nat) (w : World), (∀ args w, (callFunc g args).run P w = .ok (.enter g args) w) -> CmpLays P g #[] enc k cf blk 0 d.size w -> HoldsK enc k w blk 0 d -> blk < w.heap.size -> d.size < 4611686018427387904 ->
  Calls P sf #[.slice (some ⟨blk, 0, none⟩) d.size cap, .func (.func g) #[] #[]] w fun e w' => e = .returned (.tuple #[]) /\ ∃ d' n os, PermIn 0 d.size d d' /\ SortedIn (ltOf cf) 0 d.size d' /\ w' = sortWorldK enc k w blk 0 n d' os
section
variable {α : Type} [Inhabited α] (dz : α -> List D) (k : Nat) (cf : α -> α -> Int)
def CmpT (P : Program) (g k : Nat) (dz : α -> List D) (cf : α -> α -> Int) : Prop := ∀ (F : Nat -> Prop) (w0 W : World) (x y : α) (xs ys : List Value), xs.length = k -> ys.length = k -> (∀ i (h : i < xs.length) (h' : i < (dz x).length), Rep F w0 xs[i] (dz x)[i]) -> (∀ i (h : i < ys.length) (h' : i < (dz y).length), Rep F w0 ys[i] (dz y)[i]) ->
 Calls P g #[.agg xs.toArray, .agg ys.toArray] W fun e w' => e = .returned (.int .i64 (cf x y)) /\ ∃ q os', w' = grow (W.drewN q) os'
variable {dz k cf}
def encF (ys : Nat -> Nat -> Value) (zs : List Value) (k n i : Nat) : List Value := if i < n then (List.range k).map (ys i) else zs
def cfF (cf : α -> α -> Int) (xs : List α) (i j : Nat) : Int := cf (xs.getD i default) (xs.getD j default)
theorem swoF (hO : SWO (ltOf cf)) (xs : List α) : SWO (ltOf (cfF cf xs)) where
 irrefl x := hO.irrefl (xs.getD x default)
 trans x y z h1 h2 := hO.trans (xs.getD x default) (xs.getD y default) (xs.getD z default) h1 h2
 ntrans x y z h1 h2 := hO.ntrans (xs.getD x default) (xs.getD y default) (xs.getD z default) h1 h2
theorem sort_rcall {P : Program} {sf g : Nat} (T : SortT P sf k) (hO : SWO (ltOf cf)) (eg : ∀ args w, (callFunc g args).run P w = .ok (.enter g args) w) (hC : CmpT P g k dz cf) (hdz : ∀ x, (dz x).length = k)
 (zs : List Value) (hzl : zs.length = k) (hz1 : ∀ v ∈ zs, v.oneCell' = true) (hzr : ∀ F w i (h : i < zs.length) (h' : i < (dz default).length), Rep F w zs[i] (dz default)[i])
 (xs : List α) (hn : xs.length < 4611686018427387904) (hd : DistF cf xs) (e : Nat) : RCall P sf e k (xs.map dz) ((YbL cf xs).map dz) [.clo (.func g) []] (.tup []) := by
 intro id
 refine ⟨T.ent, fun F ρ B w vs hF hB hσ hv => ?_⟩
 obtain rfl := repSL_fn hv
 have hsl : (YbL cf xs).length = xs.length := (sortF_perm xs).length_eq
 have hl : (xs.map dz).length = xs.length := ZlM ..
 obtain ⟨ys, h1, h2, h3, h4⟩ := hσ.ok _ (ZmS.2 rfl)
 rw [hl] at h1
 have h1' : w.ownsRow B e k (ρ id) xs.length (flat ys xs.length k) := h1
 have hcell : ∀ i, (hi : i < xs.length) -> ∀ c, (hc : c < k) -> (ys i c).oneCell' = true /\ Rep F w (ys i c) ((dz xs[i])[c]'(by rw [hdz]; exact hc)) := fun i hi c hc => by
  have := h3 i (by rw [hl]; exact hi) c (by rw [ZgP, hdz]; exact hc)
  simpa only [ZgP] using this
 rcases h1'.2 with ⟨h5, h6⟩ | ⟨g0, cap, cur, h5, h6, h7, h8, h9, h10, h11⟩
 ·have h6' := List.eq_nil_of_length_eq_zero h6
  subst h6'
  rw [h5]
  refine (T.nil (.func (.func g) #[] #[]) w).mono fun e' w' ⟨he, hw⟩ => ?_
  subst hw
  refine ⟨_, F, ρ, he, .tup [] [] rfl (fun i h1 => by simp at h1), fun _ hb => hb, fun _ hb => .inl hb, hF, Kept.refl _ _, ?_, ?_, fun _ _ => rfl⟩
  ·have : (YbL cf ([] : List α)).map dz = ([] : List α).map dz := by unfold YbL; rw [List.mergeSort_nil]
   rw [this]
   exact hσ
  ·intro p hp b hb
   have : p = (id, .row e k ((YbL cf ([] : List α)).map dz)) := by simpa using hp
   subst this
   rw [h5] at hb
   simp [blk] at hb
 ·rw [h5]
  have hg : g0 < w.heap.size := (ZaS.1 h7).1
  have hcur : ∀ i c, i < xs.length -> c < k -> cur[i * k + c]? = some (ys i c) := fun i c hi hc => by
   have hcc := row_cell h1' h5 h7 hi hc
   rwa [cell_of_row w g0 (i * k + c) cur e (0, 0) h7] at hcc
  have hdm : ∀ j, j < xs.length * k -> j / k < xs.length /\ j % k < k /\ j / k * k + j % k = j := fun j hj => by
   have hk0 : 0 < k := Nat.pos_of_ne_zero fun h => by subst h; simp at hj
   exact ⟨(Nat.div_lt_iff_lt_mul hk0).2 hj, Nat.mod_lt _ hk0, by rw [Nat.mul_comm]; exact Nat.div_add_mod j k⟩
  have hE : ∀ i, (encF ys zs k xs.length i).length = k := fun i => by
   unfold encF
   split
   ·simp
   ·exact hzl
  have hEat : ∀ i c, i < xs.length -> c < k -> (encF ys zs k xs.length i)[c]! = ys i c := fun i c hi hc => by
   unfold encF
   rw [if_pos hi, getElem!_pos _ c (by simpa using hc)]
   simp
  have hH : HoldsK (encF ys zs k xs.length) k w g0 0 (Array.range xs.length) := by
   intro j hj
   have hj' : j < xs.length * k := by simpa using hj
   obtain ⟨hpi, hpc, hpe⟩ := hdm j hj'
   have h12 := hcur (j / k) (j % k) hpi hpc
   rw [hpe] at h12
   rw [Nat.zero_add, cell_of_row w g0 j cur e (0, 0) h7, h12, get_flatK _ k _ _ (by simpa using hj'), rngK (α := Nat) _ _ hpi]
   refine ⟨by rw [hEat _ _ hpi hpc]; rfl, ?_⟩
   unfold World.frozen?
   rw [h7]
   simp
  have hRep : ∀ x, ∀ i (h : i < (encF ys zs k xs.length x).length) (h' : i < (dz (xs.getD x default)).length), Rep F w (encF ys zs k xs.length x)[i] (dz (xs.getD x default))[i] := fun x i h h' => by
   have hi : i < k := by rw [hE] at h; exact h
   by_cases hx : x < xs.length
   ·have e1 : (encF ys zs k xs.length x)[i] = ys x i := by
     have := hEat x i hx hi
     rwa [getElem!_pos _ i h] at this
    have e2 : xs.getD x default = xs[x] := by rw [ZgD, ZgE hx]; rfl
    simp only [e1, e2]
    exact (hcell x hx i hi).2
   ·have e1 : encF ys zs k xs.length x = zs := if_neg hx
    have e2 : xs.getD x default = default := by rw [ZgD, List.getElem?_eq_none (by omega)]; rfl
    simp only [e1, e2]
    exact hzr F w i (by rw [hzl]; exact hi) _
  have hL : CmpLays P g #[] (encF ys zs k xs.length) k (cfF cf xs) g0 0 (Array.range xs.length).size w := fun m os dk _ x y =>
   hC F w _ (xs.getD x default) (xs.getD y default) _ _ (hE x) (hE y) (hRep x) (hRep y)
  have h := T.all (encF ys zs k xs.length) hE
   (fun x v hv => by
    unfold encF at hv
    by_cases hx : x < xs.length
    ·rw [if_pos hx] at hv
     obtain ⟨c, hc, rfl⟩ := ZmM.1 hv
     exact (hcell x hx c (List.mem_range.1 hc)).1
    ·rw [if_neg hx] at hv
     exact hz1 v hv) (cfF cf xs) (swoF hO xs) g g0 cap (Array.range xs.length) w eg hL hH hg (by simpa using hn)
  rw [show (Array.range xs.length).size = xs.length by simp] at h
  refine h.mono fun e' w' ⟨he, d', n, os, hp, hs, hw⟩ => ?_
  obtain ⟨hp1, _, hp3⟩ := hp
  have hds : d'.size = xs.length := by rw [hp1]; simp
  have hperm : d'.toList.Perm (List.range xs.length) := by
   have e1 : d'.extract 0 xs.length = d' := by rw [<- hds]; exact Array.extract_size
   have e2 : (Array.range xs.length).extract 0 xs.length = Array.range xs.length := by
    have := Array.extract_size (xs := Array.range xs.length)
    rwa [show (Array.range xs.length).size = xs.length by simp] at this
   rw [e1, e2] at hp3
   simpa using hp3
  have hlt : ∀ i, i < xs.length -> d'[i]! < xs.length := fun i hi => by
   rw [getElem!_pos d' i (by omega)]
   have : d'[i] ∈ d'.toList := by rw [Array.mem_toList_iff]; exact Array.getElem_mem _
   exact List.mem_range.1 (hperm.mem_iff.1 this)
  have hsort : (d'.toList.map fun i => xs.getD i default) = YbL cf xs := by
   refine sortF_uniq hO hd ?_ ?_
   ·have h12 := hperm.map fun i => xs.getD i default
    have h13 : (List.range xs.length).map (fun i => xs.getD i default) = xs := by
     apply List.ext_getElem
     ·simp
     ·intro i a1 a2
      simp [ZgD, ZgE a2]
    rwa [h13] at h12
   ·rw [List.pairwise_map, List.pairwise_iff_getElem]
    intro i j hi hj hij
    have hj' : j < xs.length := by rw [<- hds]; simpa using hj
    have h12 := hs i j (ZnZ _) hij (by rw [<- hds]; simpa using hj)
    rw [getElem!_pos d' i (by omega), getElem!_pos d' j (by omega)] at h12
    have h13 : ltOf cf (xs.getD d'[j] default) (xs.getD d'[i] default) = false := h12
    simpa using h13
  have hat : ∀ i, (hi : i < xs.length) -> (YbL cf xs)[i]'(by rw [hsl]; exact hi) = xs[d'[i]!]'(hlt i hi) := fun i hi => by
   have h12 : (d'.toList.map fun i => xs.getD i default)[i]? = some (xs[d'[i]!]'(hlt i hi)) := by
    rw [List.getElem?_map, Array.getElem?_toList, Array.getElem?_eq_getElem (by omega)]
    have := hlt i hi
    rw [getElem!_pos d' i (by omega)] at this
    simp only [Option.map_some, ZgD, ZgE this, Option.getD_some]
    congr 1
    simp [getElem!_pos d' i (by omega)]
   rw [hsort, ZgE (by rw [hsl]; exact hi)] at h12
   exact Option.some.inj h12
  have hw2 : w' = Sort.grow (putRowK (encF ys zs k xs.length) k (Sort.ahead w n) g0 0 d') os := hw
  obtain ⟨hb1, hb2⟩ := put_blockG (encF ys zs k xs.length) k (n := n) (os := os) (zs := d') h7
  have hsz : w.heap.size <= w'.heap.size := by rw [hw2, Sort.size_grow, size_putRowK]; exact Nat.le_add_right _ _
  have hob : ownB [(id, Ob.row e k (xs.map dz))] ρ g0 := ⟨_, ZmS.2 rfl, by rw [h5]; rfl⟩
  have hnF : ¬ F g0 := h4 g0 (by rw [h5]; rfl)
  have hkeep : ∀ b, F b -> w'.heap[b]? = w.heap[b]? := fun b hb => by
   rw [hw2]
   exact hb2 b (hF b hb) (fun e => hnF (e ▸ hb))
  refine ⟨_, F, ρ, he, .tup [] [] rfl (fun i h1 => by simp at h1), fun _ hb => hb, fun _ hb => .inl hb, fun b hb => Nat.lt_of_lt_of_le (hF b hb) hsz, ⟨by rw [hw2]; rfl, by rw [hw2]; rfl, by rw [hw2]; rfl, hsz, fun k hk hne => ?_⟩, ?_, ?_, fun _ _ => rfl⟩
  ·rw [hw2]
   exact hb2 k hk (fun he => hne (.inr (he ▸ hob)))
  ·refine ⟨fun p hp => ?_, fun p hp q hq hne => ?_, fun p hp q hq _ => ?_⟩
   ·have : p = (id, .row e k ((YbL cf xs).map dz)) := by simpa using hp
    subst this
    have hl2 : ((YbL cf xs).map dz).length = xs.length := by rw [ZlM, hsl]
    have hc2 : ∀ i c, i < xs.length -> c < k -> (Sort.putCells _root_.id 0 (flatK (encF ys zs k xs.length) k d') cur)[i * k + c]? = some (ys d'[i]! c) := fun i c hi hc => by
     rw [put_cellsG (encF ys zs k xs.length) k d' cur (by rw [hds, h10]; exact Nat.mul_le_mul_right k h8) i c (by omega) hc, hEat _ _ (hlt i hi) hc]
    refine ⟨fun i c => ys d'[i]! c, ?_, fun i hi => by rw [ZgP, hdz], fun i hi c hc => ?_, fun g' hg' => ?_⟩
    ·rw [hl2]
     refine ⟨Yal _ _ _, .inr ⟨g0, cap, _, h5, h6, by rw [hw2]; exact hb1, h8, h9, by simp [Sort.putCells, h10], ?_⟩⟩
     apply List.ext_getElem?
     intro p
     by_cases hp : p < xs.length * k
     ·obtain ⟨hpi, hpc, hpe⟩ := hdm p hp
      have := YaK (fun i c => ys d'[i]! c) k xs.length (p / k) (p % k) hpi hpc
      rw [hpe] at this
      have h12 := hc2 (p / k) (p % k) hpi hpc
      rw [hpe] at h12
      rw [this, ZgT, if_pos hp, Array.getElem?_toList, h12]
     ·rw [List.getElem?_eq_none (by rw [ZlT]; omega)]
      exact (List.getElem?_eq_none (by have := Yal (fun i c => ys d'[i]! c) xs.length k; unfold flat at this; rw [this]; omega)).symm
    ·rw [hl2] at hi
     have hc5 : c < k := by rw [ZgP, hdz] at hc; exact hc
     have h12 := hcell d'[i]! (hlt i hi) c hc5
     refine ⟨h12.1, ?_⟩
     simp only [ZgP]
     have h13 := h12.2.mono (F' := F) (w' := w') (fun _ h => h) hkeep
     have e1 := hat i hi
     simp only [e1]
     exact h13
    ·rw [h5] at hg'
     simp [blk] at hg'
     subst hg'
     exact hnF
   ·have h1 : p = (id, .row e k ((YbL cf xs).map dz)) := by simpa using hp
    have h2 : q = (id, .row e k ((YbL cf xs).map dz)) := by simpa using hq
    rw [h1, h2] at hne
    exact absurd J hne
   ·have h1 : p = (id, .row e k ((YbL cf xs).map dz)) := by simpa using hp
    have h2 : q = (id, .row e k ((YbL cf xs).map dz)) := by simpa using hq
    rw [h1, h2]
  ·intro p hp g' hg'
   have : p = (id, .row e k ((YbL cf xs).map dz)) := by simpa using hp
   subst this
   exact .inr ⟨_, ZmS.2 J, hg'⟩
end
end
section
open Go.RowKit
open Ty
structure Usd where
 title : ByteArray
 units : Int
 money : Int
deriving DecidableEq
structure Rpt where
 source : ByteArray
 no : Int
 period : Int
 corrects : Int
 lines : List Usd
deriving DecidableEq
instance : Inhabited Usd := ⟨⟨⟨#[]⟩, 0, 0⟩⟩
instance : Inhabited Rpt := ⟨⟨⟨#[]⟩, 0, 0, 0, []⟩⟩
def Usd.ds (x : Usd) : List D := [.v (.string x.title), .v (.int .i64 x.units), .v (.int .i64 x.money)]
def Rpt.ds (x : Rpt) : List D := [.v (.string x.source), .v (.int .i64 x.no), .v (.int .i64 x.period), .v (.int .i64 x.corrects), .sl (x.lines.map Usd.ds)]
def usdF (l : List Usd) (k : Nat) : Int :=
 if h : k < l.length then
  if Yar l[k].title = false then 3
  else if ¬ ((0 <= l[k].units /\ l[k].units <= 1000000000) /\ 0 <= l[k].money /\ l[k].money <= 1000000000) then 1
  else if 0 < k /\ sle l[k].title (l[k-1]'(by omega)).title = true then 8 else 0
 else 0
def rptF (x : Rpt) : Int :=
 if YaI x.source = false then 5
 else if ¬ ((1 <= x.no /\ x.no <= 1000000) /\ (0 <= x.period /\ x.period <= 2400) /\ 0 <= x.corrects /\ x.corrects <= x.no - 1) then 1
 else if 100 < x.lines.length then 2
 else ffst (usdF x.lines) x.lines.length
open Go.Sort Go.Lib
def rCmp (a b : Rpt) : Int := if compareBytes a.source.data.toList b.source.data.toList = 0 then compareInt a.no b.no else compareBytes a.source.data.toList b.source.data.toList
def ltR (a b : Rpt) : Bool := decide (rCmp a b < 0)
def sameK (a b : Rpt) : Bool := decide (a.source = b.source) && decide (a.no = b.no)
theorem cIntN {a b : Int} : compareInt a b < 0 ↔ a < b := by
 unfold compareInt
 split
 ·omega
 ·split <;> omega
theorem cbLt : ∀ a b : List UInt8, compareBytes a b < 0 ↔ a < b
 | [], [] => by simp [compareBytes]
 | [], _ :: _ => by simp [compareBytes]
 | _ :: _, [] => by simp [compareBytes]
 | x :: a, y :: b => by
  unfold compareBytes
  rw [List.cons_lt_cons_iff]
  by_cases h1 : x < y
  ·simp [h1]
  ·rw [if_neg h1]
   by_cases h2 : y < x
   ·rw [if_pos h2]
    have : x ≠ y := fun e => by subst e; exact UInt8.lt_irrefl _ h2
    simp [h1, this]
   ·rw [if_neg h2, cbLt a b]
    have : x = y := UInt8.le_antisymm (UInt8.not_lt.1 h2) (UInt8.not_lt.1 h1)
    simp [this, UInt8.lt_irrefl]
theorem cbSelf : ∀ a : List UInt8, compareBytes a a = 0
 | [] => rfl
 | x :: a => by unfold compareBytes; simp [UInt8.lt_irrefl, cbSelf a]
theorem cbZero {a b : List UInt8} : compareBytes a b = 0 ↔ a = b := by
 refine ⟨fun h => ?_, fun h => by rw [h]; exact cbSelf b⟩
 have h1 : ¬ a < b := fun h2 => by have := (cbLt a b).2 h2; omega
 revert h h1
 induction a generalizing b with
 | nil => intro h _; cases b with
  | nil => rfl
  | cons y b => simp [compareBytes] at h
 | cons x a ih => intro h h1; cases b with
  | nil => simp [compareBytes] at h
  | cons y b =>
   unfold compareBytes at h
   split at h
   ·omega
   ·split at h
    ·omega
    ·rename_i h2 h3
     have e : x = y := UInt8.le_antisymm (UInt8.not_lt.1 h3) (UInt8.not_lt.1 h2)
     rw [e, ih h (fun h4 => by have := (cbLt a b).2 h4; omega)]
theorem baEq {a b : ByteArray} : a.data.toList = b.data.toList ↔ a = b := by
 refine ⟨fun h => ?_, fun h => by rw [h]⟩
 cases a; cases b
 exact congrArg ByteArray.mk (Array.toList_inj.1 h)
theorem ltR_iff (x y : Rpt) : ltR x y = true ↔ x.source.data.toList < y.source.data.toList \/ (x.source = y.source /\ x.no < y.no) := by
 unfold ltR rCmp
 rw [decide_eq_true_eq]
 by_cases h : compareBytes x.source.data.toList y.source.data.toList = 0
 ·rw [if_pos h, cIntN]
  have h2 := cbZero.1 h
  constructor
  ·exact fun h3 => .inr ⟨baEq.1 h2, h3⟩
  ·rintro (h3 | h3)
   ·rw [h2] at h3; exact absurd h3 (List.lt_irrefl _)
   ·exact h3.2
 ·rw [if_neg h, cbLt]
  constructor
  ·exact .inl
  ·rintro (h2 | h2)
   ·exact h2
   ·exact absurd (cbZero.2 (baEq.2 h2.1)) h
theorem sameK_iff {x y : Rpt} : sameK x y = true ↔ x.source = y.source /\ x.no = y.no := by unfold sameK; simp
theorem ltR_irr (x : Rpt) : ltR x x = false := by
 rw [<- Bool.not_eq_true, ltR_iff]
 rintro (h | h)
 ·exact List.lt_irrefl _ h
 ·omega
theorem ltR_trans {x y z : Rpt} (h1 : ltR x y = true) (h2 : ltR y z = true) : ltR x z = true := by
 rw [ltR_iff] at *
 rcases h1 with h1 | h1 <;> rcases h2 with h2 | h2
 ·exact .inl (List.lt_trans h1 h2)
 ·exact .inl (by rw [<- h2.1]; exact h1)
 ·exact .inl (by rw [h1.1]; exact h2)
 ·exact .inr ⟨h1.1.trans h2.1, by omega⟩
theorem ltR_same {x y z : Rpt} (h : sameK x y = true) : ltR x z = ltR y z /\ ltR z x = ltR z y := by
 rw [sameK_iff] at h
 constructor <;> (rw [Bool.eq_iff_iff, ltR_iff, ltR_iff, h.1, h.2])
theorem ltR_ne {x y : Rpt} (h : ltR x y = true) : sameK x y = false := by
 cases h2 : sameK x y with
 | false => rfl
 | true => rw [(ltR_same h2).1, ltR_irr] at h; cases h
theorem sameK_symm {x y : Rpt} (h : sameK x y = true) : sameK y x = true := by rw [sameK_iff] at *; exact ⟨h.1.symm, h.2.symm⟩
def Rise (l : List Rpt) : Prop := l.Pairwise fun x y => ltR x y = true
def Dist (l : List Rpt) : Prop := l.Pairwise fun x y => sameK x y = false
theorem rise_dist {l : List Rpt} (h : Rise l) : Dist l := h.imp ltR_ne
def repF (l : List Rpt) (k : Nat) : Int :=
 if h : k < l.length then
  if rptF l[k] ≠ 0 then rptF l[k]
  else if 0 < k /\ 0 <= rCmp (l[k-1]'(by omega)) l[k] then 8 else 0
 else 0
def logF (l : List Rpt) : Int := if 300 < l.length then 2 else ffst (repF l) l.length
structure Log (l : List Rpt) : Prop where
 len : l.length <= 300
 ok : ∀ x ∈ l, rptF x = 0
 rise : Rise l
theorem log_of {l : List Rpt} (h : logF l = 0) : Log l := by
 unfold logF at h
 by_cases h1 : 300 < l.length
 ·rw [if_pos h1] at h; simp at h
 rw [if_neg h1] at h
 have h2 := Ya2 _ h
 have key : ∀ k, (hk : k < l.length) -> rptF l[k] = 0 /\ (∀ h0 : 0 < k, ltR (l[k-1]'(by omega)) l[k] = true) := fun k hk => by
  have h3 := h2 k hk
  unfold repF at h3
  rw [dif_pos hk] at h3
  by_cases h4 : rptF l[k] ≠ 0
  ·rw [if_pos h4] at h3; exact absurd h3 h4
  rw [if_neg h4] at h3
  refine ⟨Decidable.not_not.1 h4, fun h0 => ?_⟩
  by_cases h5 : 0 < k /\ 0 <= rCmp (l[k-1]'(by omega)) l[k]
  ·rw [if_pos h5] at h3; simp at h3
  ·unfold ltR
   rw [decide_eq_true_eq]
   exact Int.not_le.1 fun h6 => h5 ⟨h0, h6⟩
 refine ⟨by omega, fun x hx => ?_, ?_⟩
 ·obtain ⟨k, hk, rfl⟩ := List.mem_iff_getElem.1 hx
  exact (key k hk).1
 ·have step : ∀ d i, (h : i + d + 1 < l.length) -> ltR l[i] l[i + d + 1] = true := by
   intro d
   induction d with
   | zero => intro i h3; exact (key (i + 1) h3).2 (by omega)
   | succ d ih => intro i h3; exact ltR_trans (ih i (by omega)) ((key (i + (d + 1) + 1) h3).2 (by omega))
  refine List.pairwise_iff_getElem.2 fun i j hi hj hij => ?_
  obtain ⟨d, rfl⟩ : ∃ d, j = i + d + 1 := ⟨j - i - 1, by omega⟩
  exact step d i hj
end
end Go.Proofs.YtcfamaddnmnaeaaGreatDoor
