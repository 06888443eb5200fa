/- Walks and laws over abstract values, merged by tools/merge.py. No statement of the seat. -/
import Derived.Shelf.Spec.SlicesInsert
import Derived.Shelf.Spec.SlicesInsertGrow
import Derived.Deep.RegionLaw
import Derived.Laws.NewBlocks
import Derived.Test.YtcfamaddnmnaeaaGreatDoorZE6
set_option linter.unusedSimpArgs false
set_option linter.unusedVariables false
set_option maxHeartbeats 1000000
set_option maxRecDepth 100000
open List renaming length_map -> ZlM, getElem?_eq_getElem -> ZgE, getElem?_eq_some_iff -> ZgS, getElem_mem -> ZgM, length_take -> ZlT, getElem_append_left -> ZgL, getD_eq_getElem?_getD -> ZgD, getElem_map -> ZgP, getElem_append_right -> ZgR, getElem?_take -> ZgT, length_drop -> ZlD, mem_singleton -> ZmS, mem_map -> ZmM, getElem?_drop -> ZgO
open Array renaming getElem?_eq_some_iff -> ZaS, length_toList -> ZaL, getD_eq_getD_getElem? -> ZaD
open Nat renaming le_of_ble_eq_true -> ZnB, zero_le -> ZnZ, le_refl -> ZnR, le_trans -> ZnT
open Bool renaming and_eq_true -> ZbA
namespace Go.Proofs.YtcfamaddnmnaeaaGreatDoor
section
open Go.RowKit
namespace Ty
theorem ag_167 : AggT Tryz.prog 167 4 := .of (by kernel_rfl)
theorem et_97 : ElemTy Tryz.prog 97 167 4 32 (.agg #[(.int .i64 0), (.int .i64 0), (.int .i64 0), (.int .i64 0)]) := ⟨by kernel_rfl, by kernel_rfl, by kernel_rfl, by decide⟩
theorem fo_167_0 : Yaf Tryz.prog 167 0 = some 0 := by kernel_rfl
theorem fo_167_1 : Yaf Tryz.prog 167 1 = some 1 := by kernel_rfl
theorem Yba : Yaf Tryz.prog 167 3 = some 3 := by kernel_rfl
theorem sz_167 : ∀ w, (sizeOf 167).run Tryz.prog w = .ok 4 w := SizeT.of (by kernel_rfl)
theorem zt_167 : (Tryz.prog.info? 167).bind (·.zero) = some (.agg #[(.int .i64 0), (.int .i64 0), (.int .i64 0), (.int .i64 0)]) := by kernel_rfl
end Ty
open Ty
open Go.Lib
def ixG {α : Type} (p : α -> Bool) (l : List α) : Int := if l.any p = true then (l.findIdx p : Int) else -1
section
variable {α : Type} {p : α -> Bool} {l : List α} {k : Nat}
theorem ixg_hit (hk : k < l.length) (h : ∀ x ∈ l.take k, p x = false) (h2 : p l[k] = true) : ixG p l = (k : Int) := by
 unfold ixG
 rw [if_pos (List.any_eq_true.2 ⟨_, ZgM hk, h2⟩)]
 congr 1
 refine (List.findIdx_eq hk).2 ⟨h2, fun j hj => ?_⟩
 exact h _ (List.mem_take_iff_getElem.2 ⟨j, by omega, J⟩)
theorem ixg_no (h : ∀ x ∈ l, p x = false) : ixG p l = -1 := by
 unfold ixG
 rw [if_neg]
 intro hh
 obtain ⟨x, hx, h2⟩ := List.any_eq_true.1 hh
 rw [h x hx] at h2; cases h2
theorem ixg_next (hk : k < l.length) (h : ∀ x ∈ l.take k, p x = false) (h2 : p l[k] = false) : ∀ x ∈ l.take (k + 1), p x = false := fun x hx => by
 rw [List.take_add_one, ZgE hk, Option.toList_some, List.mem_append, ZmS] at hx
 rcases hx with hx | rfl
 ·exact h x hx
 ·exact h2
theorem ixg_any : decide (ixG p l ≥ 0) = l.any p := by
 unfold ixG
 cases h : l.any p with
 | true => rw [if_pos rfl]; exact decide_eq_true (Int.natCast_nonneg _)
 | false => rw [if_neg (by decide)]; rfl
end
theorem any_in {α : Type} [DecidableEq α] {s : α} {l : List α} : l.any (fun x => decide (s = x)) = decide (s ∈ l) := by
 cases h : l.any (fun x => decide (s = x)) with
 | true =>
  obtain ⟨x, hx, he⟩ := List.any_eq_true.1 h
  rw [dcT he]; exact (decide_eq_true hx).symm
 | false =>
  refine (decide_eq_false fun hm => ?_).symm
  have := List.any_eq_false.1 h s hm
  exact this (decide_eq_true J)
theorem ixg_in {α : Type} [DecidableEq α] {s : α} {l : List α} : decide (ixG (fun x => decide (s = x)) l ≥ 0) = decide (s ∈ l) := by rw [ixg_any, any_in]
theorem c_ixI (l : List Int) (s : Int) : Yaq Tryz.prog 144 [.sl (l.map intD), .v (.int .i64 s)] (.v (.int .i64 (ixG (fun x => decide (s = x)) l))) := by
 refine Yah (n := 19) (ds' := [.v (.int .i64 (ixG (fun x => decide (s = x)) l))]) Tryz.func144 J (by kernel_rfl) J [4] J J ?_
 intro B w0 F0 fr
 refine .bound 0 J (fun hbd0 => ?_)
 rw [ZlM] at hbd0
 refine .sr (.aN ?_)
 refine .seq (.sr (.mA ?_))
 refine .sA (.lenSl J et_37.ht J) ?_
 refine .mN ?_
 refine .block (.loop (G := Nat) (fun k => Env.of [(8, .iv k), (0, .d (.sl (l.map intD))), (1, .d (.v (.int .i64 s))), (7, .iv (l.map intD).length)]) (fun k => []) (fun k => k <= l.length /\ ∀ c ∈ l.take k, decide (s = c) = false) (fun k => l.length - k) 0 ⟨ZnZ _, fun c h => by simp at h⟩ (Sub.less ⟨U, U, U, U, trivial⟩ (fun _ h => h)) ?_)
 intro k hk
 refine .sr (.sA (.lss J J J) (.nil ?_))
 refine .seq (.cT J (fun h1 => ?_) fun h1 => ?_)
 ·rw [ZlM] at h1
  have hlt : k < l.length := by omega
  refine .skip (.seq (.block (.sr (.mA ?_))))
  refine .aN ?_
  refine .sr (.mA ?_)
  refine .mA ?_
  refine .mA ?_
  refine .sA (.indexAddr J et_37 J J k J (Yad hlt) J) (.sA (.load J sc_3 J) ?_)
  refine .sA (.eql J J J) (.nil ?_)
  refine .cT J (fun h2 => ?_) fun h2 => ?_
  ·rw [ixg_hit hlt hk.2 (decide_eq_true h2)]
   refine .sr (.mA ?_)
   refine .aN ?_
   refine .ret (rD J ?_)
   all_goals (rfl)
  have HN := ixg_next hlt hk.2 (decide_eq_false h2)
  refine .skip (.region (.sA (.add64 J J J) ?_))
  refine .mN ?_
  refine ⟨k + 1, ⟨by omega, HN⟩, (by dsimp only; omega), Sub.less ⟨U, U, U, U, trivial⟩ (fun _ h => h)⟩
 rw [ZlM] at h1
 obtain rfl : k = l.length := by omega
 rw [ixg_no (by have := hk.2; rwa [List.take_length] at this)]
 refine .exit (.sr (.aN ?_))
 refine .ret (rD J ?_)
 all_goals (rfl)
theorem c_cnI (l : List Int) (s : Int) : Yaq Tryz.prog 109 [.sl (l.map intD), .v (.int .i64 s)] (.v (.bool (decide (s ∈ l)))) := by
 refine Yah (n := 9) (ds' := [.v (.bool (decide (s ∈ l)))]) Tryz.func109 J (by kernel_rfl) J [4] J J ?_
 intro B w0 F0 fr
 refine .sr (.aN ?_)
 refine .sr (.mA ?_)
 refine .mA ?_
 refine .sA (.call J (.cons (.rfl' J) (.cons (.rfl' J) .nil)) (c_ixI _ _)) (.sA (.geq J J J) ?_)
 refine .aN ?_
 refine .ret (rD J ?_)
 all_goals (first | exact ixg_in | rw [<- ixg_in] | (rw [<- ixg_in]; rfl))
theorem c_pErn (l : List Tr) (m : Int) (ok : TrsOk l) (hm : 0 <= m /\ m <= 1000000000000) : Yaq Tryz.prog 59 [.sl (l.map Tr.ds), .v (.int .i64 m)] (.v (.int .i64 (ernV l m))) := by
 refine Yah (n := 43) (ds' := [.v (.int .i64 (ernV l m))]) Tryz.func59 J (by kernel_rfl) J [4] J J ?_
 intro B w0 F0 fr
 have hln := ok.len
 refine .sr (.aN ?_)
 refine .sr (.aN ?_)
 refine .seq (.sr (.mA ?_))
 refine .sA (.lenSl J et_61.ht J) ?_
 refine .mN ?_
 refine .block (.loop (G := Nat) (fun k => Env.of [(11, .iv k), (9, .d (.sl (l.map Tr.ds))), (10, .iv (l.map Tr.ds).length), (0, .d (.sl (l.map Tr.ds))), (1, .d (.v (.int .i64 m))), (5, .iv (ernS l m k))]) (fun k => []) (fun k => k <= l.length) (fun k => l.length - k) 0 (ZnZ _) (Sub.less ⟨U, U, U, U, U, U, trivial⟩ (fun _ h => h)) ?_)
 intro k hk
 refine .sr (.sA (.lss J J J) (.nil ?_))
 refine .seq (.cT J (fun h1 => ?_) fun h1 => ?_)
 ·rw [ZlM] at h1
  have hlt : k < l.length := by omega
  have hr := ok.rng _ (ZgM hlt)
  have he := ern_rng ok hm hlt
  have hs := ernS_rng ok hm k (by omega)
  refine .skip (.seq (.block (.sr (.mA ?_))))
  refine .sA (.indexAddr J et_61 J J k J (Yad hlt) J) (.sA (.loadAgg J ag_125 J J) ?_)
  refine .alloc 101 J J J J zt_125 J J J ?_
  refine .aA ?_
  refine .store J J J sz_125 J (.head _) J J J (ZnB J) ?_
  refine .freezeCells 7 (ds := l[k].ds) J (.head _) (.nil ?_)
  refine .sr (.mA ?_)
  refine .aN ?_
  refine .seq (.sr (.mA ?_))
  refine .sA (.add64 J J J) ?_
  refine .mA ?_
  refine .sA (.lenSl J et_61.ht J) ?_
  refine .sA (.lss J J J) (.nil ?_)
  refine .cT J (fun h2 => ?_) fun h2 => ?_
  ·rw [ZlM] at h2
   have hl2 : k + 1 < l.length := by omega
   have hr2 := ok.rng _ (ZgM hl2)
   have hE : endA l m k = min m l[k + 1].frm := by unfold endA; rw [if_pos hl2, YbT hl2]
   rw [hE] at he
   have hE2 : max 0 (min m l[k + 1].frm - l[k].frm) * l[k].rate = ernT l m k := by unfold ernT; rw [YbT hlt, hE]
   refine .region (.mA ?_)
   refine .mA ?_
   refine .mA ?_
   refine .sA (.add64 J J J) ?_
   refine .sA (.indexAddr J et_61 J J (k + 1) (by omega) (Yad hl2) J) ?_
   refine .sA (.fieldAddr J YaN J) (.sA (.load J sc_3 J) (.sA (.min J J J) ?_))
   refine .aN ?_
   refine .region (.mA ?_)
   refine .mA ?_
   refine .sA (.fieldAddr J YaN J) (.sA (.load J sc_3 J) ?_)
   refine .sA (.sub64 J J J) ?_
   refine .sA (.max J J J) (.sA (.fieldAddr J fo_125_1 J) (.sA (.load J sc_3 J) ?_))
   refine .sA (.mul64 J J J) ?_
   refine .sA (.add64 J J J) ?_
   refine .aN ?_
   refine .region (.sA (.add64 J J J) ?_)
   refine .mN ?_
   refine ⟨k + 1, (by omega), (by dsimp only; omega), Sub.less ⟨U, U, U, U, U, (SLe.i64 (by show _ = ernS l m k + ernT l m k; rw [<- hE2])), trivial⟩ (fun _ h => h)⟩
  rw [ZlM] at h2
  have hE : endA l m k = m := if_neg (by omega)
  rw [hE] at he
  have hE2 : max 0 (m - l[k].frm) * l[k].rate = ernT l m k := by unfold ernT; rw [YbT hlt, hE]
  refine .skip (.region (.mA ?_))
  refine .mA ?_
  refine .sA (.fieldAddr J YaN J) (.sA (.load J sc_3 J) ?_)
  refine .sA (.sub64 J J J) ?_
  refine .sA (.max J J J) (.sA (.fieldAddr J fo_125_1 J) (.sA (.load J sc_3 J) ?_))
  refine .sA (.mul64 J J J) ?_
  refine .sA (.add64 J J J) ?_
  refine .aN ?_
  refine .region (.sA (.add64 J J J) ?_)
  refine .mN ?_
  refine ⟨k + 1, (by omega), (by dsimp only; omega), Sub.less ⟨U, U, U, U, U, (SLe.i64 (by show _ = ernS l m k + ernT l m k; rw [<- hE2])), trivial⟩ (fun _ h => h)⟩
 rw [ZlM] at h1
 obtain rfl : k = l.length := by omega
 have hs := ernS_rng ok hm l.length (ZnR _)
 refine .exit (.sr (.mA ?_))
 refine .sA (.quo64 J J J (by omega) (by omega) (by omega)) ?_
 refine .aN ?_
 refine .ret (rD J ?_)
 all_goals (rfl)
theorem c_rErn (l : List Tr) (m : Int) (ok : TrsOk l) (hm : 0 <= m /\ m <= 1000000000000) : Yaq Tryz.prog 61 [.sl (l.map Tr.ds), .v (.int .i64 m)] (.v (.int .i64 (ernV l m))) := by
 refine Yah (n := 43) (ds' := [.v (.int .i64 (ernV l m))]) Tryz.func61 J (by kernel_rfl) J [4] J J ?_
 intro B w0 F0 fr
 have hln := ok.len
 refine .sr (.aN ?_)
 refine .sr (.aN ?_)
 refine .seq (.sr (.mA ?_))
 refine .sA (.lenSl J et_61.ht J) ?_
 refine .mN ?_
 refine .block (.loop (G := Nat) (fun k => Env.of [(11, .iv k), (9, .d (.sl (l.map Tr.ds))), (10, .iv (l.map Tr.ds).length), (0, .d (.sl (l.map Tr.ds))), (1, .d (.v (.int .i64 m))), (5, .iv (ernS l m k))]) (fun k => []) (fun k => k <= l.length) (fun k => l.length - k) 0 (ZnZ _) (Sub.less ⟨U, U, U, U, U, U, trivial⟩ (fun _ h => h)) ?_)
 intro k hk
 refine .sr (.sA (.lss J J J) (.nil ?_))
 refine .seq (.cT J (fun h1 => ?_) fun h1 => ?_)
 ·rw [ZlM] at h1
  have hlt : k < l.length := by omega
  have hr := ok.rng _ (ZgM hlt)
  have he := ern_rng ok hm hlt
  have hs := ernS_rng ok hm k (by omega)
  refine .skip (.seq (.block (.sr (.mA ?_))))
  refine .sA (.indexAddr J et_61 J J k J (Yad hlt) J) (.sA (.loadAgg J ag_125 J J) ?_)
  refine .alloc 101 J J J J zt_125 J J J ?_
  refine .aA ?_
  refine .store J J J sz_125 J (.head _) J J J (ZnB J) ?_
  refine .freezeCells 7 (ds := l[k].ds) J (.head _) (.nil ?_)
  refine .sr (.mA ?_)
  refine .aN ?_
  refine .seq (.sr (.mA ?_))
  refine .sA (.add64 J J J) ?_
  refine .mA ?_
  refine .sA (.lenSl J et_61.ht J) ?_
  refine .sA (.lss J J J) (.nil ?_)
  refine .cT J (fun h2 => ?_) fun h2 => ?_
  ·rw [ZlM] at h2
   have hl2 : k + 1 < l.length := by omega
   have hr2 := ok.rng _ (ZgM hl2)
   have hE : endA l m k = min m l[k + 1].frm := by unfold endA; rw [if_pos hl2, YbT hl2]
   rw [hE] at he
   have hE2 : max 0 (min m l[k + 1].frm - l[k].frm) * l[k].rate = ernT l m k := by unfold ernT; rw [YbT hlt, hE]
   refine .region (.mA ?_)
   refine .mA ?_
   refine .mA ?_
   refine .sA (.add64 J J J) ?_
   refine .sA (.indexAddr J et_61 J J (k + 1) (by omega) (Yad hl2) J) ?_
   refine .sA (.fieldAddr J YaN J) (.sA (.load J sc_3 J) (.sA (.min J J J) ?_))
   refine .aN ?_
   refine .region (.mA ?_)
   refine .mA ?_
   refine .sA (.fieldAddr J YaN J) (.sA (.load J sc_3 J) ?_)
   refine .sA (.sub64 J J J) ?_
   refine .sA (.max J J J) (.sA (.fieldAddr J fo_125_1 J) (.sA (.load J sc_3 J) ?_))
   refine .sA (.mul64 J J J) ?_
   refine .sA (.add64 J J J) ?_
   refine .aN ?_
   refine .region (.sA (.add64 J J J) ?_)
   refine .mN ?_
   refine ⟨k + 1, (by omega), (by dsimp only; omega), Sub.less ⟨U, U, U, U, U, (SLe.i64 (by show _ = ernS l m k + ernT l m k; rw [<- hE2])), trivial⟩ (fun _ h => h)⟩
  rw [ZlM] at h2
  have hE : endA l m k = m := if_neg (by omega)
  rw [hE] at he
  have hE2 : max 0 (m - l[k].frm) * l[k].rate = ernT l m k := by unfold ernT; rw [YbT hlt, hE]
  refine .skip (.region (.mA ?_))
  refine .mA ?_
  refine .sA (.fieldAddr J YaN J) (.sA (.load J sc_3 J) ?_)
  refine .sA (.sub64 J J J) ?_
  refine .sA (.max J J J) (.sA (.fieldAddr J fo_125_1 J) (.sA (.load J sc_3 J) ?_))
  refine .sA (.mul64 J J J) ?_
  refine .sA (.add64 J J J) ?_
  refine .aN ?_
  refine .region (.sA (.add64 J J J) ?_)
  refine .mN ?_
  refine ⟨k + 1, (by omega), (by dsimp only; omega), Sub.less ⟨U, U, U, U, U, (SLe.i64 (by show _ = ernS l m k + ernT l m k; rw [<- hE2])), trivial⟩ (fun _ h => h)⟩
 rw [ZlM] at h1
 obtain rfl : k = l.length := by omega
 have hs := ernS_rng ok hm l.length (ZnR _)
 refine .exit (.sr (.mA ?_))
 refine .sA (.quo64 J J J (by omega) (by omega) (by omega)) ?_
 refine .aN ?_
 refine .ret (rD J ?_)
 all_goals (rfl)
theorem c_pBase (d : Deal) (S : List Sal) (p : Int) (ok : SalsOk S) : Yaq Tryz.prog 58 [.agg d.ds, .sl (S.map Sal.ds), .v (.int .i64 p)] (.v (.int .i64 (basV d p S))) := by
 refine Yah (n := 53) (ds' := [.v (.int .i64 (basV d p S))]) Tryz.func58 J (by kernel_rfl) J [6] J J ?_
 intro B w0 F0 fr
 have hln := ok.len
 refine .sr (.sA (.box J J J) ?_)
 refine .aN ?_
 refine .sr (.aN ?_)
 refine .seq (.sr (.mA ?_))
 refine .sA (.lenSl J et_97.ht J) ?_
 refine .mN ?_
 refine .block (.loop (G := Nat) (fun k => Env.of [(12, .iv k), (10, .d (.sl (S.map Sal.ds))), (11, .iv (S.map Sal.ds).length), (3, .d (.fp d.ds)), (2, .d (.v (.int .i64 p))), (7, .iv (basS d p S k))]) (fun k => []) (fun k => k <= S.length) (fun k => S.length - k) 0 (ZnZ _) (Sub.less ⟨U, U, U, U, U, U, trivial⟩ (fun _ h => h)) ?_)
 intro k hk
 refine .sr (.sA (.lss J J J) (.nil ?_))
 refine .seq (.cT J (fun h1 => ?_) fun h1 => ?_)
 ·rw [ZlM] at h1
  have hlt : k < S.length := by omega
  have hr := ok.rng _ (ZgM hlt)
  have hb := Yca (d := d) (p := p) ok k (by omega)
  have HN := basS_next (d := d) (p := p) hlt
  refine .skip (.seq (.block (.sr (.sA (.indexAddr J et_97 J J k J (Yad hlt) J) ?_))))
  refine .sA (.loadAgg J ag_167 J J) ?_
  refine .alloc 101 J J J J zt_167 J J J ?_
  refine .store J J J sz_167 J (.head _) J J J (ZnB J) ?_
  refine .freezeCells 9 (ds := S[k].ds) J (.head _) (.nil ?_)
  refine .sr (.sA (.fieldAddr J fo_167_1 J) ?_)
  refine .sA (.load J sc_3 J) (.sA (.fieldAddr J Ycj J) (.sA (.load J sc_3 J) (.sA (.geq J J J) ?_)))
  refine .mA ?_
  refine .sT 21 J (fun g2 => ?_) fun g2 => ?_
  ·have n1 := g2
   refine .sG (.fieldAddr J fo_167_1 J) ?_
   refine .sG (.load J sc_3 J) ?_
   refine .sG (.fieldAddr J fo_63_3 J) ?_
   refine .sG (.load J sc_3 J) ?_
   refine .sG (.lss J J J) ?_
   refine .sA (.pickT J J J) ?_
   refine .mA ?_
   refine .sT 28 J (fun g3 => ?_) fun g3 => ?_
   ·have n2 := g3
    refine .sG (.fieldAddr J fo_167_1 J) ?_
    refine .sG (.load J sc_3 J) ?_
    refine .sG (.moveD J J) ?_
    refine .sG (.leq J J J) ?_
    refine .sA (.pickT J J J) ?_
    refine .mA ?_
    refine .sT 34 J (fun g4 => ?_) fun g4 => ?_
    ·have n3 := g4
     refine .sG (.fieldAddr J Ybm J) ?_
     refine .sG (.load J YaO J) ?_
     refine .sG (.lenSl J et_37.ht J) ?_
     refine .sG (.eql J J J) ?_
     refine .sG (.moveD J J) ?_
     refine .sT 39 J (fun g5 => ?_) fun g5 => ?_
     ·rw [ZlM] at g5
      have HC := cov_y (d := d) (p := p) (s := S[k]) (by omega) n2 n3 (.inl (by omega))
      refine .pA ?_
      refine .pA ?_
      refine .pA ?_
      refine .pA ?_
      refine .pA ?_
      refine .sG (.pickT J J J) ?_
      refine .sA (.pickT J J J) (.nil ?_)
      refine .cond J (fun _ => ?_) (fun h => nomatch h)
      refine .region (.mA ?_)
      refine .sA (.fieldAddr J Yba J) (.sA (.load J sc_3 J) ?_)
      refine .sA (.add64 J J J) ?_
      refine .aN ?_
      refine .region (.sA (.add64 J J J) ?_)
      refine .mN ?_
      refine ⟨k + 1, (by omega), (by dsimp only; omega), Sub.less ⟨U, U, U, U, U, (SLe.i64 (by rw [HN, HC]; simp)), trivial⟩ (fun _ h => h)⟩
     rw [ZlM] at g5
     refine .sG (.fieldAddr J Ybm J) ?_
     refine .sG (.load J YaO J) ?_
     refine .sG (.fieldAddr J fo_167_0 J) ?_
     refine .sG (.load J sc_3 J) ?_
     refine .sG (.call J (.cons (.rfl' J) (.cons (.rfl' J) .nil)) (c_cnI d.recs S[k].recd)) ?_
     refine .sG (.pickF J J J) ?_
     refine .sA (.pickT J J J) (.nil ?_)
     refine .cT J (fun h6 => ?_) fun h6 => ?_
     ·have HC := cov_y (d := d) (p := p) (s := S[k]) (by omega) n2 n3 (.inr h6)
      refine .region (.mA ?_)
      refine .sA (.fieldAddr J Yba J) (.sA (.load J sc_3 J) ?_)
      refine .sA (.add64 J J J) ?_
      refine .aN ?_
      refine .region (.sA (.add64 J J J) ?_)
      refine .mN ?_
      refine ⟨k + 1, (by omega), (by dsimp only; omega), Sub.less ⟨U, U, U, U, U, (SLe.i64 (by rw [HN, HC]; simp)), trivial⟩ (fun _ h => h)⟩
     have hnr := h6
     have HC := cov_n (d := d) (p := p) (s := S[k]) (fun hh => hh.2.2.2.elim (fun h0 => by omega) hnr)
     refine .skip (.region (.sA (.add64 J J J) ?_))
     refine .mN ?_
     refine ⟨k + 1, (by omega), (by dsimp only; omega), Sub.less ⟨U, U, U, U, U, (SLe.i64 (by rw [HN, HC]; simp)), trivial⟩ (fun _ h => h)⟩
    have HC := cov_n (d := d) (p := p) (s := S[k]) (fun hh => by omega)
    refine .pA ?_
    refine .pA ?_
    refine .pA ?_
    refine .pA ?_
    refine .pA ?_
    refine .pass ⟨39, J, .inr ⟨J, J⟩⟩ J J ?_
    refine .pass ⟨39, J, .inr ⟨J, J⟩⟩ J J ?_
    refine .pass ⟨39, J, .inr ⟨J, J⟩⟩ J J ?_
    refine .pass ⟨39, J, .inr ⟨J, J⟩⟩ J J ?_
    refine .pass ⟨39, J, .inr ⟨J, J⟩⟩ J J ?_
    refine .pA ?_
    refine .sA (.pickF J J J) (.nil ?_)
    refine .cond J (fun h => nomatch h) (fun _ => ?_)
    refine .skip (.region (.sA (.add64 J J J) ?_))
    refine .mN ?_
    refine ⟨k + 1, (by omega), (by dsimp only; omega), Sub.less ⟨U, U, U, U, U, (SLe.i64 (by rw [HN, HC]; simp)), trivial⟩ (fun _ h => h)⟩
   have HC := cov_n (d := d) (p := p) (s := S[k]) (fun hh => by omega)
   refine .pA ?_
   refine .pA ?_
   refine .pA ?_
   refine .pA ?_
   refine .sA (.pickF J J J) ?_
   refine .mA ?_
   refine .pA ?_
   refine .pA ?_
   refine .pA ?_
   refine .pA ?_
   refine .pA ?_
   refine .pass ⟨39, J, .inr ⟨J, J⟩⟩ J J ?_
   refine .pass ⟨39, J, .inr ⟨J, J⟩⟩ J J ?_
   refine .pass ⟨39, J, .inr ⟨J, J⟩⟩ J J ?_
   refine .pass ⟨39, J, .inr ⟨J, J⟩⟩ J J ?_
   refine .pass ⟨39, J, .inr ⟨J, J⟩⟩ J J ?_
   refine .pA ?_
   refine .sA (.pickF J J J) (.nil ?_)
   refine .cond J (fun h => nomatch h) (fun _ => ?_)
   refine .skip (.region (.sA (.add64 J J J) ?_))
   refine .mN ?_
   refine ⟨k + 1, (by omega), (by dsimp only; omega), Sub.less ⟨U, U, U, U, U, (SLe.i64 (by rw [HN, HC]; simp)), trivial⟩ (fun _ h => h)⟩
  have HC := cov_n (d := d) (p := p) (s := S[k]) (fun hh => by omega)
  refine .pA ?_
  refine .pA ?_
  refine .pA ?_
  refine .pA ?_
  refine .pA ?_
  refine .sA (.pickF J J J) ?_
  refine .mA ?_
  refine .pA ?_
  refine .pA ?_
  refine .pA ?_
  refine .pA ?_
  refine .sA (.pickF J J J) ?_
  refine .mA ?_
  refine .pA ?_
  refine .pA ?_
  refine .pA ?_
  refine .pA ?_
  refine .pA ?_
  refine .pass ⟨39, J, .inr ⟨J, J⟩⟩ J J ?_
  refine .pass ⟨39, J, .inr ⟨J, J⟩⟩ J J ?_
  refine .pass ⟨39, J, .inr ⟨J, J⟩⟩ J J ?_
  refine .pass ⟨39, J, .inr ⟨J, J⟩⟩ J J ?_
  refine .pass ⟨39, J, .inr ⟨J, J⟩⟩ J J ?_
  refine .pA ?_
  refine .sA (.pickF J J J) (.nil ?_)
  refine .cond J (fun h => nomatch h) (fun _ => ?_)
  refine .skip (.region (.sA (.add64 J J J) ?_))
  refine .mN ?_
  refine ⟨k + 1, (by omega), (by dsimp only; omega), Sub.less ⟨U, U, U, U, U, (SLe.i64 (by rw [HN, HC]; simp)), trivial⟩ (fun _ h => h)⟩
 rw [ZlM] at h1
 obtain rfl : k = S.length := by omega
 refine .exit (.sr (.mA ?_))
 refine .aN ?_
 refine .ret (rD J ?_)
 all_goals (rfl)
theorem c_rBase (S : List Sal) (d : Deal) (p : Int) (ok : SalsOk S) (hd : 0 <= d.upto /\ d.upto <= 2401) : Yaq Tryz.prog 60 [.sl (S.map Sal.ds), .agg d.ds, .v (.int .i64 p)] (.v (.int .i64 (basV d p S))) := by
 refine Yah (n := 45) (ds' := [.v (.int .i64 (basV d p S))]) Tryz.func60 J (by kernel_rfl) J [6] J J ?_
 intro B w0 F0 fr
 have hln := ok.len
 refine .sr (.sA (.box J J J) ?_)
 refine .aN ?_
 refine .sr (.aN ?_)
 refine .seq (.sr (.mA ?_))
 refine .sA (.lenSl J et_97.ht J) ?_
 refine .mN ?_
 refine .block (.loop (G := Nat) (fun k => Env.of [(12, .iv k), (10, .d (.sl (S.map Sal.ds))), (11, .iv (S.map Sal.ds).length), (4, .d (.fp d.ds)), (2, .d (.v (.int .i64 p))), (7, .iv (basS d p S k))]) (fun k => []) (fun k => k <= S.length) (fun k => S.length - k) 0 (ZnZ _) (Sub.less ⟨U, U, U, U, U, U, trivial⟩ (fun _ h => h)) ?_)
 intro k hk
 refine .sr (.sA (.lss J J J) (.nil ?_))
 refine .seq (.cT J (fun h1 => ?_) fun h1 => ?_)
 ·rw [ZlM] at h1
  have hlt : k < S.length := by omega
  have hr := ok.rng _ (ZgM hlt)
  have hb := Yca (d := d) (p := p) ok k (by omega)
  have HN := basS_next (d := d) (p := p) hlt
  refine .skip (.seq (.block (.sr (.sA (.indexAddr J et_97 J J k J (Yad hlt) J) ?_))))
  refine .sA (.loadAgg J ag_167 J J) ?_
  refine .alloc 101 J J J J zt_167 J J J ?_
  refine .store J J J sz_167 J (.head _) J J J (ZnB J) ?_
  refine .freezeCells 9 (ds := S[k].ds) J (.head _) (.nil ?_)
  refine .sr (.sA (.fieldAddr J fo_167_1 J) ?_)
  refine .sA (.load J sc_3 J) (.sA (.fieldAddr J Ycj J) (.sA (.load J sc_3 J) (.sA (.fieldAddr J fo_63_3 J) (.sA (.load J sc_3 J) ?_))))
  refine .sA (.sub64 J J J) ?_
  refine .mA ?_
  refine .sA (.min J J J) (.sA (.call J (.cons (.rfl' J) (.cons (.rfl' J) (.cons (.rfl' J) .nil))) (Ybr _ _ _)) ?_)
  refine .mA ?_
  refine .sT 26 J (fun g2 => ?_) fun g2 => ?_
  ·have n1 := g2
   refine .sG (.fieldAddr J Ybm J) ?_
   refine .sG (.load J YaO J) ?_
   refine .sG (.lenSl J et_37.ht J) ?_
   refine .sG (.eql J J J) ?_
   refine .sG (.moveD J J) ?_
   refine .sT 31 J (fun g3 => ?_) fun g3 => ?_
   ·rw [ZlM] at g3
    have HC := cov_y (d := d) (p := p) (s := S[k]) (by omega) (by omega) (by omega) (.inl (by omega))
    refine .pA ?_
    refine .pA ?_
    refine .pA ?_
    refine .pA ?_
    refine .pA ?_
    refine .sG (.pickT J J J) ?_
    refine .sA (.pickT J J J) (.nil ?_)
    refine .cond J (fun _ => ?_) (fun h => nomatch h)
    refine .region (.mA ?_)
    refine .sA (.fieldAddr J Yba J) (.sA (.load J sc_3 J) ?_)
    refine .sA (.add64 J J J) ?_
    refine .aN ?_
    refine .region (.sA (.add64 J J J) ?_)
    refine .mN ?_
    refine ⟨k + 1, (by omega), (by dsimp only; omega), Sub.less ⟨U, U, U, U, U, (SLe.i64 (by rw [HN, HC]; simp)), trivial⟩ (fun _ h => h)⟩
   rw [ZlM] at g3
   refine .sG (.fieldAddr J Ybm J) ?_
   refine .sG (.load J YaO J) ?_
   refine .sG (.fieldAddr J fo_167_0 J) ?_
   refine .sG (.load J sc_3 J) ?_
   refine .sG (.call J (.cons (.rfl' J) (.cons (.rfl' J) .nil)) (c_cnI d.recs S[k].recd)) ?_
   refine .sG (.pickF J J J) ?_
   refine .sA (.pickT J J J) (.nil ?_)
   refine .cT J (fun h4 => ?_) fun h4 => ?_
   ·have HC := cov_y (d := d) (p := p) (s := S[k]) (by omega) (by omega) (by omega) (.inr h4)
    refine .region (.mA ?_)
    refine .sA (.fieldAddr J Yba J) (.sA (.load J sc_3 J) ?_)
    refine .sA (.add64 J J J) ?_
    refine .aN ?_
    refine .region (.sA (.add64 J J J) ?_)
    refine .mN ?_
    refine ⟨k + 1, (by omega), (by dsimp only; omega), Sub.less ⟨U, U, U, U, U, (SLe.i64 (by rw [HN, HC]; simp)), trivial⟩ (fun _ h => h)⟩
   have hnr := h4
   have HC := cov_n (d := d) (p := p) (s := S[k]) (fun hh => hh.2.2.2.elim (fun h0 => by omega) hnr)
   refine .skip (.region (.sA (.add64 J J J) ?_))
   refine .mN ?_
   refine ⟨k + 1, (by omega), (by dsimp only; omega), Sub.less ⟨U, U, U, U, U, (SLe.i64 (by rw [HN, HC]; simp)), trivial⟩ (fun _ h => h)⟩
  have HC := cov_n (d := d) (p := p) (s := S[k]) (fun hh => by omega)
  refine .pA ?_
  refine .pA ?_
  refine .pA ?_
  refine .pA ?_
  refine .pA ?_
  refine .pass ⟨31, J, .inr ⟨J, J⟩⟩ J J ?_
  refine .pass ⟨31, J, .inr ⟨J, J⟩⟩ J J ?_
  refine .pass ⟨31, J, .inr ⟨J, J⟩⟩ J J ?_
  refine .pass ⟨31, J, .inr ⟨J, J⟩⟩ J J ?_
  refine .pass ⟨31, J, .inr ⟨J, J⟩⟩ J J ?_
  refine .pA ?_
  refine .sA (.pickF J J J) (.nil ?_)
  refine .cond J (fun h => nomatch h) (fun _ => ?_)
  refine .skip (.region (.sA (.add64 J J J) ?_))
  refine .mN ?_
  refine ⟨k + 1, (by omega), (by dsimp only; omega), Sub.less ⟨U, U, U, U, U, (SLe.i64 (by rw [HN, HC]; simp)), trivial⟩ (fun _ h => h)⟩
 rw [ZlM] at h1
 obtain rfl : k = S.length := by omega
 refine .exit (.sr (.mA ?_))
 refine .aN ?_
 refine .ret (rD J ?_)
 all_goals (rfl)
end
section
open Go.RowKit Go.Shelf
theorem Yaz (g : Nat) : ∀ (vs : List Value) (o : Nat) (w : World), Turn w (w.setCells g o vs) (some g)
 | [], _, _ => ⟨rfl, rfl, rfl, ZnR _, fun _ _ _ => rfl⟩
 | v :: vs, o, w => (setCell_turn w g o v).trans (Yaz g vs (o + 1) _)
theorem YaA {g : Nat} {e : TypeId} : ∀ (vs : List Value) (o : Nat) (w : World) (cur : List Value), w.heap[g]? = some (.cells cur.toArray e (0, 0)) -> o + vs.length <= cur.length ->
 (w.setCells g o vs).heap[g]? = some (.cells (cur.take o ++ vs ++ cur.drop (o + vs.length)).toArray e (0, 0))
 | [], o, w, cur, h, _ => by simpa [World.setCells] using h
 | v :: vs, o, w, cur, h, hl => by
  simp only [List.length_cons] at hl
  have hset : (w.setCell ⟨g, o, none⟩ v).heap[g]? = some (.cells (cur.set o v).toArray e (0, 0)) := by
   unfold World.setCell
   simp [Array.getElem?_modify, h]
  rw [World.setCells, YaA vs (o + 1) _ _ hset (by simp; omega)]
  congr 3
  have hn : o < cur.length := by omega
  apply List.ext_getElem?
  intro k
  rw [get3, get3]
  simp only [ZlT, List.length_set, List.length_cons, Nat.min_eq_left (show o + 1 <= cur.length by omega), Nat.min_eq_left (show o <= cur.length by omega)]
  by_cases k1 : k < o
  ·rw [if_pos (by omega), if_pos k1, ZgT, ZgT, if_pos (by omega), if_pos k1, List.getElem?_set, if_neg (by omega)]
  ·by_cases k2 : k = o
   ·subst k2
    rw [if_pos (by omega), if_neg (by omega), if_pos (by omega), ZgT, if_pos (by omega), List.getElem?_set, if_pos rfl, if_pos hn, Nat.sub_self]
    rfl
   ·rw [if_neg (show ¬ k < o + 1 by omega), if_neg k1]
    by_cases k3 : k < o + 1 + vs.length
    ·rw [if_pos k3, if_pos (by omega), show k - o = (k - (o + 1)) + 1 by omega, List.getElem?_cons_succ]
    ·rw [if_neg k3, if_neg (by omega), ZgO, ZgO, List.getElem?_set, if_neg (by omega)]
     congr 1
     omega
theorem Yb1 (w : World) (row : Option Nat) : Turn w w.drew row := ⟨rfl, rfl, rfl, ZnR _, fun _ _ _ => rfl⟩
theorem alloc_turn (w : World) (o : Obj) (row : Option Nat) : Turn w (w.alloc o) row :=
 have h := (Below.refl w.heap.size w).alloc (ZnR _) o
 ⟨h.os, h.tape, h.output, h.size, fun k hk _ => h.block k hk⟩
theorem Turn.behind {w a b : World} {g : Nat} {row : Option Nat} (h : Turn w a row) (hg : w.heap.size <= g) (k : Turn a b (some g)) : Turn w b row :=
 ⟨k.os.trans h.os, k.tape.trans h.tape, k.output.trans h.output, ZnT h.size k.size, fun i hi hne => (k.block i (Nat.lt_of_lt_of_le hi h.size) (fun e => by have := Option.some.inj e; omega)).trans (h.block i hi hne)⟩
theorem alloc_at (w : World) (o : Obj) : (w.alloc o).heap[w.heap.size]? = some o := (MapKept.heap_alloc w o).1
end
section
open Go.RowKit
def Region.chain1B (ops : Array Oper) (b k : Nat) : Bool := Region.downB ops && Nat.ble k ops.size && Nat.ble b k && (List.range (ops.size - 1)).all fun j =>
 Nat.blt j b || (List.range ops.size).any fun m => Nat.blt j m && (Nat.ble m k || Nat.ble m (j + 1)) && Region.edge ops m j
structure Chain1 (ops : Array Oper) (b k : Nat) : Prop where
 down : Region.downB ops = true
 le : k <= ops.size
 bk : b <= k
 next : ∀ j, b <= j -> j < ops.size - 1 -> ∃ m, j < m /\ (m <= k \/ m <= j + 1) /\ Region.edge ops m j = true
theorem Chain1.of {ops : Array Oper} {b k : Nat} (h : Region.chain1B ops b k = true) : Chain1 ops b k := by
 unfold Region.chain1B at h
 simp only [ZbA] at h
 obtain ⟨⟨⟨h1, h2⟩, h5⟩, h3⟩ := h
 refine ⟨h1, ZnB h2, ZnB h5, fun j hb hj => ?_⟩
 have h4 := List.all_eq_true.1 h3 j (List.mem_range.2 hj)
 rw [Bool.or_eq_true] at h4
 rcases h4 with h4 | h4
 ·rw [Nat.blt_eq] at h4; omega
 ·obtain ⟨m, _, hm⟩ := List.any_eq_true.1 h4
  simp only [ZbA, Bool.or_eq_true, Nat.blt_eq] at hm
  exact ⟨m, hm.1.1, hm.1.2.imp ZnB ZnB, hm.2⟩
section
variable {P : Program} {ops : Array Oper} {Q Q0 : Exit -> Act -> World -> Prop} {b k : Nat}
end
theorem put_swap (a : Act) (x y : Option Nat) (u v : Value) (h : ∀ t, x = some t -> y ≠ some t) : (a.put x u).put y v = (a.put y v).put x u := by
 cases x with
 | none => rfl
 | some i =>
  cases y with
  | none => rfl
  | some j =>
   have hne : i ≠ j := fun he => h i rfl (by rw [he])
   simp only [Act.put]
   rw [Array.setIfInBounds_comm _ _ hne]
theorem Ycl (a : Act) (dst : Option Nat) (u : Value) (y : Operand) (h : ∀ t, y = .tmp t -> dst ≠ some t) : (a.put dst u).eval y = a.eval y := Act.eval_put fun d hd hyd => h d hyd hd
theorem wp_put {P : Program} {o : Oper} {ops : Array Oper} {a : Act} {w : World} {d : Nat} {v : Value} {K K' : Act -> World -> Prop} {Q : Exit -> Act -> World -> Prop} (hs : ∀ cs b, o.op ≠ .select cs b) (hl : d ∉ o.looksAt ops) (hd : o.dst ≠ some d) (hQ : ∀ e a w, e ≠ .normal -> ¬ Q e a w)
 (hK : ∀ a' w', (∀ y : Operand, (∀ t, y = .tmp t -> o.dst ≠ some t) -> a'.eval y = a.eval y) -> K (a'.put (some d) v) w' -> K' a' w') (h : o.wp P (a.put (some d) v) w K Q) : o.wp P a w K' Q := by
 unfold Oper.wp at *
 rw [execOp_put (ops := ops) o hs a (some d) v (fun t ht => by cases ht; exact hl)] at h
 have sw : ∀ (b : Act) (u : Value), (b.put (some d) v).put o.dst u = (b.put o.dst u).put (some d) v := fun b u => put_swap b (some d) o.dst v u (fun t ht he => by cases ht; exact hd he)
 have ev : ∀ (u : Value) (y : Operand), (∀ t, y = .tmp t -> o.dst ≠ some t) -> (a.put o.dst u).eval y = a.eval y := fun u y hy => Ycl a o.dst u y hy
 generalize (execOp a.eval o).run P w = r at *
 cases r with
 | ok n w' =>
  cases n with
  | value u => simp only [Oper.upon] at h ⊢; rw [sw] at h; exact hK _ _ (ev u) h
  | skip => simp only [Oper.upon] at h ⊢; rw [sw] at h; exact hK _ _ (ev _) h
  | defer c =>
   simp only [Oper.upon] at h ⊢
   refine hK _ _ (fun y hy => ?_) ?_
   ·rw [Ycl _ o.dst undef y hy]
    cases y <;> rfl
   ·rw [<- sw]; exact h
  | enter f args =>
   simp only [Oper.upon] at h ⊢
   refine Calls.mono h fun e w'' he => ?_
   cases e with
   | returned u => simp only at he ⊢; rw [sw] at he; exact hK _ _ (ev u) he
   | panicked c => exact absurd he (hQ _ _ _ (by simp))
   | outgrown => obtain ⟨a1, w1, h1⟩ := he; exact absurd h1 (hQ _ _ _ (by simp))
  | row r args =>
   simp only [Oper.upon] at h ⊢
   exact Rows.mono h fun u w'' he => by rw [sw] at he; exact hK _ _ (ev u) he
  | _ => simp only [Oper.upon] at h
 | halt x w' =>
  cases x <;> simp only [Oper.upon] at h ⊢ <;> first | exact absurd h (hQ _ _ _ (by simp)) | exact h
def notSelect (o : Oper) : Bool := match o.op with | .select _ _ => false | _ => true
theorem notSelect_spec {o : Oper} (h : notSelect o = true) : ∀ cs b, o.op ≠ .select cs b := fun cs b he => by unfold notSelect at h; rw [he] at h; simp at h
end
section
open Go.RowKit Go.Shelf
section
variable {cx : Cx} {ops : Array Oper} {o : Oper} {rest : List Oper} {e : Env} {σ : Obs} {Q : Post}
end
section
variable {cx : Cx} {ops : Array Oper} {o : Oper} {rest : List Oper} {e : Env} {σ : Obs} {Q : Post}
end
def dstB (Φ : List Fr) (l : List Oper) : Bool := Φ.all fun f => (List.range l.length).all fun i => (List.range l.length).all fun j => Nat.beq i j || ((l[i]?).map fun o => neDst o f.dst).getD true || ((l[j]?).map fun o => neDst o f.dst).getD true
end
section
open Go.RowKit
theorem R0.newCellsS {cx : Cx} {F : Nat -> Prop} {ρ : Nat -> Value} {e : Env} {σ : Obs} {a : Act} {w : World} (h : R0 cx F ρ e σ a w) {id dst : Nat} {ty : TypeId} {cs : List Value} {ss : List S} (hid : ∀ p ∈ σ, p.1 ≠ id) (hd : dst < cx.N) (hl : cs.length = ss.length) (hr : ∀ j (h1 : j < cs.length) (h2 : j < ss.length), cs[j].oneCell' = true /\ RepS F ρ w cs[j] ss[j]) (hfx : cx.free id = true) :
 ∃ ρ', R0 cx F ρ' ((e.kill id).put (some dst) (.ptr id 0)) ((id, .cells (ss.map (S.kill id))) :: Obs.kill id σ) (a.put (some dst) (.pointer (some ⟨w.heap.size, 0, none⟩))) (w.alloc (.cells cs.toArray ty)) := by
 refine ⟨fun j => if j = id then .pointer (some ⟨w.heap.size, 0, none⟩) else ρ j, ?_⟩
 have hE : Ext F w F (w.alloc (.cells cs.toArray ty)) := Ext.of_below h.lt ((Below.refl _ _).alloc (ZnR _) _)
 have h2 := h.turn (ρ' := fun j => if j = id then .pointer (some ⟨w.heap.size, 0, none⟩) else ρ j) (id := id) (ob := .cells (ss.map (S.kill id))) (row := none) (w' := w.alloc (.cells cs.toArray ty)) (F' := F) (fun j hj => by simp [hj])
  ⟨hE.below.os, hE.below.tape, hE.below.output, hE.below.size, fun k hk _ => hE.below.block k hk⟩ hfx (fun g hg => by simp at hg) (fun b hb => hb) (fun b hb => .inl hb) hE.lt
  ⟨w.heap.size, ty, cs, by simp, h.hB, fun hf => by have := h.lt _ hf; omega, by simpa using heap_alloc_new w _, by simpa using hl, fun j hj hj' => by
   rw [ZgP]
   have hj2 : j < ss.length := by simpa using hj'
   exact ⟨(hr j hj hj2).1, ((hr j hj hj2).2.ext h.lt hE).kill id (fun i hi => by simp [hi])⟩⟩
  (fun g hg => by simp [blk] at hg; exact .inr (by omega)) ((id, .cells (ss.map (S.kill id))) :: Obs.kill id σ) (fun p hp => by
   cases hp with
   | head => exact .inl rfl
   | tail _ hp => obtain ⟨q, hq, rfl⟩ := Obs.mem_kill hp; exact .inr ⟨q, hq, hid q hq, rfl⟩)
 have h3 := h2.put (o := ⟨some dst, .ready 0, 0, "", #[], none⟩) (v := .pointer (some ⟨w.heap.size, 0, none⟩)) (s := .ptr id 0) (Ext.refl h2.lt) (.ptr id 0 w.heap.size (by simp [blk])) (by simpa [DstOk, Nat.blt_eq] using hd)
 exact h3
section
variable {cx : Cx} {ops : Array Oper} {o : Oper} {rest : List Oper} {e : Env} {σ : Obs} {Q : Post}
theorem val_at {B : Nat} {F : Nat -> Prop} {ρ : Nat -> Value} {w : World} {vid : Nat} {ss : List S} {v : Value} (hσ : ObsOk B F ρ w σ) (hm : (vid, Ob.val ss) ∈ σ) (h : RepS F ρ w v (.own vid)) : ∃ cs : List Value, v = .agg cs.toArray /\ cs.length = ss.length /\ ∀ j (h1 : j < cs.length) (h2 : j < ss.length), cs[j].oneCell' = true /\ RepS F ρ w cs[j] ss[j] := by
 obtain ⟨cs, h1, h2, h3⟩ := hσ.ok _ hm
 dsimp only at h1
 refine ⟨cs, ?_, h2, h3⟩
 cases h
 exact h1
theorem AOps.boxVal {t dst vid : Nat} {x : Operand} {ss : List S} (id : Nat) (hg : o.guard = none) (ht : o.dst = some dst) (hdn : Nat.blt dst cx.N = true) (ho : o.op = .box t x) (hx : e.ev x = .own vid) (hm : (vid, Ob.val ss) ∈ σ) (hid : Obs.fresh id σ = true)
 (k : AOps cx ops rest ((e.kill id).put (some dst) (.ptr id 0)) ((id, .cells (ss.map (S.kill id))) :: Obs.kill id σ) Q) (hfx : cx.free id = true := by rfl) : AOps cx ops (o :: rest) e σ Q := by
 intro a w ⟨F, ρ, hr⟩
 have h2 := YaC (e := e) (x := x) (a := a) (fun t _ => hr.env t)
 rw [hx] at h2
 obtain ⟨cs, hv, hl, hc⟩ := val_at hr.obs hm h2
 obtain ⟨ρ', h5⟩ := hr.newCellsS (ty := t) (Obs.fresh_spec hid) (by simpa [Nat.blt_eq] using hdn) hl hc hfx
 refine wpList_plain hg fun K hK => ?_
 unfold Oper.wp execOp
 simp only [ho, Instr.box, newVar, newRow, hv, Value.cells]
 have := k _ _ ⟨F, ρ', h5⟩
 rw [<- ht] at this
 exact hK _ _ this
end
def S.ren (i j : Nat) : S -> S
 | .own k => match Nat.beq k i with | true => .own j | false => match Nat.beq k j with | true => .d .any | false => .own k
 | .ptr k off => match Nat.beq k i with | true => .ptr j off | false => match Nat.beq k j with | true => .d .any | false => .ptr k off
 | .d x => .d x
 | .clo f caps => .d .any
theorem RepS.ren {F : Nat -> Prop} {ρ ρ' : Nat -> Value} {w : World} {x : Value} {s : S} {i j : Nat} (h : RepS F ρ w x s) (hi : ρ' j = ρ i) (hρ : ∀ k, k ≠ j -> ρ' k = ρ k) : RepS F ρ' w x (s.ren i j) := by
 cases h with
 | d h => exact .d h
 | own k =>
  cases hb : Nat.beq k i with
  | true => simp only [S.ren, hb]; have := Nat.eq_of_beq_eq_true hb; subst this; rw [<- hi]; exact .own j
  | false =>
   cases hc : Nat.beq k j with
   | true => simp only [S.ren, hb, hc]; exact .d (.any _)
   | false => simp only [S.ren, hb, hc]; rw [<- hρ k (YbH hc)]; exact .own k
 | ptr k off g h =>
  cases hb : Nat.beq k i with
  | true => simp only [S.ren, hb]; have := Nat.eq_of_beq_eq_true hb; subst this; exact .ptr j off g (by rw [hi]; exact h)
  | false =>
   cases hc : Nat.beq k j with
   | true => simp only [S.ren, hb, hc]; exact .d (.any _)
   | false => simp only [S.ren, hb, hc]; exact .ptr k off g (by rw [hρ k (YbH hc)]; exact h)
 | clo f cs caps h => exact .d (.any _)
def Ob.ren (i j : Nat) : Ob -> Ob
 | .row e size els => .row e size els
 | .cells ss => .cells (ss.map (S.ren i j))
 | .cellsT e ss => .cellsT e (ss.map (S.ren i j))
 | .map M => .map M
 | .rowS e size els => .rowS e size (els.map fun ss => ss.map (S.ren i j))
 | .bts l => .bts l
 | .val ss => .val (ss.map (S.ren i j))
 | .iter M done => .iter M done
theorem ObOk.ren {B : Nat} {F : Nat -> Prop} {ρ ρ' : Nat -> Value} {w : World} {k k' : Nat} {o : Ob} {i j : Nat} (h : ObOk B F ρ w k o) (hk : ρ' k' = ρ k) (hi : ρ' j = ρ i) (hρ : ∀ k, k ≠ j -> ρ' k = ρ k) : ObOk B F ρ' w k' (o.ren i j) := by
 cases o with
 | row e size els =>
  obtain ⟨xs, h1, h2, h3, h4⟩ := h
  exact ⟨xs, by rw [hk]; exact h1, h2, h3, by rw [hk]; exact h4⟩
 | cells ss =>
  obtain ⟨g, e, cs, h1, h2, h3, h4, h5, h6⟩ := h
  refine ⟨g, e, cs, by rw [hk]; exact h1, h2, h3, h4, by simp [h5], fun j hj hj' => ⟨(h6 j hj (by simpa using hj')).1, ?_⟩⟩
  rw [ZgP]
  exact (h6 j hj (by simpa using hj')).2.ren hi hρ
 | cellsT ty0 ss =>
  obtain ⟨g, cs, h1, h2, h3, h4, h5, h6⟩ := h
  refine ⟨g, cs, by rw [hk]; exact h1, h2, h3, h4, by simp [h5], fun j hj hj' => ⟨(h6 j hj (by simpa using hj')).1, ?_⟩⟩
  rw [ZgP]
  exact (h6 j hj (by simpa using hj')).2.ren hi hρ
 | map M =>
  obtain ⟨b, es, cl, h1, h2, h3, h4, h5, h6⟩ := h
  exact ⟨b, es, cl, by rw [hk]; exact h1, h2, h3, h4, h5, h6⟩
 | rowS e size els =>
  obtain ⟨xs, h1, h2, h3, h4⟩ := h
  refine ⟨xs, by rw [hk, ZlM]; exact h1, fun k hk => by rw [ZgP, ZlM]; exact h2 k (by simpa using hk), fun k hk2 j hj => ?_, by rw [hk]; exact h4⟩
  have hk' : k < els.length := by simpa using hk2
  have hj' : j < els[k].length := by simpa using hj
  simp only [ZgP]
  exact ⟨(h3 k hk' j hj').1, (h3 k hk' j hj').2.ren hi hρ⟩
 | bts l =>
  obtain ⟨g, e, cap, cur, fz, h1, h2, h3, h4, h5⟩ := h
  exact ⟨g, e, cap, cur, fz, by rw [hk]; exact h1, h2, h3, h4, h5⟩
 | val ss =>
  obtain ⟨cs, h1, h2, h3⟩ := h
  refine ⟨cs, by rw [hk]; exact h1, by simp [h2], fun j hj hj' => ⟨(h3 j hj (by simpa using hj')).1, ?_⟩⟩
  rw [ZgP]
  exact (h3 j hj (by simpa using hj')).2.ren hi hρ
 | iter M done =>
  obtain ⟨g, b, es, cl, sn, c0, h1, h2, h3, h4, h5, h6, h7, h8⟩ := h
  exact ⟨g, b, es, cl, sn, c0, by rw [hk]; exact h1, h2, h3, h4, h5, h6, h7, h8⟩
section
variable {cx : Cx} {ops : Array Oper} {rest : List Oper} {e : Env} {σ : Obs} {Q : Post}
theorem R0.rename {F : Nat -> Prop} {ρ : Nat -> Value} {a : Act} {w : World} (h : R0 cx F ρ e σ a w) {i j : Nat} (hij : i ≠ j) (hfx : cx.free j = true) (σ' : Obs) (hσ : ∀ p ∈ σ', (∃ q ∈ σ, q.1 = i /\ p = (j, q.2.ren i j)) \/ ∃ q ∈ σ, q.1 ≠ i /\ q.1 ≠ j /\ p = (q.1, q.2.ren i j)) :
 ∃ ρ', R0 cx F ρ' (fun t => (e t).ren i j) σ' a w := by
 obtain ⟨ρ', hρ'⟩ : ∃ ρ' : Nat -> Value, ρ' = fun k => if k = j then ρ i else ρ k := ⟨_, rfl⟩
 have hj : ρ' j = ρ i := by simp [hρ']
 have ho : ∀ k, k ≠ j -> ρ' k = ρ k := fun k hk => by simp [hρ', hk]
 clear hρ'
 have hcase : ∀ p ∈ σ', ∃ q ∈ σ, q.1 ≠ j /\ ((q.1 = i /\ p.1 = j) \/ (q.1 ≠ i /\ p.1 = q.1)) /\ ρ' p.1 = ρ q.1 /\ p.2 = q.2.ren i j := fun p hp => by
  rcases hσ p hp with ⟨q, hq, h1, rfl⟩ | ⟨q, hq, h1, h2, rfl⟩
  ·exact ⟨q, hq, by rw [h1]; exact hij, .inl ⟨h1, J⟩, by rw [h1]; exact hj, J⟩
  ·exact ⟨q, hq, h2, .inr ⟨h1, J⟩, ho _ h2, J⟩
 refine ⟨ρ', h.size, h.defers, h.lt, h.base, h.new, h.below, h.hB, fun t => (h.env t).ren hj ho, ⟨fun p hp => ?_, fun p hp q hq hne g hg => ?_, fun p hp q hq he => ?_⟩, h.up, fun p hp g hg => ?_, fun k hk => ?_⟩
 ·obtain ⟨q, hq, _, _, h1, h2⟩ := hcase p hp
  rw [h2]
  exact (h.obs.ok q hq).ren h1 hj ho
 ·obtain ⟨p', hp', hpj, hpc, hpv, _⟩ := hcase p hp
  obtain ⟨q', hq', hqj, hqc, hqv, _⟩ := hcase q hq
  rw [hpv] at hg
  rw [hqv]
  refine h.obs.apart p' hp' q' hq' (fun he => hne ?_) g hg
  rcases hpc with ⟨h1, h2⟩ | ⟨h1, h2⟩ <;> rcases hqc with ⟨h3, h4⟩ | ⟨h3, h4⟩
  ·rw [h2, h4]
  ·exact absurd (by rw [<- he, h1]) h3
  ·exact absurd (by rw [he, h3]) h1
  ·rw [h2, h4, he]
 ·obtain ⟨p', hp', hpj, hpc, hpv, hp2⟩ := hcase p hp
  obtain ⟨q', hq', hqj, hqc, hqv, hq2⟩ := hcase q hq
  have hid : p'.1 = q'.1 := by
   rcases hpc with ⟨h1, h2⟩ | ⟨h1, h2⟩ <;> rcases hqc with ⟨h3, h4⟩ | ⟨h3, h4⟩
   ·rw [h1, h3]
   ·rw [h2, h4] at he; exact absurd he.symm hqj
   ·rw [h2, h4] at he; exact absurd he hpj
   ·rw [<- h2, <- h4, he]
  have := h.obs.uniq p' hp' q' hq' hid
  rw [<- this, <- hp2] at hq2
  exact Prod.ext he hq2.symm
 ·obtain ⟨q, hq, _, _, h1, _⟩ := hcase p hp
  rw [h1] at hg
  exact h.kown q hq g hg
 ·have : k ≠ j := Cx.free_ne hfx k hk
  rw [ho k this]
  exact h.fixed k hk
theorem AWP.rename {c : Code} (i j : Nat) (σ' : Obs) (hij : i ≠ j) (hfx : cx.free j = true) (hσ : ∀ p ∈ σ', (∃ q ∈ σ, q.1 = i /\ p = (j, q.2.ren i j)) \/ ∃ q ∈ σ, q.1 ≠ i /\ q.1 ≠ j /\ p = (q.1, q.2.ren i j)) (k : AWP cx c (fun t => (e t).ren i j) σ' Q) : AWP cx c e σ Q :=
 fun a w ⟨F, ρ, hr⟩ => by
  obtain ⟨ρ', h⟩ := hr.rename hij hfx σ' hσ
  exact k a w ⟨F, ρ', h⟩
end
theorem args_R {P : Program} {n : Nat} {ss : List S} {σ : Obs} {chg : Nat -> Bool} {F : Nat -> Prop} {ρ : Nat -> Value} {B : Nat} {w : World} {vs : List Value} {m : Nat} (hN : m = n) (hle : ss.length <= n) (hF : ∀ b, F b -> b < w.heap.size) (hB : B <= w.heap.size) (hσ : ObsOk B F ρ w σ) (hv : RepSL F ρ w vs ss) :
 R ⟨P, n, B, w, F, (fun b => w.heap.size <= b \/ ownB σ ρ b), fun i => !(chg i), ρ⟩ (Env.argsS 0 ss) σ { tmps := vs.toArray ++ Array.replicate (m - vs.toArray.size) undef, defers := [] } w := by
 refine ⟨F, ρ, ?_, J, hF, fun b hb => hb, fun b hb => .inl hb, Kept.refl _ _, hB, fun t => ?_, hσ, fun b hb => .inl hb, fun p hp g hg => .inr ⟨p, hp, hg⟩, fun i _ => J⟩
 ·simp [hN, hv.1]; omega
 ·by_cases ht : t < ss.length
  ·have := Env.argsS_get ss 0 t ht
   rw [Nat.zero_add] at this
   rw [this]
   have hvt : t < vs.length := by rw [hv.1]; exact ht
   have : (vs.toArray ++ Array.replicate (m - vs.toArray.size) undef).getD t undef = vs[t] := by
    rw [ZaD, Array.getElem?_append_left (by simpa using hvt)]
    simp [hvt]
   rw [this]
   exact hv.2 t hvt ht
  ·have := Env.argsS_out ss 0 t (by omega)
   rw [Nat.zero_add] at this
   rw [this]
   exact .d (.any _)
section
variable {cx : Cx} {ops : Array Oper} {o : Oper} {rest : List Oper} {e : Env} {σ : Obs} {Q : Post}
end
def HStep (cx : Cx) (ops : Array Oper) (sl ef : Nat -> Bool) (I : Obs -> Prop) (k : Nat) (o : Oper) (e : Env) (σ : Obs) (e' : Env) (σ' : Obs) : Prop :=
 (GW ops o e true /\ ∃ s, ((sl k = true /\ AOp cx.P cx.B ops o e σ s) \/ (I σ /\ ∀ τ, I τ -> AOp cx.P cx.B ops o e τ s)) /\ e' = e.put o.dst s /\ σ' = σ) \/
 (GW ops o e false /\ e' = e.put o.dst (.d (.v undef)) /\ σ' = σ) \/
 (GW ops o e true /\ ef k = true /\ o.dst = none /\ EOp cx ops o e σ σ' /\ e' = e /\ I σ /\ I σ')
def HRun (cx : Cx) (ops : Array Oper) (sl ef : Nat -> Bool) (I : Obs -> Prop) : Nat -> List Oper -> Env -> Obs -> (Env -> Obs -> Prop) -> Prop
 | _, [], e, σ, Q => Q e σ
 | k, o :: l, e, σ, Q => DstOk cx.N o /\ ∃ e' σ', HStep cx ops sl ef I k o e σ e' σ' /\ HRun cx ops sl ef I (k + 1) l e' σ' Q
def anyH (cx : Cx) (ops : Array Oper) (sl ef : Nat -> Bool) (I : Obs -> Prop) (Q : Env -> Obs -> Prop) : Nat -> Array Bool -> Env -> Obs -> Prop
 | 0, listed, e, σ => Region.ready .any ops listed = [] /\ Q e σ
 | fuel + 1, listed, e, σ => (Region.ready .any ops listed = [] -> Q e σ) /\
  ∀ i ∈ Region.ready .any ops listed, ∀ o, ops[i]? = some o -> ∃ e' σ', HStep cx ops sl ef I i o e σ e' σ' /\ anyH cx ops sl ef I Q fuel (listed.setIfInBounds i true) e' σ'
theorem anyH_first {cx : Cx} {ops : Array Oper} {sl ef : Nat -> Bool} {I : Obs -> Prop} (hse : ∀ k, ef k = true -> sl k = true) {Q : Env -> Obs -> Prop} {i : Nat} {oi : Oper} (hi : ops[i]? = some oi) (late : Nat -> Bool)
 (hclos : ∀ j oj, ops[j]? = some oj -> late j = true -> ∃ e ∈ oj.after, Region.binds .any e = true /\ (e.on = i \/ late e.on = true)) :
 ∀ (fuel : Nat) (listed : Array Bool) (e : Env) (σ : Obs) (e1 : Env) (σ1 : Obs), (∀ j, late j = true -> listed.getD j false = false) ->
  (∀ j oj, ops[j]? = some oj -> j ≠ i -> listed.getD j true = false -> (∀ e ∈ oj.after, Region.binds .any e = true -> e.on ≠ i) -> oi.apart ops oj = true /\ (late j = false -> (ef i = false \/ sl j = false) /\ (sl i = false \/ ef j = false))) ->
  i ∈ Region.ready .any ops listed -> HStep cx ops sl ef I i oi e σ e1 σ1 -> anyH cx ops sl ef I Q fuel (listed.setIfInBounds i true) e1 σ1 -> anyH cx ops sl ef I Q (fuel + 1) listed e σ := by
 intro fuel
 induction fuel with
 | zero =>
  intro listed e σ e1 σ1 _ _ hr hy H
  refine ⟨fun h => (by rw [h] at hr; cases hr), fun j hj o ho => ?_⟩
  by_cases hji : j = i
  ·subst hji
   rw [hi] at ho; cases ho
   exact ⟨e1, σ1, hy, H⟩
  ·have := ready_mono hj hji
   rw [H.1] at this
   cases this
 | succ fuel ih =>
  intro listed e σ e1 σ1 hlate hfree hr hy H
  refine ⟨fun h => (by rw [h] at hr; cases hr), fun j hj oj hoj => ?_⟩
  by_cases hji : j = i
  ·subst hji
   rw [hi] at hoj; cases hoj
   exact ⟨e1, σ1, hy, H⟩
  ·obtain ⟨e2, σ2, h1, h2⟩ := H.2 j (ready_mono hj hji) oj hoj
   obtain ⟨hjun, oj', hoj', hall⟩ := mem_ready.1 hj
   rw [hoj] at hoj'; cases hoj'
   have hnot : ∀ e ∈ oj.after, Region.binds .any e = true -> e.on ≠ i := fun e he hb heq => by
    have h1 := hall e he hb
    have h0 := (mem_ready.1 hr).1
    rw [heq] at h1
    rcases Nat.lt_or_ge i listed.size with h' | h'
    ·simp [h'] at h0 h1; rw [h0] at h1; cases h1
    ·simp [Array.getElem?_eq_none h'] at h1
   have hjl : late j = false := by
    cases hl : late j with
    | false => rfl
    | true =>
     obtain ⟨e, he, hb, hh⟩ := hclos j oj hoj hl
     rcases hh with hh | hh
     ·exact absurd hh (hnot e he hb)
     ·have h3 := hall e he hb
      rw [hlate _ hh] at h3
      simp at h3
   obtain ⟨hap, hss⟩ := hfree j oj hoj hji hjun hnot
   obtain ⟨hs1, hs2⟩ := hss hjl
   obtain ⟨a1, a2, a3⟩ := Oper.apart_spec hap
   have fin : ∀ ej σj, HStep cx ops sl ef I j oj e σ ej σj -> HStep cx ops sl ef I i oi ej σj e2 σ2 -> ∃ e' σ', HStep cx ops sl ef I j oj e σ e' σ' /\ anyH cx ops sl ef I Q (fuel + 1) (listed.setIfInBounds j true) e' σ' := fun ej σj hsj hsi => by
    refine ⟨ej, σj, hsj, ?_⟩
    refine ih (listed.setIfInBounds j true) ej σj e2 σ2 (fun k hk => ?_) (fun k ok hk hki hun hno => ?_) (ready_mono hr (Ne.symm hji)) hsi ?_
    ·have hkj : j ≠ k := fun h => by rw [h, hk] at hjl; simp at hjl
     rw [getD_set_ne false hkj]
     exact hlate k hk
    ·refine hfree k ok hk hki ?_ hno
     by_cases hjk : j = k
     ·subst hjk; exact hjun
     ·rw [getD_set_ne true hjk] at hun; exact hun
    ·rw [Array.setIfInBounds_comm _ _ hji]
     exact h2
   rcases hy with ⟨hgi, s, hopi, rfl, rfl⟩ | ⟨hgi, rfl, rfl⟩ | ⟨hgi, hefi, hdi, hopi, rfl, hi1, hi2⟩
   ·rcases h1 with ⟨hgj, sj, hopj, rfl, rfl⟩ | ⟨hgj, rfl, rfl⟩ | ⟨hgj, hefj, hdj, hopj, rfl, hj1, hj2⟩
    ·refine fin (e.put oj.dst sj) _ (.inl ⟨hgj.same fun t ht => (Yae a1 t ht).symm, sj, ?_, J, J⟩) (.inl ⟨hgi.same (Yae a3), s, ?_, (Env.put_comm e oi.dst oj.dst s sj a2), J⟩)
     ·exact hopj.imp (fun h => ⟨h.1, h.2.same fun t ht => (Yae a1 t ht).symm⟩) (fun h => ⟨h.1, fun τ hτ => (h.2 τ hτ).same fun t ht => (Yae a1 t ht).symm⟩)
     ·exact hopi.imp (fun h => ⟨h.1, h.2.same (Yae a3)⟩) (fun h => ⟨h.1, fun τ hτ => (h.2 τ hτ).same (Yae a3)⟩)
    ·refine fin (e.put oj.dst (.d (.v undef))) _ (.inr (.inl ⟨hgj.same fun t ht => (Yae a1 t ht).symm, J, J⟩)) (.inl ⟨hgi.same (Yae a3), s, ?_, (Env.put_comm e oi.dst oj.dst s _ a2), J⟩)
     exact hopi.imp (fun h => ⟨h.1, h.2.same (Yae a3)⟩) (fun h => ⟨h.1, fun τ hτ => (h.2 τ hτ).same (Yae a3)⟩)
    ·have hsi : sl i = false := by
      rcases hs2 with h | h
      ·exact h
      ·rw [hefj] at h; simp at h
     refine fin e σ2 (.inr (.inr ⟨hgj.same fun t ht => (Yae a1 t ht).symm, hefj, hdj, hopj.same fun t ht => (Yae a1 t ht).symm, J, hj1, hj2⟩)) (.inl ⟨hgi, s, .inr ?_, J, J⟩)
     rcases hopi with h | h
     ·rw [h.1] at hsi; simp at hsi
     ·exact ⟨hj2, h.2⟩
   ·rcases h1 with ⟨hgj, sj, hopj, rfl, rfl⟩ | ⟨hgj, rfl, rfl⟩ | ⟨hgj, hefj, hdj, hopj, rfl, hj1, hj2⟩
    ·refine fin (e.put oj.dst sj) _ (.inl ⟨hgj.same fun t ht => (Yae a1 t ht).symm, sj, ?_, J, J⟩) (.inr (.inl ⟨hgi.same (Yae a3), (Env.put_comm e oi.dst oj.dst _ sj a2), J⟩))
     exact hopj.imp (fun h => ⟨h.1, h.2.same fun t ht => (Yae a1 t ht).symm⟩) (fun h => ⟨h.1, fun τ hτ => (h.2 τ hτ).same fun t ht => (Yae a1 t ht).symm⟩)
    ·exact fin (e.put oj.dst (.d (.v undef))) _ (.inr (.inl ⟨hgj.same fun t ht => (Yae a1 t ht).symm, J, J⟩)) (.inr (.inl ⟨hgi.same (Yae a3), (Env.put_comm e oi.dst oj.dst _ _ a2), J⟩))
    ·exact fin e σ2 (.inr (.inr ⟨hgj.same fun t ht => (Yae a1 t ht).symm, hefj, hdj, hopj.same fun t ht => (Yae a1 t ht).symm, J, hj1, hj2⟩)) (.inr (.inl ⟨hgi, J, J⟩))
   ·have hsj : sl j = false := by
     rcases hs1 with h | h
     ·rw [hefi] at h; simp at h
     ·exact h
    rcases h1 with ⟨hgj, sj, hopj, rfl, rfl⟩ | ⟨hgj, rfl, rfl⟩ | ⟨hgj, hefj, hdj, hopj, rfl, hj1, hj2⟩
    ·have hall : ∀ τ, I τ -> AOp cx.P cx.B ops oj e1 τ sj := by
      rcases hopj with h | h
      ·rw [h.1] at hsj; simp at hsj
      ·exact h.2
     exact fin (e1.put oj.dst sj) σ (.inl ⟨hgj, sj, .inr ⟨hi1, hall⟩, J, J⟩) (.inr (.inr ⟨hgi.same (Yae a3), hefi, hdi, hopi.same (Yae a3), J, hi1, hi2⟩))
    ·exact fin (e1.put oj.dst (.d (.v undef))) σ (.inr (.inl ⟨hgj, J, J⟩)) (.inr (.inr ⟨hgi.same (Yae a3), hefi, hdi, hopi.same (Yae a3), J, hi1, hi2⟩))
    ·rw [hse j hefj] at hsj; simp at hsj
theorem anyH_lex {cx : Cx} {ops : Array Oper} {sl ef : Nat -> Bool} {I : Obs -> Prop} (hse : ∀ k, ef k = true -> sl k = true) {Q : Env -> Obs -> Prop} : ∀ (l : List Oper) (k : Nat) (listed : Array Bool) (e : Env) (σ : Obs), (∀ j, l[j]? = ops[k + j]?) ->
 Region.lexFrom .any ops l.length k listed = true -> Region.sensFrom ops sl ef l.length k listed = true -> HRun cx ops sl ef I k l e σ Q -> anyH cx ops sl ef I Q l.length listed e σ
 | [], _, _, _, _, _, hB, _, h => ⟨by simpa [Region.lexFrom] using hB, h⟩
 | o :: l, k, listed, e, σ, hl, hB, hS, h => by
  have h0 : ops[k]? = some o := by simpa using (hl 0).symm
  simp only [List.length_cons, Region.lexFrom, ZbA] at hB
  simp only [List.length_cons, Region.sensFrom, ZbA] at hS
  obtain ⟨⟨hr, hf⟩, hB'⟩ := hB
  have hl' : ∀ j, l[j]? = ops[k + 1 + j]? := fun j => by have := hl (j + 1); simpa [Nat.add_assoc, Nat.add_comm 1 j] using this
  obtain ⟨_, e', σ', hs, hK⟩ := h
  have hgo := anyH_lex hse l (k + 1) _ _ _ hl' hB' hS.2 hK
  by_cases hc : (sl k || ef k) = true
  ·have h1 := hS.1
   rw [if_pos hc] at h1
   obtain ⟨k1, k2, k3⟩ := Region.sensFree_spec h1 (fun j hj => by
    unfold Region.lateB at hj
    simp only [ZbA, Nat.blt_eq] at hj
    exact hj.1)
   exact anyH_first hse h0 _ k1 l.length listed e σ e' σ' k2 (fun j oj hj hji hun hno => ⟨Region.free_spec h0 hf j oj hj hji hun hno, fun hl => k3 j oj hj hji hun hl⟩) (by simpa using hr) hs hgo
  ·have h2 : sl k = false /\ ef k = false := by simpa using hc
   exact anyH_first hse h0 (fun _ => false) (fun _ _ _ h => by simp at h) l.length listed e σ e' σ' (fun _ h => by simp at h) (fun j oj hj hji hun hno => ⟨Region.free_spec h0 hf j oj hj hji hun hno, fun _ => ⟨.inl h2.2, .inl h2.1⟩⟩) (by simpa using hr) hs hgo
theorem HRun.dsts {cx : Cx} {ops : Array Oper} {sl ef : Nat -> Bool} {I : Obs -> Prop} {Q : Env -> Obs -> Prop} : ∀ (l : List Oper) (k : Nat) (e : Env) (σ : Obs), HRun cx ops sl ef I k l e σ Q -> ∀ o ∈ l, DstOk cx.N o
 | [], _, _, _, _, o, ho => by cases ho
 | x :: l, k, e, σ, h, o, ho => by
  obtain ⟨h1, _, _, _, h2⟩ := h
  cases ho with
  | head => exact h1
  | tail _ ho => exact HRun.dsts l _ _ _ h2 o ho
theorem wpAny_of_H {cx : Cx} {ops : Array Oper} {sl ef : Nat -> Bool} {I : Obs -> Prop} {Q : Post} (hd : ∀ o ∈ ops.toList, DstOk cx.N o) : ∀ (fuel : Nat) (listed : Array Bool) (e : Env) (σ : Obs) (a : Act) (w : World), R cx e σ a w ->
 anyH cx ops sl ef I (fun e σ => Q .normal e σ) fuel listed e σ -> wpAny cx.P .any ops (lift cx Q) fuel listed a w
 | 0, _, e, σ, _, _, hr, h => ⟨h.1, e, σ, h.2, hr⟩
 | fuel + 1, listed, e, σ, a, w, hr, h => by
  refine ⟨fun h0 => ⟨e, σ, h.1 h0, hr⟩, fun i hi => ?_⟩
  obtain ⟨_, o, ho, _⟩ := mem_ready.1 hi
  obtain ⟨e', σ', hs, hk⟩ := h.2 i hi o ho
  have hdo : DstOk cx.N o := hd o (Array.mem_toList_iff.2 (Array.mem_of_getElem? ho))
  unfold wpOp
  simp only [ho]
  obtain ⟨F, ρ, hr⟩ := hr
  rcases hs with ⟨hg, s, hop, rfl, rfl⟩ | ⟨hg, rfl, rfl⟩ | ⟨hg, _, hdst, hop, rfl, _, _⟩
  ·rw [if_pos (hg.wanted (fun t _ => hr.env t))]
   have hop' : AOp cx.P cx.B ops o e σ' s := by
    rcases hop with h | h
    ·exact h.2
    ·exact h.2 _ h.1
   refine .inl (wp_to ?_ (fun _ _ _ => False.elim) (hop' F ρ w a hr.lt (fun t _ => hr.env t) hr.obs))
   rintro a' w' ⟨v, F', rfl, hv, he⟩
   exact wpAny_of_H hd fuel _ _ _ _ _ ⟨F', ρ, hr.put he hv hdo⟩ hk
  ·rw [if_neg (by rw [hg.wanted (fun t _ => hr.env t)]; simp)]
   exact wpAny_of_H hd fuel _ _ _ _ _ ⟨F, ρ, hr.put (Ext.refl hr.lt) Ybt hdo⟩ hk
  ·rw [if_pos (hg.wanted (fun t _ => hr.env t))]
   refine .inl (wp_to ?_ (fun _ _ _ => False.elim) (hop F ρ a w e' hr (fun t _ => hr.env t)))
   rintro a' w' ⟨rfl, h3⟩
   obtain ⟨F', ρ', h4⟩ := h3 e' hr
   exact wpAny_of_H hd fuel _ _ _ _ _ ⟨F', ρ', h4⟩ hk
theorem AWP.drawH {cx : Cx} {id : Nat} {l : List Oper} {e : Env} {σ : Obs} {Q : Post} (sl ef : Nat -> Bool) (I : Obs -> Prop) (hse : ∀ k, ef k = true -> sl k = true) (hm : cx.P.follows .mixedOrders = true) (hB : Region.lexB .any l.toArray = true)
 (hS : Region.sensFrom l.toArray sl ef l.length 0 (Array.replicate l.length false) = true) (h : HRun cx l.toArray sl ef I 0 l e σ (fun e σ => Q .normal e σ)) : AWP cx (.region id l.toArray true) e σ Q := by
 intro a w ⟨F, ρ, hr⟩
 simp only [Region.lexB, ZbA] at hB
 have h1 := anyH_lex hse l 0 (Array.replicate l.toArray.size false) e σ (by simp) (by simpa using hB.2) (by simpa using hS) h
 exact wp_region_any hm (wpAny_of_H (by simpa using HRun.dsts l 0 e σ h) _ _ e σ a _ ⟨F, ρ, hr.drew⟩ (by simpa using h1))
section
variable {cx : Cx} {ops : Array Oper} {o : Oper} {rest : List Oper} {e : Env} {σ : Obs} {sl ef : Nat -> Bool} {I : Obs -> Prop} {n : Nat} {l : List Oper} {Q : Env -> Obs -> Prop}
theorem HRun.nil (h : Q e σ) : HRun cx ops sl ef I n [] e σ Q := h
theorem HRun.step {s : S} {t : Nat} (hg : GW ops o e true) (ht : o.dst = some t) (hd : Nat.blt t cx.N = true) (hI : I σ) (h : ∀ τ, I τ -> AOp cx.P cx.B ops o e τ s) (k : HRun cx ops sl ef I (n + 1) l (e.put (some t) s) σ Q) : HRun cx ops sl ef I n (o :: l) e σ Q :=
 ⟨by unfold DstOk; rw [ht]; exact hd, _, _, .inl ⟨hg, s, .inr ⟨hI, h⟩, rfl, rfl⟩, by rw [ht]; exact k⟩
theorem HRun.stepS {s : S} {t : Nat} (hs : sl n = true) (hg : GW ops o e true) (ht : o.dst = some t) (hd : Nat.blt t cx.N = true) (h : AOp cx.P cx.B ops o e σ s) (k : HRun cx ops sl ef I (n + 1) l (e.put (some t) s) σ Q) : HRun cx ops sl ef I n (o :: l) e σ Q :=
 ⟨by unfold DstOk; rw [ht]; exact hd, _, _, .inl ⟨hg, s, .inl ⟨hs, h⟩, rfl, rfl⟩, by rw [ht]; exact k⟩
theorem HRun.eff {σ' : Obs} (hf : ef n = true) (hg : GW ops o e true) (ht : o.dst = none) (h : EOp cx ops o e σ σ') (h1 : I σ) (h2 : I σ') (k : HRun cx ops sl ef I (n + 1) l e σ' Q) : HRun cx ops sl ef I n (o :: l) e σ Q :=
 ⟨by unfold DstOk; rw [ht], _, _, .inr (.inr ⟨hg, hf, ht, h, rfl, h1, h2⟩), k⟩
end
def PureOp (P : Program) (o : Oper) (x : Operand) : Prop := ∀ u : Value, (∃ v, ∀ (a : Act) (w : World), a.eval x = u -> (execOp a.eval o).run P w = .ok (.value v) w) \/
 (∀ (a : Act) (w : World) (K : Act -> World -> Prop) (Q : Exit -> Act -> World -> Prop), (∀ e a w, e ≠ .normal -> ¬ Q e a w) -> a.eval x = u -> ¬ o.wp P a w K Q)
theorem PureOp.move {P : Program} {o : Oper} {x : Operand} (h : o.op = .move x) : PureOp P o x := fun u => .inl ⟨u, fun a w hx => by
 unfold execOp
 simp only [h, hx, Sem.run_pure]⟩
theorem PureOp.extract {P : Program} {o : Oper} {x : Operand} {i : Nat} (h : o.op = .extract x i) : PureOp P o x := fun u => by
 by_cases hu : ∃ vs v, u = .tuple vs /\ vs[i]? = some v
 ·obtain ⟨vs, v, rfl, hv⟩ := hu
  refine .inl ⟨v, fun a w hx => ?_⟩
  unfold execOp
  simp only [h, hx, Instr.extract, hv, Sem.run_bind, Sem.run_pure, Result.andThen_ok]
 ·refine .inr fun a w K Q hQ hx hw => ?_
  unfold Oper.wp execOp at hw
  simp only [h, hx] at hw
  cases u with
  | tuple vs =>
   cases hv : vs[i]? with
   | some v => exact hu ⟨vs, v, rfl, hv⟩
   | none => simp only [Instr.extract, hv, Sem.run_bind] at hw; exact hw
  | _ => simp only [Instr.extract, Sem.run_bind] at hw; exact hw
theorem wpAny_pure {P : Program} {ops : Array Oper} {Q : Exit -> Act -> World -> Prop} {i d : Nat} {oi : Oper} {x : Operand} {u v : Value} (hi : ops[i]? = some oi) (hv : ∀ (a : Act) (w : World), a.eval x = u -> (execOp a.eval oi).run P w = .ok (.value v) w) (hlk : ∀ t, x = .tmp t -> t ∈ oi.looksAt ops) (hd : oi.dst = some d) (hg : oi.guard = none) (hsel : ∀ (j : Nat) (oj : Oper), ops[j]? = some oj -> notSelect oj = true) (hQ : ∀ e a w, e ≠ .normal -> ¬ Q e a w) :
 ∀ (fuel : Nat) (listed : Array Bool) (a : Act) (w : World), a.eval x = u ->
  (∀ (j : Nat) (oj : Oper), ops[j]? = some oj -> j ≠ i -> listed.getD j true = false -> (∀ e ∈ oj.after, Region.binds .any e = true -> e.on ≠ i) -> oi.apart ops oj = true) ->
  i ∈ Region.ready .any ops listed -> wpAny P .any ops Q fuel (listed.setIfInBounds i true) (a.put (some d) v) w -> wpAny P .any ops Q (fuel + 1) listed a w := by
 have self : ∀ {fuel : Nat} {listed : Array Bool} {a : Act} {w : World}, a.eval x = u -> wpAny P .any ops Q fuel (listed.setIfInBounds i true) (a.put (some d) v) w -> wpOp P ops Q i (wpAny P .any ops Q fuel (listed.setIfInBounds i true)) a w := by
  intro fuel listed a w hx H
  unfold wpOp
  simp only [hi]
  have hw : Region.wanted oi (yielded ops a.tmps) = true := by simp [Region.wanted, hg]
  rw [if_pos hw]
  refine .inl ?_
  unfold Oper.wp
  rw [hv a w hx]
  simp only [Oper.upon, hd]
  exact H
 intro fuel
 induction fuel with
 | zero =>
  intro listed a w hx _ hr H
  refine ⟨fun h => (by rw [h] at hr; cases hr), fun j hj => ?_⟩
  by_cases hji : j = i
  ·subst hji; exact self hx H
  ·have := ready_mono hj hji
   rw [H.1] at this
   cases this
 | succ fuel ih =>
  intro listed a w hx hfree hr H
  refine ⟨fun h => (by rw [h] at hr; cases hr), fun j hj => ?_⟩
  by_cases hji : j = i
  ·subst hji; exact self hx H
  ·have H2 := H.2 j (ready_mono hj hji)
   obtain ⟨hjun, oj, hoj, hall⟩ := mem_ready.1 hj
   have hnot : ∀ e ∈ oj.after, Region.binds .any e = true -> e.on ≠ i := fun e he hb heq => by
    have h1 := hall e he hb
    have h0 := (mem_ready.1 hr).1
    rw [heq] at h1
    rcases Nat.lt_or_ge i listed.size with h' | h'
    ·simp [h'] at h0 h1; rw [h0] at h1; cases h1
    ·simp [Array.getElem?_eq_none h'] at h1
   obtain ⟨a1, a2, a3⟩ := Oper.apart_spec (hfree j oj hoj hji hjun hnot)
   have hdl : d ∉ oj.looksAt ops := a1 d hd
   have hdd : oj.dst ≠ some d := fun he => a2 d hd he
   have hxo : ∀ t, x = .tmp t -> oj.dst ≠ some t := fun t ht he => a3 t he (hlk t ht)
   have next : ∀ a' w', (∀ y : Operand, (∀ t, y = .tmp t -> oj.dst ≠ some t) -> a'.eval y = a.eval y) -> wpAny P .any ops Q fuel ((listed.setIfInBounds i true).setIfInBounds j true) (a'.put (some d) v) w' -> wpAny P .any ops Q (fuel + 1) (listed.setIfInBounds j true) a' w' := by
    intro a' w' he h
    refine ih _ _ _ ((he x hxo).trans hx) (fun k ok hk hki hun hno => ?_) (ready_mono hr (Ne.symm hji)) ?_
    ·refine hfree k ok hk hki ?_ hno
     by_cases hjk : j = k
     ·subst hjk; exact hjun
     ·rw [getD_set_ne true hjk] at hun; exact hun
    ·rw [Array.setIfInBounds_comm _ _ hji]
     exact h
   unfold wpOp at H2 ⊢
   simp only [hoj] at H2 ⊢
   rw [wanted_put (ops := ops) oj a (some d) v (fun t ht => by cases ht; exact hdl)] at H2
   by_cases hw : Region.wanted oj (yielded ops a.tmps) = true
   ·rw [if_pos hw] at H2 ⊢
    rcases H2 with H2 | ⟨_, a1, w1, h1⟩
    ·exact .inl (wp_put (ops := ops) (notSelect_spec (hsel j oj hoj)) hdl hdd hQ next H2)
    ·exact absurd h1 (hQ _ _ _ (by simp))
   ·rw [if_neg hw] at H2 ⊢
    refine next _ _ (fun y hy => Ycl a oj.dst undef y hy) ?_
    rw [put_swap a oj.dst (some d) undef v (fun t ht he => hdd (by rw [ht, he]))]
    exact H2
def Region.chainLB (ops : Array Oper) (L : Nat -> Bool) (k : Nat) : Bool := Region.downB ops && Nat.ble k ops.size && (List.range (ops.size - 1)).all fun j =>
 (L j && Nat.blt j k) || (List.range ops.size).any fun m => Nat.blt j m && (Nat.ble m k || Nat.ble m (j + 1)) && (!(L m) || Nat.ble k m) && Region.edge ops m j
structure ChainL (ops : Array Oper) (L : Nat -> Bool) (k : Nat) : Prop where
 down : Region.downB ops = true
 le : k <= ops.size
 next : ∀ j, (L j = false \/ k <= j) -> j < ops.size - 1 -> ∃ m, j < m /\ (m <= k \/ m <= j + 1) /\ (L m = false \/ k <= m) /\ Region.edge ops m j = true
theorem ChainL.of {ops : Array Oper} {L : Nat -> Bool} {k : Nat} (h : Region.chainLB ops L k = true) : ChainL ops L k := by
 unfold Region.chainLB at h
 simp only [ZbA] at h
 obtain ⟨⟨h1, h2⟩, h3⟩ := h
 refine ⟨h1, ZnB h2, fun j hL hj => ?_⟩
 have h4 := List.all_eq_true.1 h3 j (List.mem_range.2 hj)
 rw [Bool.or_eq_true] at h4
 rcases h4 with h4 | h4
 ·simp only [ZbA, Nat.blt_eq] at h4
  rcases hL with hL | hL
  ·rw [hL] at h4; simp at h4
  ·omega
 ·obtain ⟨m, _, hm⟩ := List.any_eq_true.1 h4
  simp only [ZbA, Bool.or_eq_true, Nat.blt_eq, Bool.not_eq_true'] at hm
  exact ⟨m, hm.1.1.1, hm.1.1.2.imp ZnB ZnB, hm.1.2.imp id ZnB, hm.2⟩
theorem ChainL.before {ops : Array Oper} {L : Nat -> Bool} {k : Nat} (hC : ChainL ops L k) {listed : Array Bool} (hc : Closed ops listed) {i : Nat} (hi : i ∈ Region.ready .any ops listed) (hk : k <= i) : ∀ d j, (L j = false \/ k <= j) -> j + d = i -> 0 < d -> listed.getD j false = true := by
 obtain ⟨_, oi, hoi, hall⟩ := mem_ready.1 hi
 have hlt : i < ops.size := (ZaS.1 hoi).1
 intro d
 induction d using Nat.strongRecOn with
 | ind d ih =>
  intro j hL hj hd
  obtain ⟨m, h1, h2, h4, h3⟩ := hC.next j hL (by omega)
  obtain ⟨o, ho, e, he, hb, heq⟩ := Region.edge_spec h3
  by_cases hmi : m = i
  ·subst hmi
   rw [hoi] at ho; cases ho
   rw [<- heq]; exact hall e he hb
  ·have := ih (i - m) (by omega) m h4 (by omega) (by omega)
   rw [<- heq]; exact hc m o ho this e he hb
section
variable {P : Program} {ops : Array Oper} {Q Q0 : Exit -> Act -> World -> Prop} {k : Nat} {L : Nat -> Bool}
theorem wpAny_chainL (hC : ChainL ops L k) : ∀ (l : List Oper) (i : Nat) (listed : Array Bool) (fuel : Nat) (a : Act) (w : World), (∀ j, l[j]? = ops[i + j]?) -> i + l.length = ops.size -> k <= i -> listed.size = ops.size ->
 (∀ j, j < i -> listed.getD j false = true) -> (∀ j, i <= j -> j < ops.size -> listed.getD j true = false) -> Closed ops listed -> l.length <= fuel -> wpList P ops Q l a w -> wpAny P .any ops Q fuel listed a w
 | [], i, listed, fuel, a, w, hl, hsz, hk, hls, h1, h2, hc, hf, h => by
  have hr : Region.ready .any ops listed = [] := by
   refine List.eq_nil_iff_forall_not_mem.2 fun m hm => ?_
   obtain ⟨hu, o, ho, _⟩ := mem_ready.1 hm
   have hlt : m < ops.size := (ZaS.1 ho).1
   have := h1 m (by simp at hsz; omega)
   rw [Ya6 (by omega) false true, hu] at this
   simp at this
  cases fuel with
  | zero => exact ⟨hr, h⟩
  | succ f => exact ⟨fun _ => h, fun m hm => by rw [hr] at hm; cases hm⟩
 | o :: l, i, listed, fuel, a, w, hl, hsz, hk, hls, h1, h2, hc, hf, h => by
  have h0 : ops[i]? = some o := by simpa using (hl 0).symm
  have hlt : i < ops.size := (ZaS.1 h0).1
  have hl' : ∀ j, l[j]? = ops[i + 1 + j]? := fun j => by have := hl (j + 1); simpa [Nat.add_assoc, Nat.add_comm 1 j] using this
  have hui := h2 i (ZnR _) hlt
  have hir : i ∈ Region.ready .any ops listed := mem_ready.2 ⟨hui, o, h0, fun e he hb => h1 _ ((Region.down_spec hC.down h0).1 e he hb)⟩
  have hnext : ∀ (a' : Act) (w' : World), wpList P ops Q l a' w' -> wpAny P .any ops Q (fuel - 1) (listed.setIfInBounds i true) a' w' := fun a' w' h' =>
   wpAny_chainL hC l (i + 1) _ _ a' w' hl' (by simp at hsz; omega) (by omega) (by simp [hls]) (fun j hj => by
    by_cases hji : i = j
    ·subst hji
     simp [ZaD, hls, hlt]
    ·rw [getD_set_ne false hji]; exact h1 j (by omega)) (fun j hj hj2 => by rw [getD_set_ne true (by omega)]; exact h2 j (by omega) hj2) (hc.set hir) (by simp at hf; omega) h'
  obtain ⟨f, rfl⟩ : ∃ f, fuel = f + 1 := ⟨fuel - 1, by simp at hf; omega⟩
  refine ⟨fun hr => (by rw [hr] at hir; cases hir), fun m hm => ?_⟩
  obtain ⟨hu, o', ho', _⟩ := mem_ready.1 hm
  have hm2 : m = i := by
   have hmlt : m < ops.size := (ZaS.1 ho').1
   rcases Nat.lt_trichotomy m i with hh | hh | hh
   ·have := h1 m hh
    rw [Ya6 (by omega) false true, hu] at this
    simp at this
   ·exact hh
   ·have := hC.before hc hm (by omega) (m - i) i (.inr hk) (by omega) (by omega)
    rw [Ya6 (by omega) false true, hui] at this
    simp at this
  subst hm2
  unfold wpOp
  simp only [h0]
  unfold wpList at h
  by_cases hw : Region.wanted o (yielded ops a.tmps) = true
  ·rw [if_pos hw] at h ⊢
   exact h.imp (Oper.wp_mono hnext) id
  ·rw [if_neg hw] at h ⊢
   exact hnext _ _ h
structure LateOk (P : Program) (ops : Array Oper) (L : Nat -> Bool) (k : Nat) : Prop where
 op : ∀ i, L i = true -> i < k -> ∃ oi x d, ops[i]? = some oi /\ PureOp P oi x /\ (∀ t, x = .tmp t -> t ∈ oi.looksAt ops) /\ oi.dst = some d /\ oi.guard = none
 sel : ∀ (j : Nat) (oj : Oper), ops[j]? = some oj -> notSelect oj = true
 apart : ∀ i oi, L i = true -> i < k -> ops[i]? = some oi -> ∀ (j : Nat) (oj : Oper), ops[j]? = some oj -> j ≠ i -> (∀ e ∈ oj.after, Region.binds .any e = true -> e.on ≠ i) -> (∀ e ∈ oi.after, Region.binds .any e = true -> e.on ≠ j) -> oi.apart ops oj = true
theorem wpAny_splitL (hC : ChainL ops L k) (hL : LateOk P ops L k) {ops0 : Array Oper} (h0 : ops0.size = k) (hpre : ∀ j, j < k -> ops0[j]? = ops[j]?) (hN : ∀ a w, Q0 .normal a w -> wpList P ops Q (ops.toList.drop k) a w) (hQ0 : ∀ e a w, e ≠ .normal -> ¬ Q0 e a w) (hQ : ∀ e a w, e ≠ .normal -> ¬ Q e a w) :
 ∀ (fuel0 : Nat) (listed0 listed : Array Bool) (fuel : Nat) (a : Act) (w : World), listed0.size = k -> listed.size = ops.size -> (∀ j, j < k -> ∀ d, listed0.getD j d = listed.getD j d) -> (∀ j, k <= j -> j < ops.size -> listed.getD j true = false) ->
  Closed ops listed -> fuel0 + (ops.size - k) <= fuel -> wpAny P .any ops0 Q0 fuel0 listed0 a w -> wpAny P .any ops Q fuel listed a w := by
 have hle := hC.le
 have hE : ∀ e a w, e ≠ .normal -> Q0 e a w -> Q e a w := fun e a w h h2 => absurd h2 (hQ0 e a w h)
 have hd0 : Region.downB ops0 = true := by
  unfold Region.downB
  refine List.all_eq_true.2 fun i hi => ?_
  have hik := List.mem_range.1 hi
  have h1 := List.all_eq_true.1 hC.down i (List.mem_range.2 (by omega))
  rw [hpre i (by omega)]
  exact h1
 have all : ∀ (fuel0 : Nat) (listed0 listed : Array Bool) (fuel : Nat) (a : Act) (w : World), listed0.size = k -> listed.size = ops.size -> (∀ j, j < k -> ∀ d, listed0.getD j d = listed.getD j d) -> (∀ j, k <= j -> j < ops.size -> listed.getD j true = false) ->
  Closed ops listed -> fuel0 + (ops.size - k) <= fuel -> wpAny P .any ops0 Q0 fuel0 listed0 a w -> (∀ j, j < k -> listed.getD j false = true) -> wpAny P .any ops Q fuel listed a w := by
  intro fuel0 listed0 listed fuel a w hs0 hs hag hun hc hf H hall
  have hr0 : Region.ready .any ops0 listed0 = [] := by
   refine List.eq_nil_iff_forall_not_mem.2 fun m hm => ?_
   obtain ⟨hu, o, ho, _⟩ := mem_ready.1 hm
   have hlt : m < ops0.size := (ZaS.1 ho).1
   have h1 := hall m (by omega)
   rw [<- hag m (by omega), Ya6 (by omega) false true, hu] at h1
   simp at h1
  have hQ : Q0 .normal a w := by
   cases fuel0 with
   | zero => exact H.2
   | succ f => exact H.1 hr0
  exact wpAny_chainL hC (ops.toList.drop k) k listed fuel a w (fun j => by rw [ZgO, Array.getElem?_toList]) (by rw [ZlD, ZaL]; omega) (ZnR _) hs hall hun hc (by rw [ZlD, ZaL]; omega) (hN a w hQ)
 intro fuel0
 induction fuel0 with
 | zero =>
  intro listed0 listed fuel a w hs0 hs hag hun hc hf H
  refine all 0 listed0 listed fuel a w hs0 hs hag hun hc hf H fun j hj => ?_
  cases hh : listed.getD j false with
  | true => rfl
  | false =>
   rw [<- hag j hj, Ya6 (by omega) false true] at hh
   obtain ⟨m, _, hm⟩ := YbW hd0 (by omega) j (by omega) hh
   rw [H.1] at hm; cases hm
 | succ fuel0 ih =>
  intro listed0 listed fuel a w hs0 hs hag hun hc hf H
  have hset : ∀ m, m < k -> m ∈ Region.ready .any ops listed -> ∀ (a' : Act) (w' : World) (f : Nat), fuel0 + (ops.size - k) <= f -> wpAny P .any ops0 Q0 fuel0 (listed0.setIfInBounds m true) a' w' -> wpAny P .any ops Q f (listed.setIfInBounds m true) a' w' := fun m hmk hm a' w' f hf' h' =>
   ih _ _ f a' w' (by simp [hs0]) (by simp [hs]) (fun j hj d => by
    by_cases hmj : m = j
    ·subst hmj
     simp [ZaD, hs0, hs, hmk, show m < ops.size by omega]
    ·rw [getD_set_ne d hmj, getD_set_ne d hmj]; exact hag j hj d) (fun j hj hj2 => by rw [getD_set_ne true (by omega)]; exact hun j hj hj2) (hc.set hm) hf' h'
  by_cases hall : ∀ j, j < k -> listed.getD j false = true
  ·exact all _ listed0 listed fuel a w hs0 hs hag hun hc hf H hall
  ·obtain ⟨f, rfl⟩ : ∃ f, fuel = f + 1 := ⟨fuel - 1, by omega⟩
   have hready0 : ∀ m, m < k -> m ∈ Region.ready .any ops listed -> m ∈ Region.ready .any ops0 listed0 := fun m hmk hm => by
    obtain ⟨hu, o, ho, hdep⟩ := mem_ready.1 hm
    exact mem_ready.2 ⟨by rw [hag m hmk]; exact hu, o, by rw [hpre m hmk]; exact ho, fun e he hb => by
     have := (Region.down_spec hC.down ho).1 e he hb
     rw [hag _ (by omega)]; exact hdep e he hb⟩
   by_cases hlate : ∀ j, j < k -> L j = false -> listed.getD j false = true
   ·-- only late ones are left: the least of them is made first
    simp only [Classical.not_forall] at hall
    obtain ⟨j, hj, hjn⟩ := hall
    have hju : listed.getD j true = false := by rw [Ya6 (by omega) true false]; simpa using hjn
    obtain ⟨m, hmj, hm⟩ := YbW hC.down hs j (by omega) hju
    have hmk : m < k := by omega
    have hmL : L m = true := by
     cases hh : L m with
     | true => rfl
     | false =>
      have := hlate m hmk hh
      rw [Ya6 (by omega) false true, (mem_ready.1 hm).1] at this
      simp at this
    obtain ⟨oi, x, d, hoi, hp, hlk, hd, hg⟩ := hL.op m hmL hmk
    have H1 := H.2 m (hready0 m hmk hm)
    unfold wpOp at H1
    have ho0 : ops0[m]? = some oi := by rw [hpre m hmk]; exact hoi
    simp only [ho0] at H1
    have hw : Region.wanted oi (yielded ops0 a.tmps) = true := by simp [Region.wanted, hg]
    rw [if_pos hw] at H1
    rcases H1 with H1 | ⟨_, a1, w1, h1⟩
    ·rcases hp (a.eval x) with ⟨v, hv⟩ | hno
     ·unfold Oper.wp at H1
      rw [hv a w rfl] at H1
      simp only [Oper.upon, hd] at H1
      exact wpAny_pure hoi hv hlk hd hg hL.sel hQ f listed a w J (fun j oj hoj hji hun hno => hL.apart m oi hmL hmk hoi j oj hoj hji hno fun e he hb heq => by
       obtain ⟨_, o', ho', hdep⟩ := mem_ready.1 hm
       rw [hoi] at ho'; cases ho'
       have h5 := hdep e he hb
       have hjl : j < listed.size := by rw [hs]; exact (ZaS.1 hoj).1
       rw [heq, Ya6 hjl false true, hun] at h5
       simp at h5) hm (hset m hmk hm _ _ f (by omega) H1)
     ·exact absurd H1 (hno a w _ _ hQ0 J)
    ·exact absurd h1 (hQ0 _ _ _ (by simp))
   ·simp only [Classical.not_forall] at hlate
    obtain ⟨j, hj, hjL, hjn⟩ := hlate
    have hju : listed.getD j true = false := by rw [Ya6 (by omega) true false]; simpa using hjn
    refine ⟨fun hr => ?_, fun m hm => ?_⟩
    ·obtain ⟨m, _, hm⟩ := YbW hC.down hs j (by omega) hju
     rw [hr] at hm; cases hm
    ·have hmk : m < k := by
      refine Nat.lt_of_not_le fun hkm => hjn ?_
      exact hC.before hc hm hkm (m - j) j (.inl hjL) (by omega) (by omega)
     have h1 := H.2 m (hready0 m hmk hm)
     obtain ⟨hu, o, ho, hdep⟩ := mem_ready.1 hm
     have ho0 : ops0[m]? = some o := by rw [hpre m hmk]; exact ho
     unfold wpOp at h1 ⊢
     simp only [ho, ho0] at h1 ⊢
     rw [wanted_same (ops := ops) fun p hp => hpre _ (by have := (Region.down_spec hC.down ho).2 p hp; omega)] at h1
     have hnext : ∀ (a' : Act) (w' : World), wpAny P .any ops0 Q0 fuel0 (listed0.setIfInBounds m true) a' w' -> wpAny P .any ops Q f (listed.setIfInBounds m true) a' w' := fun a' w' h' => hset m hmk hm a' w' f (by omega) h'
     by_cases hw : Region.wanted o (yielded ops a.tmps) = true
     ·rw [if_pos hw] at h1 ⊢
      exact h1.imp (wp_to2 hnext hE) fun h => ⟨h.1, h.2.imp fun _ => Exists.imp fun _ => hE _ _ _ (by simp)⟩
     ·rw [if_neg hw] at h1 ⊢
      exact hnext _ _ h1
end
def pureB (o : Oper) : Bool := (match o.op with | .move _ => true | .extract _ _ => true | _ => false) && o.guard.isNone && o.dst.isSome
theorem pureB_spec {P : Program} {ops : Array Oper} {o : Oper} (h : pureB o = true) : ∃ x d, PureOp P o x /\ (∀ t, x = .tmp t -> t ∈ o.looksAt ops) /\ o.dst = some d /\ o.guard = none := by
 unfold pureB at h
 simp only [ZbA] at h
 obtain ⟨⟨h1, h2⟩, h3⟩ := h
 obtain ⟨d, hd⟩ := Option.isSome_iff_exists.1 h3
 have hg : o.guard = none := by simpa using h2
 cases hop : o.op with
 | move x => exact ⟨x, d, .move hop, fun t ht => YaM (by rw [hop, ht]; simp [Op.operands]), hd, hg⟩
 | extract x i => exact ⟨x, d, .extract hop, fun t ht => YaM (by rw [hop, ht]; simp [Op.operands]), hd, hg⟩
 | _ => rw [hop] at h1; simp at h1
def lateB (ops : Array Oper) (L : List Nat) (k : Nat) : Bool := (ops.toList.all notSelect) && L.all fun i => Nat.blt i k && ((ops[i]?).map fun oi => pureB oi && (List.range ops.size).all fun j => Nat.beq j i || Region.edge ops j i || Region.edge ops i j || ((ops[j]?).map fun oj => oi.apart ops oj).getD true).getD false
theorem LateOk.of {P : Program} {ops : Array Oper} {L : List Nat} {k : Nat} (h : lateB ops L k = true) : LateOk P ops (fun i => L.contains i) k := by
 unfold lateB at h
 simp only [ZbA] at h
 have hL : ∀ i, L.contains i = true -> ∃ oi, ops[i]? = some oi /\ pureB oi = true /\ ∀ j oj, ops[j]? = some oj -> j ≠ i -> (∀ e ∈ oj.after, Region.binds .any e = true -> e.on ≠ i) -> (∀ e ∈ oi.after, Region.binds .any e = true -> e.on ≠ j) -> oi.apart ops oj = true := fun i hi => by
  have h1 := List.all_eq_true.1 h.2 i (List.contains_iff_mem.1 hi)
  simp only [ZbA] at h1
  cases ho : ops[i]? with
  | none => rw [ho] at h1; simp at h1
  | some oi =>
   rw [ho] at h1
   simp only [Option.map_some, Option.getD_some, ZbA] at h1
   refine ⟨oi, J, h1.2.1, fun j oj hj hji hn hn2 => ?_⟩
   have h2 := List.all_eq_true.1 h1.2.2 j (List.mem_range.2 (ZaS.1 hj).1)
   rw [hj] at h2
   simp only [Option.map_some, Option.getD_some, Bool.or_eq_true] at h2
   rcases h2 with ((h2 | h2) | h2) | h2
   ·exact absurd (Nat.eq_of_beq_eq_true h2) hji
   ·obtain ⟨o, ho2, e, he, hb, heq⟩ := Region.edge_spec h2
    rw [hj] at ho2; cases ho2
    exact absurd heq (hn e he hb)
   ·obtain ⟨o, ho2, e, he, hb, heq⟩ := Region.edge_spec h2
    rw [ho] at ho2; cases ho2
    exact absurd heq (hn2 e he hb)
   ·exact h2
 refine ⟨fun i hi _ => ?_, fun j oj hj => List.all_eq_true.1 h.1 oj (by simpa using Array.mem_of_getElem? hj), fun i oi hi _ hoi j oj hj hji hn hn2 => ?_⟩
 ·obtain ⟨oi, h1, h2, _⟩ := hL i hi
  obtain ⟨x, d, h3, h4, h5, h6⟩ := pureB_spec (P := P) (ops := ops) h2
  exact ⟨oi, x, d, h1, h3, h4, h5, h6⟩
 ·obtain ⟨oi', h1, _, h3⟩ := hL i hi
  rw [hoi] at h1; cases h1
  exact h3 j oj hj hji hn hn2
def QN (Q : Post) : Post := fun ex e σ => match ex with | .normal => Q .normal e σ | _ => False
theorem AWP.drawFreshL {cx : Cx} {rid : Nat} {l : List Oper} {e : Env} {σ : Obs} {Q : Post} (k : Nat) (L : List Nat) (Φ : List Fr) (ok : FrOk cx Φ σ) (hm : cx.P.follows .mixedOrders = true) (hB : Region.lexB .any (l.take k).toArray = true) (hC : Region.chainLB l.toArray (fun i => L.contains i) k = true) (hL : lateB l.toArray L k = true) (hlk : dstB Φ (l.take k) = true)
 (h : XRun cx (l.take k).toArray σ Φ (l.take k) (Env.killAll Φ e) (fun e => AOps cx l.toArray (l.drop k) e (frObs Φ ++ σ) (QN Q))) : AWP cx (.region rid l.toArray true) e σ Q := by
 intro a w ⟨F, ρ, hr⟩
 simp only [Region.lexB, ZbA] at hB
 have hch := ChainL.of hC
 have hkl : k <= l.length := by simpa using hch.le
 have h1 := anyX_lex (l.take k) 0 (Array.replicate (l.take k).toArray.size false) (Env.killAll Φ e) (by simp) (by simpa using hB.2) h
 have hone : ∀ f ∈ Φ, ∀ (i j : Nat) (o o' : Oper), (l.take k).toArray[i]? = some o -> (l.take k).toArray[j]? = some o' -> o.dst = some f.dst -> o'.dst = some f.dst -> i = j := fun f hf i j o o' hi hj ho ho' => by
  rw [List.getElem?_toArray] at hi hj
  have h3 := List.all_eq_true.1 (List.all_eq_true.1 (List.all_eq_true.1 hlk f hf) i (List.mem_range.2 (ZgS.1 hi).1)) j (List.mem_range.2 (ZgS.1 hj).1)
  rw [hi, hj] at h3
  simp only [Option.map_some, Option.getD_some, Bool.or_eq_true] at h3
  rcases h3 with (h3 | h3) | h3
  ·exact Nat.eq_of_beq_eq_true h3
  ·exact absurd ho (Ybu h3)
  ·exact absurd ho' (Ybu h3)
 have h2 := wpAny_of_X (cx := cx) (ops := (l.take k).toArray) (Q := fun ex e σ => match ex with | .normal => AOps cx l.toArray (l.drop k) e σ (QN Q) | _ => False) (fun o ho => XRun.dsts _ _ h o (by simpa using ho)) hone ok _ _ (Env.killAll Φ e) _ _
  ⟨[], fun g hg => (nomatch hg), fun g hg => (nomatch hg), fun g hg => (nomatch hg), fun f hf _ t => killAll_all Φ _ f hf t, R.killAll Φ ⟨F, ρ, hr.drew⟩⟩ h1
 have h3 : wpAny cx.P .any l.toArray (lift cx (QN Q)) l.toArray.size (Array.replicate l.toArray.size false) a { w with drawn := w.drawn + 1 } := by
  refine wpAny_splitL hch (LateOk.of hL) (ops0 := (l.take k).toArray) (by simp; omega) (fun j hj => ?_) ?_ ?_ ?_ (l.take k).length _ _ _ _ _ (by simp; omega) (by simp) ?_ ?_ ?_ (by simp; omega) h2
  ·rw [List.getElem?_toArray, List.getElem?_toArray, ZgT, if_pos hj]
  ·rintro a w ⟨e, σ, h3, h4⟩
   have := h3 a w h4
   simpa using this
  ·rintro ex a w hne ⟨e, σ, h3, _⟩
   cases ex <;> first | exact absurd rfl hne | exact h3.elim
  ·rintro ex a w hne ⟨e, σ, h3, _⟩
   cases ex <;> first | exact absurd rfl hne | exact h3.elim
  ·intro j hj d
   have h5 : j < l.length := by omega
   have h6 : j < min k l.length := by omega
   simp [ZaD, h5, h6]
  ·intro j hj hj2
   have : j < l.length := by simpa using hj2
   simp [ZaD, this]
  ·intro i o ho hi
   have : i < l.length := by simpa using (ZaS.1 ho).1
   simp [ZaD, this] at hi
 refine wp_mono (wp_region_any hm h3) ?_
 rintro ex a w ⟨e, σ, h4, h5⟩
 cases ex with
 | normal => exact ⟨e, σ, h4, h5⟩
 | exit id => exact h4.elim
 | goto l => exact h4.elim
 | ret => exact h4.elim
 | panic c => exact h4.elim
 | outgrown => exact h4.elim
def Env.puts (e : Env) : List (Nat × S) -> Env
 | [] => e
 | p :: l => Env.puts (e.put (some p.1) p.2) l
theorem puts_other {t : Nat} : ∀ {l : List (Nat × S)} {e : Env}, t ∉ l.map Prod.fst -> Env.puts e l t = e t
 | [], _, _ => rfl
 | p :: l, e, h => by
  simp only [List.map_cons, List.mem_cons, not_or] at h
  unfold Env.puts
  rw [puts_other h.2, Env.put_other _ _ _ _ h.1]
theorem puts_put {dst : Option Nat} {s : S} : ∀ {l : List (Nat × S)} {e : Env}, (∀ d, dst = some d -> d ∉ l.map Prod.fst) -> Env.puts (e.put dst s) l = (Env.puts e l).put dst s
 | [], _, _ => rfl
 | p :: l, e, h => by
  unfold Env.puts
  rw [Env.put_comm e dst (some p.1) s p.2 (fun d hd he => h d hd (by rw [<- Option.some.inj he]; simp)), puts_put fun d hd hm => h d hd (by simp only [List.map_cons, List.mem_cons]; exact .inr hm)]
structure Fc where
 id : Nat
 slots : List Nat
def Clean (Φ : List Fc) (e : Env) : Prop := ∀ f ∈ Φ, ∀ t, f.slots.contains t = false -> (e t).kill f.id = e t
def QE (e1 : Env) (σ1 : Obs) : Post := fun ex e σ => match ex with | .normal => e = e1 /\ σ = σ1 | _ => False
def GE (cx : Cx) (ops : Array Oper) (Φ : List Fc) (o : Oper) (e : Env) (σ : Obs) (si : List (Nat × S)) (σ' : Obs) : Prop :=
 ∀ e0 : Env, (∀ t, t ∈ o.looksAt ops -> e0 t = e t) -> (∀ t, t ∈ si.map Prod.fst -> e0 t = e t) -> Clean Φ e0 -> AOps cx ops [o] e0 σ (QE (Env.puts e0 si) σ')
def LStep (cx : Cx) (ops : Array Oper) (Φ : List Fc) (ef : Nat -> Bool) (K : Nat -> List Nat) (I : Obs -> Prop) (k : Nat) (o : Oper) (e : Env) (σ : Obs) (e' : Env) (σ' : Obs) : Prop :=
 (GW ops o e true /\ ef k = false /\ ∃ s, I σ /\ (∀ τ, I τ -> AOp cx.P cx.B ops o e τ s) /\ (∀ f ∈ Φ, (∃ t, o.dst = some t /\ f.slots.contains t = true) \/ s.kill f.id = s) /\ e' = e.put o.dst s /\ σ' = σ) \/
 (GW ops o e false /\ ef k = false /\ e' = e.put o.dst (.d (.v undef)) /\ σ' = σ) \/
 (GW ops o e true /\ ef k = true /\ I σ /\ I σ' /\ ∃ si, si.map Prod.fst = K k /\ GE cx ops Φ o e σ si σ' /\ (∀ p ∈ si, ∀ f ∈ Φ, f.slots.contains p.1 = true \/ p.2.kill f.id = p.2) /\ e' = Env.puts e si)
def LRun (cx : Cx) (ops : Array Oper) (Φ : List Fc) (ef : Nat -> Bool) (K : Nat -> List Nat) (I : Obs -> Prop) : Nat -> List Oper -> Env -> Obs -> (Env -> Obs -> Prop) -> Prop
 | _, [], e, σ, Q => Q e σ
 | k, o :: l, e, σ, Q => DstOk cx.N o /\ ∃ e' σ', LStep cx ops Φ ef K I k o e σ e' σ' /\ LRun cx ops Φ ef K I (k + 1) l e' σ' Q
def anyL (cx : Cx) (ops : Array Oper) (Φ : List Fc) (ef : Nat -> Bool) (K : Nat -> List Nat) (I : Obs -> Prop) (Q : Env -> Obs -> Prop) : Nat -> Array Bool -> Env -> Obs -> Prop
 | 0, listed, e, σ => Region.ready .any ops listed = [] /\ Q e σ
 | fuel + 1, listed, e, σ => (Region.ready .any ops listed = [] -> Q e σ) /\
  ∀ i ∈ Region.ready .any ops listed, ∀ o, ops[i]? = some o -> ∃ e' σ', LStep cx ops Φ ef K I i o e σ e' σ' /\ anyL cx ops Φ ef K I Q fuel (listed.setIfInBounds i true) e' σ'
def keysOkB (ops : Array Oper) (K : Nat -> List Nat) (i j : Nat) (oi oj : Oper) : Bool :=
 ((K i).all fun k => !((oj.looksAt ops).contains k) && neDst oj k) && ((K j).all fun k => !((oi.looksAt ops).contains k) && neDst oi k) && (!(K i).any fun k => (K j).contains k)
theorem keysOk_l {ops : Array Oper} {K : Nat -> List Nat} {i j : Nat} {oi oj : Oper} (h : keysOkB ops K i j oi oj = true) : ∀ k ∈ K i, k ∉ oj.looksAt ops /\ oj.dst ≠ some k := fun k hk => by
 unfold keysOkB at h
 simp only [ZbA] at h
 have h1 := List.all_eq_true.1 h.1.1 k hk
 simp only [ZbA, Bool.not_eq_true', List.contains_eq_mem, decide_eq_false_iff_not] at h1
 exact ⟨h1.1, Ybu h1.2⟩
theorem keysOk_r {ops : Array Oper} {K : Nat -> List Nat} {i j : Nat} {oi oj : Oper} (h : keysOkB ops K i j oi oj = true) : ∀ k ∈ K j, k ∉ oi.looksAt ops /\ oi.dst ≠ some k := fun k hk => by
 unfold keysOkB at h
 simp only [ZbA] at h
 have h1 := List.all_eq_true.1 h.1.2 k hk
 simp only [ZbA, Bool.not_eq_true', List.contains_eq_mem, decide_eq_false_iff_not] at h1
 exact ⟨h1.1, Ybu h1.2⟩
theorem GE.same {cx : Cx} {ops : Array Oper} {Φ : List Fc} {o : Oper} {e e' : Env} {σ σ' : Obs} {si : List (Nat × S)} (h : GE cx ops Φ o e σ si σ') (h1 : ∀ t, t ∈ o.looksAt ops -> e' t = e t) (h2 : ∀ t, t ∈ si.map Prod.fst -> e' t = e t) : GE cx ops Φ o e' σ si σ' :=
 fun e0 k1 k2 k3 => h e0 (fun t ht => (k1 t ht).trans (h1 t ht)) (fun t ht => (k2 t ht).trans (h2 t ht)) k3
theorem anyL_first {cx : Cx} {ops : Array Oper} {Φ : List Fc} {ef : Nat -> Bool} {K : Nat -> List Nat} {I : Obs -> Prop} (hK : ∀ k, ef k = false -> K k = []) {Q : Env -> Obs -> Prop} {i : Nat} {oi : Oper} (hi : ops[i]? = some oi) (late : Nat -> Bool)
 (hclos : ∀ j oj, ops[j]? = some oj -> late j = true -> ∃ e ∈ oj.after, Region.binds .any e = true /\ (e.on = i \/ late e.on = true)) :
 ∀ (fuel : Nat) (listed : Array Bool) (e : Env) (σ : Obs) (e1 : Env) (σ1 : Obs), (∀ j, late j = true -> listed.getD j false = false) ->
  (∀ j oj, ops[j]? = some oj -> j ≠ i -> listed.getD j true = false -> (∀ e ∈ oj.after, Region.binds .any e = true -> e.on ≠ i) -> oi.apart ops oj = true /\ (late j = false -> (ef i = false \/ ef j = false) /\ keysOkB ops K i j oi oj = true)) ->
  i ∈ Region.ready .any ops listed -> LStep cx ops Φ ef K I i oi e σ e1 σ1 -> anyL cx ops Φ ef K I Q fuel (listed.setIfInBounds i true) e1 σ1 -> anyL cx ops Φ ef K I Q (fuel + 1) listed e σ := by
 intro fuel
 induction fuel with
 | zero =>
  intro listed e σ e1 σ1 _ _ hr hy H
  refine ⟨fun h => (by rw [h] at hr; cases hr), fun j hj o ho => ?_⟩
  by_cases hji : j = i
  ·subst hji
   rw [hi] at ho; cases ho
   exact ⟨e1, σ1, hy, H⟩
  ·have := ready_mono hj hji
   rw [H.1] at this
   cases this
 | succ fuel ih =>
  intro listed e σ e1 σ1 hlate hfree hr hy H
  refine ⟨fun h => (by rw [h] at hr; cases hr), fun j hj oj hoj => ?_⟩
  by_cases hji : j = i
  ·subst hji
   rw [hi] at hoj; cases hoj
   exact ⟨e1, σ1, hy, H⟩
  ·obtain ⟨e2, σ2, h1, h2⟩ := H.2 j (ready_mono hj hji) oj hoj
   obtain ⟨hjun, oj', hoj', hall⟩ := mem_ready.1 hj
   rw [hoj] at hoj'; cases hoj'
   have hnot : ∀ e ∈ oj.after, Region.binds .any e = true -> e.on ≠ i := fun e he hb heq => by
    have h1 := hall e he hb
    have h0 := (mem_ready.1 hr).1
    rw [heq] at h1
    rcases Nat.lt_or_ge i listed.size with h' | h'
    ·simp [h'] at h0 h1; rw [h0] at h1; cases h1
    ·simp [Array.getElem?_eq_none h'] at h1
   have hjl : late j = false := by
    cases hl : late j with
    | false => rfl
    | true =>
     obtain ⟨e, he, hb, hh⟩ := hclos j oj hoj hl
     rcases hh with hh | hh
     ·exact absurd hh (hnot e he hb)
     ·have h3 := hall e he hb
      rw [hlate _ hh] at h3
      simp at h3
   obtain ⟨hap, hss⟩ := hfree j oj hoj hji hjun hnot
   obtain ⟨hs1, hs2⟩ := hss hjl
   obtain ⟨a1, a2, a3⟩ := Oper.apart_spec hap
   have kl := keysOk_l hs2
   have kr := keysOk_r hs2
   have fin : ∀ ej σj, LStep cx ops Φ ef K I j oj e σ ej σj -> LStep cx ops Φ ef K I i oi ej σj e2 σ2 -> ∃ e' σ', LStep cx ops Φ ef K I j oj e σ e' σ' /\ anyL cx ops Φ ef K I Q (fuel + 1) (listed.setIfInBounds j true) e' σ' := fun ej σj hsj hsi => by
    refine ⟨ej, σj, hsj, ?_⟩
    refine ih (listed.setIfInBounds j true) ej σj e2 σ2 (fun k hk => ?_) (fun k ok hk hki hun hno => ?_) (ready_mono hr (Ne.symm hji)) hsi ?_
    ·have hkj : j ≠ k := fun h => by rw [h, hk] at hjl; simp at hjl
     rw [getD_set_ne false hkj]
     exact hlate k hk
    ·refine hfree k ok hk hki ?_ hno
     by_cases hjk : j = k
     ·subst hjk; exact hjun
     ·rw [getD_set_ne true hjk] at hun; exact hun
    ·rw [Array.setIfInBounds_comm _ _ hji]
     exact h2
   have look1 : ∀ {s : S} t, t ∈ oj.looksAt ops -> (e.put oi.dst s) t = e t := fun t ht => Yae a1 t ht
   have look2 : ∀ {s : S} t, t ∈ oi.looksAt ops -> (e.put oj.dst s) t = e t := fun t ht => Yae a3 t ht
   rcases hy with ⟨hgi, hei, s, hI, hopi, hcl, rfl, rfl⟩ | ⟨hgi, hei, rfl, rfl⟩ | ⟨hgi, hei, hi1, hi2, si, hki, hopi, hci, rfl⟩
   ·rcases h1 with ⟨hgj, hej, sj, hIj, hopj, hclj, rfl, rfl⟩ | ⟨hgj, hej, rfl, rfl⟩ | ⟨hgj, hej, hj1, hj2, sj, hkj, hopj, hcj, rfl⟩
    ·exact fin (e.put oj.dst sj) _ (.inl ⟨hgj.same fun t ht => (look1 t ht).symm, hej, sj, hIj, fun τ hτ => (hopj τ hτ).same fun t ht => (look1 t ht).symm, hclj, J, J⟩) (.inl ⟨hgi.same (fun t ht => look2 t ht), hei, s, hI, fun τ hτ => (hopi τ hτ).same (fun t ht => look2 t ht), hcl, (Env.put_comm e oi.dst oj.dst s sj a2), J⟩)
    ·exact fin (e.put oj.dst (.d (.v undef))) _ (.inr (.inl ⟨hgj.same fun t ht => (look1 t ht).symm, hej, J, J⟩)) (.inl ⟨hgi.same (fun t ht => look2 t ht), hei, s, hI, fun τ hτ => (hopi τ hτ).same (fun t ht => look2 t ht), hcl, (Env.put_comm e oi.dst oj.dst s _ a2), J⟩)
    ·have hkd : ∀ d, oi.dst = some d -> d ∉ sj.map Prod.fst := fun d hd hm => by rw [hkj] at hm; exact (kr d hm).2 hd
     have hkl : ∀ t, t ∈ oi.looksAt ops -> Env.puts e sj t = e t := fun t ht => puts_other fun hm => by rw [hkj] at hm; exact (kr t hm).1 ht
     refine fin (Env.puts e sj) σ2 (.inr (.inr ⟨hgj.same fun t ht => (look1 t ht).symm, hej, hj1, hj2, sj, hkj, hopj.same (fun t ht => (look1 t ht).symm) (fun t ht => ?_), hcj, J⟩)) (.inl ⟨hgi.same hkl, hei, s, hj2, fun τ hτ => (hopi τ hτ).same hkl, hcl, puts_put hkd, J⟩)
     cases hd : oi.dst with
     | none => rfl
     | some d => exact (Env.put_other _ _ _ _ (fun (he : t = d) => hkd d hd (he ▸ ht))).symm
   ·rcases h1 with ⟨hgj, hej, sj, hIj, hopj, hclj, rfl, rfl⟩ | ⟨hgj, hej, rfl, rfl⟩ | ⟨hgj, hej, hj1, hj2, sj, hkj, hopj, hcj, rfl⟩
    ·exact fin (e.put oj.dst sj) _ (.inl ⟨hgj.same fun t ht => (look1 t ht).symm, hej, sj, hIj, fun τ hτ => (hopj τ hτ).same fun t ht => (look1 t ht).symm, hclj, J, J⟩) (.inr (.inl ⟨hgi.same (fun t ht => look2 t ht), hei, (Env.put_comm e oi.dst oj.dst _ sj a2), J⟩))
    ·exact fin (e.put oj.dst (.d (.v undef))) _ (.inr (.inl ⟨hgj.same fun t ht => (look1 t ht).symm, hej, J, J⟩)) (.inr (.inl ⟨hgi.same (fun t ht => look2 t ht), hei, (Env.put_comm e oi.dst oj.dst _ _ a2), J⟩))
    ·have hkd : ∀ d, oi.dst = some d -> d ∉ sj.map Prod.fst := fun d hd hm => by rw [hkj] at hm; exact (kr d hm).2 hd
     have hkl : ∀ t, t ∈ oi.looksAt ops -> Env.puts e sj t = e t := fun t ht => puts_other fun hm => by rw [hkj] at hm; exact (kr t hm).1 ht
     refine fin (Env.puts e sj) σ2 (.inr (.inr ⟨hgj.same fun t ht => (look1 t ht).symm, hej, hj1, hj2, sj, hkj, hopj.same (fun t ht => (look1 t ht).symm) (fun t ht => ?_), hcj, J⟩)) (.inr (.inl ⟨hgi.same hkl, hei, puts_put hkd, J⟩))
     cases hd : oi.dst with
     | none => rfl
     | some d => exact (Env.put_other _ _ _ _ (fun (he : t = d) => hkd d hd (he ▸ ht))).symm
   ·have hkd : ∀ d, oj.dst = some d -> d ∉ si.map Prod.fst := fun d hd hm => by rw [hki] at hm; exact (kl d hm).2 hd
    have hkl : ∀ t, t ∈ oj.looksAt ops -> Env.puts e si t = e t := fun t ht => puts_other fun hm => by rw [hki] at hm; exact (kl t hm).1 ht
    have hke : ∀ {s : S} t, t ∈ si.map Prod.fst -> (e.put oj.dst s) t = e t := fun {s} t ht => by
     cases hd : oj.dst with
     | none => rfl
     | some d => exact Env.put_other _ _ _ _ (fun he => hkd d hd (he ▸ ht))
    rcases h1 with ⟨hgj, hej, sj, hIj, hopj, hclj, rfl, rfl⟩ | ⟨hgj, hej, rfl, rfl⟩ | ⟨hgj, hej, hj1, hj2, sj, hkj, hopj, hcj, rfl⟩
    ·exact fin (e.put oj.dst sj) σ (.inl ⟨hgj.same fun t ht => (hkl t ht).symm, hej, sj, hi1, fun τ hτ => (hopj τ hτ).same fun t ht => (hkl t ht).symm, hclj, J, J⟩) (.inr (.inr ⟨hgi.same (fun t ht => look2 t ht), hei, hi1, hi2, si, hki, hopi.same (fun t ht => look2 t ht) (fun t ht => hke t ht), hci, (puts_put hkd).symm⟩))
    ·exact fin (e.put oj.dst (.d (.v undef))) σ (.inr (.inl ⟨hgj.same fun t ht => (hkl t ht).symm, hej, J, J⟩)) (.inr (.inr ⟨hgi.same (fun t ht => look2 t ht), hei, hi1, hi2, si, hki, hopi.same (fun t ht => look2 t ht) (fun t ht => hke t ht), hci, (puts_put hkd).symm⟩))
    ·rcases hs1 with h | h
     ·rw [hei] at h; simp at h
     ·rw [hej] at h; simp at h
def Region.keysFree (ops : Array Oper) (ef : Nat -> Bool) (K : Nat -> List Nat) (listed : Array Bool) (k : Nat) (late : Nat -> Bool) : Bool :=
 (List.range ops.size).all fun j =>
  (!(late j) || (!(listed.getD j false) && ((ops[j]?).map fun o => o.after.any fun e => Region.binds .any e && (Nat.beq e.on k || late e.on)).getD true)) &&
  (Nat.beq j k || listed.getD j true || late j || Region.edge ops j k || ((!(ef k) || !(ef j)) && ((ops[k]?).bind fun oi => (ops[j]?).map fun oj => keysOkB ops K k j oi oj).getD false))
def Region.keysFrom (ops : Array Oper) (ef : Nat -> Bool) (K : Nat -> List Nat) : Nat -> Nat -> Array Bool -> Bool
 | 0, _, _ => true
 | fuel + 1, k, listed => Region.keysFree ops ef K listed k (Region.lateB ops k) && Region.keysFrom ops ef K fuel (k + 1) (listed.setIfInBounds k true)
theorem Region.keysFree_spec {ops : Array Oper} {ef : Nat -> Bool} {K : Nat -> List Nat} {listed : Array Bool} {k : Nat} {oi : Oper} {late : Nat -> Bool} (h : Region.keysFree ops ef K listed k late = true) (hk : ops[k]? = some oi) (hl : ∀ j, late j = true -> j < ops.size) :
 (∀ j oj, ops[j]? = some oj -> late j = true -> ∃ e ∈ oj.after, Region.binds .any e = true /\ (e.on = k \/ late e.on = true)) /\ (∀ j, late j = true -> listed.getD j false = false) /\
 ∀ j oj, ops[j]? = some oj -> j ≠ k -> listed.getD j true = false -> (∀ e ∈ oj.after, Region.binds .any e = true -> e.on ≠ k) -> late j = false -> (ef k = false \/ ef j = false) /\ keysOkB ops K k j oi oj = true := by
 have h1 : ∀ j, j < ops.size -> _ := fun j hj => List.all_eq_true.1 h j (List.mem_range.2 hj)
 simp only [ZbA] at h1
 refine ⟨fun j oj hoj hlj => ?_, fun j hlj => ?_, fun j oj hoj hjk hun hno hlj => ?_⟩
 ·have h2 := (h1 j (ZaS.1 hoj).1).1
  rw [hlj, hoj] at h2
  simp only [Bool.not_true, Bool.false_or, Option.map_some, Option.getD_some, ZbA, Array.any_eq_true'] at h2
  obtain ⟨_, e, he, hb⟩ := h2
  simp only [Bool.or_eq_true] at hb
  exact ⟨e, he, hb.1, hb.2.imp Nat.eq_of_beq_eq_true (fun x => x)⟩
 ·have h2 := (h1 j (hl j hlj)).1
  rw [hlj] at h2
  simp only [Bool.not_true, Bool.false_or, ZbA, Bool.not_eq_true'] at h2
  exact h2.1
 ·have h2 := (h1 j (ZaS.1 hoj).1).2
  have hb : Nat.beq j k = false := by rw [Bool.eq_false_iff]; exact fun hh => hjk (Nat.eq_of_beq_eq_true hh)
  rw [hb, hun, hlj, hk, hoj] at h2
  simp only [Bool.false_or, Bool.or_eq_true, ZbA, Bool.not_eq_true', Option.bind_some, Option.map_some, Option.getD_some] at h2
  rcases h2 with h2 | h2
  ·obtain ⟨o, ho, e, he, hb2, heq⟩ := Region.edge_spec h2
   rw [hoj] at ho; cases ho
   exact absurd heq (hno e he hb2)
  ·exact h2
theorem anyL_lex {cx : Cx} {ops : Array Oper} {Φ : List Fc} {ef : Nat -> Bool} {K : Nat -> List Nat} {I : Obs -> Prop} (hK : ∀ k, ef k = false -> K k = []) {Q : Env -> Obs -> Prop} : ∀ (l : List Oper) (k : Nat) (listed : Array Bool) (e : Env) (σ : Obs), (∀ j, l[j]? = ops[k + j]?) ->
 Region.lexFrom .any ops l.length k listed = true -> Region.keysFrom ops ef K l.length k listed = true -> LRun cx ops Φ ef K I k l e σ Q -> anyL cx ops Φ ef K I Q l.length listed e σ
 | [], _, _, _, _, _, hB, _, h => ⟨by simpa [Region.lexFrom] using hB, h⟩
 | o :: l, k, listed, e, σ, hl, hB, hS, h => by
  have h0 : ops[k]? = some o := by simpa using (hl 0).symm
  simp only [List.length_cons, Region.lexFrom, ZbA] at hB
  simp only [List.length_cons, Region.keysFrom, ZbA] at hS
  obtain ⟨⟨hr, hf⟩, hB'⟩ := hB
  have hl' : ∀ j, l[j]? = ops[k + 1 + j]? := fun j => by have := hl (j + 1); simpa [Nat.add_assoc, Nat.add_comm 1 j] using this
  obtain ⟨_, e', σ', hs, hq⟩ := h
  have hgo := anyL_lex hK l (k + 1) _ _ _ hl' hB' hS.2 hq
  obtain ⟨k1, k2, k3⟩ := Region.keysFree_spec hS.1 h0 (fun j hj => by
   unfold Region.lateB at hj
   simp only [ZbA, Nat.blt_eq] at hj
   exact hj.1)
  exact anyL_first hK h0 _ k1 l.length listed e σ e' σ' k2 (fun j oj hj hji hun hno => ⟨Region.free_spec h0 hf j oj hj hji hun hno, fun hl => k3 j oj hj hji hun hno hl⟩) (by simpa using hr) hs hgo
theorem LRun.dsts {cx : Cx} {ops : Array Oper} {Φ : List Fc} {ef : Nat -> Bool} {K : Nat -> List Nat} {I : Obs -> Prop} {Q : Env -> Obs -> Prop} : ∀ (l : List Oper) (k : Nat) (e : Env) (σ : Obs), LRun cx ops Φ ef K I k l e σ Q -> ∀ o ∈ l, DstOk cx.N o
 | [], _, _, _, _, o, ho => by cases ho
 | x :: l, k, e, σ, h, o, ho => by
  obtain ⟨h1, _, _, _, h2⟩ := h
  cases ho with
  | head => exact h1
  | tail _ ho => exact LRun.dsts l _ _ _ h2 o ho
theorem Clean.put {Φ : List Fc} {e : Env} {dst : Option Nat} {s : S} (h : Clean Φ e) (hs : ∀ f ∈ Φ, (∃ t, dst = some t /\ f.slots.contains t = true) \/ s.kill f.id = s) : Clean Φ (e.put dst s) := fun f hf t ht => by
 cases dst with
 | none => exact h f hf t ht
 | some d =>
  by_cases hd : t = d
  ·subst hd
   rw [Env.put_same]
   rcases hs f hf with ⟨t', h1, h2⟩ | h1
   ·cases h1; rw [ht] at h2; simp at h2
   ·exact h1
  ·rw [Env.put_other _ _ _ _ hd]; exact h f hf t ht
theorem Clean.puts {Φ : List Fc} : ∀ {l : List (Nat × S)} {e : Env}, Clean Φ e -> (∀ p ∈ l, ∀ f ∈ Φ, f.slots.contains p.1 = true \/ p.2.kill f.id = p.2) -> Clean Φ (Env.puts e l)
 | [], _, h, _ => h
 | p :: l, e, h, hs => by
  unfold Env.puts
  refine Clean.puts (fun f hf t ht => ?_) fun q hq => hs q (List.mem_cons_of_mem _ hq)
  by_cases hd : t = p.1
  ·subst hd
   rw [Env.put_same]
   rcases hs p (by simp) f hf with h1 | h1
   ·rw [ht] at h1; simp at h1
   ·exact h1
  ·rw [Env.put_other _ _ _ _ hd]; exact h f hf t ht
theorem wpAny_of_L {cx : Cx} {ops : Array Oper} {Φ : List Fc} {ef : Nat -> Bool} {K : Nat -> List Nat} {I : Obs -> Prop} {Q : Post} (hQ : ∀ ex e σ, ex ≠ .normal -> ¬ Q ex e σ) (hd : ∀ o ∈ ops.toList, DstOk cx.N o) : ∀ (fuel : Nat) (listed : Array Bool) (e : Env) (σ : Obs) (a : Act) (w : World), R cx e σ a w -> Clean Φ e ->
 anyL cx ops Φ ef K I (fun e σ => Q .normal e σ) fuel listed e σ -> wpAny cx.P .any ops (lift cx Q) fuel listed a w
 | 0, _, e, σ, _, _, hr, _, h => ⟨h.1, e, σ, h.2, hr⟩
 | fuel + 1, listed, e, σ, a, w, hr, hc, h => by
  refine ⟨fun h0 => ⟨e, σ, h.1 h0, hr⟩, fun i hi => ?_⟩
  obtain ⟨_, o, ho, _⟩ := mem_ready.1 hi
  obtain ⟨e', σ', hs, hk⟩ := h.2 i hi o ho
  have hdo : DstOk cx.N o := hd o (Array.mem_toList_iff.2 (Array.mem_of_getElem? ho))
  unfold wpOp
  simp only [ho]
  have hR := hr
  obtain ⟨F, ρ, hr⟩ := hr
  rcases hs with ⟨hg, _, s, hI, hop, hcl, rfl, rfl⟩ | ⟨hg, _, rfl, rfl⟩ | ⟨hg, _, _, _, si, _, hop, hci, rfl⟩
  ·rw [if_pos (hg.wanted (fun t _ => hr.env t))]
   refine .inl (wp_to ?_ (fun _ _ _ => False.elim) (hop _ hI F ρ w a hr.lt (fun t _ => hr.env t) hr.obs))
   rintro a' w' ⟨v, F', rfl, hv, he⟩
   exact wpAny_of_L hQ hd fuel _ _ _ _ _ ⟨F', ρ, hr.put he hv hdo⟩ (hc.put hcl) hk
  ·rw [if_neg (by rw [hg.wanted (fun t _ => hr.env t)]; simp)]
   exact wpAny_of_L hQ hd fuel _ _ _ _ _ ⟨F, ρ, hr.put (Ext.refl hr.lt) Ybt hdo⟩ (hc.put fun _ _ => .inr J) hk
  ·have hw : Region.wanted o (yielded ops a.tmps) = true := hg.wanted (fun t _ => hr.env t)
   rw [if_pos hw]
   have h4 := hop e (fun _ _ => rfl) (fun _ _ => rfl) hc a w hR
   unfold wpList at h4
   rw [if_pos hw] at h4
   refine h4.imp (wp_to2 ?_ ?_) fun h => ⟨h.1, ?_⟩
   ·rintro a' w' ⟨e', σ'', ⟨rfl, rfl⟩, hr'⟩
    exact wpAny_of_L hQ hd fuel _ _ _ _ _ hr' (hc.puts hci) hk
   ·rintro ex a' w' hne ⟨e', σ'', hq, _⟩
    cases ex <;> first | exact absurd rfl hne | exact hq.elim
   ·obtain ⟨a', w', e', σ'', hq, _⟩ := h.2
    exact hq.elim
def Env.killOut (f : Fc) (e : Env) : Env := fun t => match f.slots.contains t with | true => e t | false => (e t).kill f.id
def Env.killIds : List Fc -> Env -> Env
 | [], e => e
 | f :: l, e => Env.killIds l (e.killOut f)
theorem killOut_keep {f : Fc} {g : Fc} {e : Env} (h : Clean [g] e) : Clean [g] (e.killOut f) := fun g' hg t ht => by
 have h1 := h g' hg t ht
 unfold Env.killOut
 cases f.slots.contains t with
 | true => exact h1
 | false => show S.kill g'.id (S.kill f.id (e t)) = S.kill f.id (e t); rw [kill_comm, h1]
theorem killIds_keep {g : Fc} : ∀ {Φ : List Fc} {e : Env}, Clean [g] e -> Clean [g] (Env.killIds Φ e)
 | [], _, h => h
 | _ :: l, _, h => killIds_keep (Φ := l) (killOut_keep h)
theorem killOut_clean (f : Fc) (e : Env) : Clean [f] (e.killOut f) := fun g hg t ht => by
 obtain rfl := ZmS.1 hg
 unfold Env.killOut
 rw [ht]
 exact S.kill_kill g.id (e t)
theorem killIds_clean : ∀ (Φ : List Fc) (e : Env), Clean Φ (Env.killIds Φ e)
 | g :: l, e, f, hf, t, ht => by
  rcases List.mem_cons.1 hf with rfl | hf
  ·exact killIds_keep (Φ := l) (killOut_clean f e) f (by simp) t ht
  ·exact killIds_clean l (e.killOut g) f hf t ht
theorem R.killOut {cx : Cx} {σ : Obs} {a : Act} {w : World} {e : Env} (f : Fc) : R cx e σ a w -> R cx (e.killOut f) σ a w
 | ⟨F, ρ, h⟩ => by
  have henv : ∀ t, RepS F ρ w (a.tmps.getD t undef) (e.killOut f t) := fun t => by
   unfold Env.killOut
   cases f.slots.contains t with
   | true => exact h.env t
   | false => exact (h.killEnv f.id).env t
  exact ⟨F, ρ, h.size, h.defers, h.lt, h.base, h.new, h.below, h.hB, henv, h.obs, h.up, h.kown, h.fixed⟩
theorem R.killIds {cx : Cx} {σ : Obs} {a : Act} {w : World} : ∀ (Φ : List Fc) {e : Env}, R cx e σ a w -> R cx (Env.killIds Φ e) σ a w
 | [], _, h => h
 | f :: l, _, h => R.killIds l (R.killOut f h)
theorem AWP.drawLTail {cx : Cx} {id : Nat} {l : List Oper} {e : Env} {σ : Obs} {Q : Post} (k : Nat) (Φ : List Fc) (E : List (Nat × List Nat)) (I : Obs -> Prop) (hm : cx.P.follows .mixedOrders = true) (hB : Region.lexB .any (l.take k).toArray = true)
 (hS : Region.keysFrom (l.take k).toArray (fun k => E.any fun p => Nat.beq p.1 k) (fun k => ((E.find? fun p => Nat.beq p.1 k).map Prod.snd).getD []) (l.take k).length 0 (Array.replicate (l.take k).length false) = true) (hC : Region.chainB l.toArray k = true)
 (h : LRun cx (l.take k).toArray Φ (fun k => E.any fun p => Nat.beq p.1 k) (fun k => ((E.find? fun p => Nat.beq p.1 k).map Prod.snd).getD []) I 0 (l.take k) (Env.killIds Φ e) σ (fun e σ => AOps cx l.toArray (l.drop k) e σ Q)) : AWP cx (.region id l.toArray true) e σ Q := by
 intro a w ⟨F, ρ, hr⟩
 simp only [Region.lexB, ZbA] at hB
 have hch := Chain.of hC
 have hkl : k <= l.length := by simpa using hch.le
 have hK : ∀ k, (E.any fun p => Nat.beq p.1 k) = false -> ((E.find? fun p => Nat.beq p.1 k).map Prod.snd).getD [] = [] := fun k hk => by
  have : E.find? (fun p => Nat.beq p.1 k) = none := List.find?_eq_none.2 fun p hp hh => by
   have : (E.any fun p => Nat.beq p.1 k) = true := List.any_eq_true.2 ⟨p, hp, hh⟩
   rw [hk] at this
   simp at this
  rw [this]; rfl
 have h1 := anyL_lex hK (l.take k) 0 (Array.replicate (l.take k).toArray.size false) _ σ (by simp) (by simpa using hB.2) (by simpa using hS) h
 have h2 := wpAny_of_L (cx := cx) (ops := (l.take k).toArray) (Q := fun ex e σ => match ex with | .normal => AOps cx l.toArray (l.drop k) e σ Q | _ => False) (fun ex e σ hne hq => by cases ex <;> first | exact absurd rfl hne | exact hq.elim) (by simpa using LRun.dsts _ 0 _ σ h) _ _ _ σ a _ (R.killIds Φ ⟨F, ρ, hr.drew⟩) (killIds_clean Φ e) h1
 refine wp_region_any hm (wpAny_split hch (ops0 := (l.take k).toArray) (by simp; omega) (fun j hj => by simp [hj]) ?_ ?_ (l.take k).length _ _ _ _ _ (by simp; omega) (by simp) ?_ ?_ ?_ (by simp; omega) h2)
 ·rintro a w ⟨e, σ, h3, h4⟩
  have := h3 a w h4
  simpa using this
 ·rintro ex a w hne ⟨e, σ, h3, _⟩
  cases ex <;> first | exact absurd rfl hne | exact h3.elim
 ·intro j hj d
  have h5 : j < l.length := by omega
  have h6 : j < min k l.length := by omega
  simp [ZaD, h5, h6]
 ·intro j hj hj2
  have : j < l.length := by simpa using hj2
  simp [ZaD, this]
 ·intro i o ho hi
  have : i < l.length := by simpa using (ZaS.1 ho).1
  simp [ZaD, this] at hi
section
variable {cx : Cx} {ops : Array Oper} {Φ : List Fc} {ef : Nat -> Bool} {K : Nat -> List Nat} {I : Obs -> Prop} {n : Nat} {o : Oper} {l : List Oper} {e : Env} {σ : Obs} {Q : Env -> Obs -> Prop}
def cleanS (t : Nat) (s : S) : List Fc -> Prop
 | [] => True
 | f :: l => (f.slots.contains t = true \/ s.kill f.id = s) /\ cleanS t s l
theorem cleanS.all {t : Nat} {s : S} : ∀ {l : List Fc}, cleanS t s l -> ∀ f ∈ l, f.slots.contains t = true \/ s.kill f.id = s
 | [], _, f, hf => by cases hf
 | g :: l, h, f, hf => by
  cases hf with
  | head => exact h.1
  | tail _ hf => exact cleanS.all h.2 f hf
theorem LRun.nil (h : Q e σ) : LRun cx ops Φ ef K I n [] e σ Q := h
theorem LRun.step {s : S} {t : Nat} (hg : GW ops o e true) (ht : o.dst = some t) (hd : Nat.blt t cx.N = true) (hI : I σ) (h : ∀ τ, I τ -> AOp cx.P cx.B ops o e τ s) (k : LRun cx ops Φ ef K I (n + 1) l (e.put (some t) s) σ Q) (he : ef n = false := by rfl) (hc : cleanS t s Φ := by first | exact ⟨.inr rfl, trivial⟩ | exact ⟨.inl rfl, trivial⟩) : LRun cx ops Φ ef K I n (o :: l) e σ Q :=
 ⟨by unfold DstOk; rw [ht]; exact hd, _, _, .inl ⟨hg, he, s, hI, h, fun f hf => (hc.all f hf).imp (fun h => ⟨t, ht, h⟩) id, rfl, rfl⟩, by rw [ht]; exact k⟩
theorem LRun.eff {si : List (Nat × S)} {σ' : Obs} (hg : GW ops o e true) (hd : DstOk cx.N o) (h1 : I σ) (h2 : I σ') (h : GE cx ops Φ o e σ si σ') (k : LRun cx ops Φ ef K I (n + 1) l (Env.puts e si) σ' Q) (hc : ∀ p ∈ si, ∀ f ∈ Φ, f.slots.contains p.1 = true \/ p.2.kill f.id = p.2) (he : ef n = true := by rfl) (hk : si.map Prod.fst = K n := by rfl) : LRun cx ops Φ ef K I n (o :: l) e σ Q :=
 ⟨hd, _, _, .inr (.inr ⟨hg, he, h1, h2, si, hk, h, hc, rfl⟩), k⟩
theorem triple_eq {id a b c : Nat} {e0 e : Env} (hab : a ≠ b) (hac : a ≠ c) (hbc : b ≠ c) (hb : e0 b = e b) (hcc : e0 c = e c) (hc : ∀ t, t ≠ a -> t ≠ b -> t ≠ c -> (e0 t).kill id = e0 t) : (e0.kill id).put (some a) (.own id) = Env.puts e0 [(c, (e c).kill id), (b, (e b).kill id), (a, .own id)] := by
 funext t
 show _ = (((e0.put (some c) ((e c).kill id)).put (some b) ((e b).kill id)).put (some a) (.own id)) t
 by_cases h1 : t = a
 ·subst h1; rw [Env.put_same, Env.put_same]
 ·rw [Env.put_other _ _ _ _ h1, Env.put_other _ _ _ _ h1]
  by_cases h2 : t = b
  ·subst h2; rw [Env.put_same]; show (e0 t).kill id = _; rw [hb]
  ·rw [Env.put_other _ _ _ _ h2]
   by_cases h3 : t = c
   ·subst h3; rw [Env.put_same]; show (e0 t).kill id = _; rw [hcc]
   ·rw [Env.put_other _ _ _ _ h3]; exact hc t h1 h2 h3
theorem GE.append3 {s x : Operand} {t ee size bytes dst : Nat} {z : Value} {els els2 : List (List D)} {σ' : Obs} (id b c : Nat) {sl : List Nat} (hΦ : ⟨id, sl⟩ ∈ Φ) (hsl : ∀ t, t ≠ dst -> t ≠ b -> t ≠ c -> sl.contains t = false) (hab : dst ≠ b) (hac : dst ≠ c) (hbc : b ≠ c) (hg : o.guard = none)
 (ho : o.op = .call { callee := .builtin .append, args := #[s, x], argTypes := #[t, t] }) (hd : o.dst = some dst) (hdn' : Nat.blt dst cx.N = true) (T : ElemTy cx.P t ee size bytes z) (hs : e.ev s = .own id) (hm : (id, Ob.row ee size els) ∈ σ)
 (hx : e.ev x = .d (.sl els2)) (hsz : ∀ y ∈ els2, y.length = size) (hb : (els.length + els2.length) * bytes <= 140737488355328) (hn : els.length + els2.length <= 9223372036854775807) (hσ : Obs.upd id (.row ee size (els ++ els2)) (Obs.kill id σ) = σ') (hfx : cx.free id = true := by rfl) :
 GE cx ops Φ o e σ [(c, (e c).kill id), (b, (e b).kill id), (dst, .own id)] σ' := fun e0 h1 h2 h3 => by
 have e1 : e0.ev s = e.ev s := ev_same fun t hxt => h1 t (YaM (by rw [ho, <- hxt]; simp [Op.operands, Call.operands]))
 have e2 : e0.ev x = e.ev x := ev_same fun t hxt => h1 t (YaM (by rw [ho, <- hxt]; simp [Op.operands, Call.operands]))
 have hp := triple_eq (id := id) (e0 := e0) (e := e) hab hac hbc (h2 b (by simp)) (h2 c (by simp)) fun t ht1 ht2 ht3 => h3 _ hΦ t (hsl t ht1 ht2 ht3)
 exact AOps.append hg ho hd hdn' T (e1.trans hs) hm (e2.trans hx) hsz hb hn (.nil ⟨hp, hσ⟩) hfx
end
theorem EOp.store {cx : Cx} {ops : Array Oper} {o : Oper} {e : Env} {σ : Obs} {t id off size : Nat} {x y : Operand} {d : D} {ss : List S} (ht : o.dst = none) (ho : o.op = .store t x y) (hs : ∀ w, (sizeOf t).run cx.P w = .ok size w) (hx : e.ev x = .ptr id off) (hm : (id, Ob.cells ss) ∈ σ) (hy : e.ev y = .d d) (h1 : d.one = true) (hl : d.parts.length = size)
 (hle : off + size <= ss.length) : EOp cx ops o e σ (Obs.upd id (.cells (ss.take off ++ d.parts.map S.d ++ ss.drop (off + size))) σ) := by
 intro F ρ a w e0 hr ha
 have hop : ∀ y ∈ o.op.operands.toList, RepS F ρ w (a.eval y) (e.ev y) := fun y hy => YaC fun t ht => ha t (YaM (by rw [<- ht]; exact hy))
 have r1 := hop x (by rw [ho]; simp [Op.operands])
 have r2 := hop y (by rw [ho]; simp [Op.operands])
 rw [hx] at r1
 rw [hy] at r2
 obtain ⟨h3, h4⟩ := Ybd (Yao r2) h1
 obtain ⟨g, ty, cs, hρ, hB, hF, hh, hcl, hcs⟩ := hr.obs.ok _ hm
 dsimp only at hρ
 have hxv := YbX r1 (g := g) (by rw [hρ]; rfl)
 have hsz : (a.eval y).cells.size = size := by have := h3.1; rw [ZaL] at this; omega
 obtain ⟨w', h5, h6, h7⟩ := YbB (P := cx.P) (off := off) hs hsz hh (by omega) h4
 unfold Oper.wp execOp
 simp only [ho, Instr.storeAt, hxv, Instr.sureAddr, Sem.run_bind, Sem.run_pure, Result.andThen_ok, h5]
 refine ⟨by rw [ht]; rfl, fun e2 hr2 => ⟨F, ρ, ?_⟩⟩
 refine hr2.write hρ hm hB hF h6 h7 (by simp; omega) (fun j hj hj' => by
  have hlen : (a.eval y).cells.toList.length = size := by rw [ZaL]; exact hsz
  by_cases j1 : j < off
  ·rw [ZgL (by simp; omega), ZgL (by simp; omega), ZgL (by simp; omega), ZgL (by simp; omega), List.getElem_take, List.getElem_take]
   exact hcs j (by omega) (by omega)
  ·by_cases j2 : j < off + size
   ·rw [ZgL (by simp; omega), ZgR (by simp; omega), ZgL (by simp; omega), ZgR (by simp; omega), ZgP]
    have e1 : (List.take off cs).length = off := by simp; omega
    have e2 : (List.take off ss).length = off := by simp; omega
    simp only [e1, e2]
    exact ⟨h4 _ (ZgM _), .d (h3.2 _ _ _)⟩
   ·rw [ZgR (by simp; omega), ZgR (by simp; omega), List.getElem_drop, List.getElem_drop]
    have e1 : (List.take off cs ++ (a.eval y).cells.toList).length = off + size := by simp; omega
    have e2 : (List.take off ss ++ d.parts.map S.d).length = off + size := by simp; omega
    simp only [e1, e2]
    exact hcs _ _ _)
end
section
open Go.RowKit Go.Shelf
theorem Ya5 {P : Program} (w : World) (dT sT ty elem : TypeId) (size b o dLen dCap : Nat) (a : Addr) (sLen sCap : Nat) (cs : List Value)
 (hu : P.underlying dT = some (.slice elem)) (hs : (P.info? elem).map (·.size) = some size) (hn : cs.length = Nat.min sLen dLen * size)
 (hsrc : ∀ j v, cs[j]? = some v -> w.cell? (a.add j) = some v) (hc : ∀ j, j < cs.length -> (w.cell? ⟨b, o + j, none⟩).isSome = true) (hf : ∀ j, j < cs.length -> w.frozen? ⟨b, o + j, none⟩ = false) (h1 : ∀ v ∈ cs, v.oneCell' = true) :
 (Builtin.copy_ #[dT, sT] ty #[.slice (some ⟨b, o, none⟩) dLen dCap, .slice (some a) sLen sCap]).run P w = .ok (goInt (Nat.min sLen dLen)) (w.setCells b o cs) := by
 have hl := run_firstCells_some (P := P) w size (Nat.min sLen dLen) a sLen sCap cs hn hsrc
 have hst := run_storeCells_cells (P := P) b o cs 0 w (by simpa using hc) (by simpa using hf) h1
 cases hq : P.info? elem with
 | none => simp [hq] at hs
 | some i =>
  have hi : i.size = size := by simpa [hq] using hs
  simp only [Nat.min_def] at hl
  simp [Builtin.copy_, run_underlying hu, Builtin.lenOf, sizeOf, typeInfo, hq, hi, Nat.min_def, hl, hst]
theorem ins_takeS {xs F x : List Value} {i n s : Nat} (hn : xs.length = n) (hi : i <= n) (hx : x.length = s) (h1 : ∀ k, k < i -> F[k]? = xs[k]?) (h2 : ∀ k, k < s -> F[i + k]? = x[k]?) (h3 : ∀ k, i <= k -> k < n -> F[k + s]? = xs[k]?) : F.take (n + s) = xs.take i ++ x ++ xs.drop i := by
 apply List.ext_getElem?
 intro k
 have hL : (F.take (n + s))[k]? = if k < n + s then F[k]? else none := by rw [ZgT]
 have hT : (xs.take i).length = i := by rw [ZlT]; omega
 rw [hL, get3, hT, hx]
 by_cases k1 : k < i
 ·rw [if_pos (by omega), if_pos k1, h1 k k1, ZgT, if_pos k1]
 ·rw [if_neg k1]
  by_cases k2 : k < i + s
  ·rw [if_pos (by omega), if_pos k2]
   have := h2 (k - i) (by omega)
   rw [show i + (k - i) = k by omega] at this
   exact this
  ·rw [if_neg k2]
   by_cases k3 : k < n + s
   ·rw [if_pos k3, ZgO]
    have := h3 (k - s) (by omega) (by omega)
    rw [show k - s + s = k by omega] at this
    rw [this]
    congr 1
    omega
   ·rw [if_neg k3, List.getElem?_eq_none (by simp; omega)]
section
variable {cx : Cx} {e : Env} {σ : Obs} {Q : Post}
end
section
variable {cx : Cx} {ops : Array Oper} {o : Oper} {rest : List Oper} {e : Env} {σ : Obs} {Q : Post}
theorem AOps.buildS {t el size bytes dst : Nat} {z : Value} {x : Operand} {d : D} (id : Nat) (hg : o.guard = none) (ht : o.dst = some dst) (hdn : Nat.blt dst cx.N = true) (ho : o.op = .buildSlice t 1 #[(0, x)]) (T : ElemTy cx.P t el size bytes z) (hsz : Nat.ble size 1000 = true) (hx : e.ev x = .d d) (h1 : d.one = true) (h2 : d.parts.length = size) (hid : Obs.fresh id σ = true)
 (k : AOps cx ops rest ((e.kill id).put (some dst) (.own id)) ((id, .row el size [d.parts]) :: Obs.kill id σ) Q) (hfx : cx.free id = true := by rfl) : AOps cx ops (o :: rest) e σ Q := by
 intro a w ⟨F, ρ, hr⟩
 have hsz' : size <= 1000 := by simpa [Nat.ble_eq] using hsz
 have hdn' : dst < cx.N := by simpa [Nat.blt_eq] using hdn
 have r1 := YaC (e := e) (x := x) (a := a) (fun t _ => hr.env t)
 rw [hx] at r1
 obtain ⟨h3, h4⟩ := Ybd (Yao r1) h1
 have hcl : (a.eval x).cells.toList.length = size := by rw [h3.1]; exact h2
 obtain ⟨c, hc⟩ : ∃ c, c = (a.eval x).cells.toList := ⟨_, rfl⟩
 have hcl' : c.length = size := by rw [hc]; exact hcl
 obtain ⟨i, hi, hz0, hz1, hz2⟩ := info_parts T.hi
 have hzc : z.cells.size = size := T.hz
 have hs0 : 0 < size := T.hs
 obtain ⟨cs', h5, h6⟩ := fill_inorder (size := size) 0 [(0, a.eval x)] ((Array.range size).map (fun j => z.cells[j % z.cells.size]!)) (fun j hj => by
  have hj0 : j = 0 := by simpa using hj
  subst hj0
  refine ⟨J, ?_⟩
  have : (a.eval x).cells.size = size := by rw [<- ZaL]; exact hcl
  simpa using this) (by simp)
 have h7 : cs'.toList = c := by
  have h9 : List.drop size (List.map (fun j => z.cells[j % z.cells.size]!) (List.range size)) = [] := List.drop_eq_nil_of_le (by simp)
  simpa [<- hc, h9] using h6
 have hcs : cs' = c.toArray := by rw [<- h7]
 have hrun : (execOp a.eval o).run cx.P w = .ok (.value (.slice (some ⟨w.heap.size, 0, none⟩) 1 1)) (w.alloc (.cells c.toArray el)) := by
  unfold execOp
  simp only [ho, Instr.buildSlice, Sem.run_bind, run_underlying T.ht, Result.andThen_ok, T.sizeOf]
  rw [if_neg (show ¬ (1 * size > 2 ^ 24) by omega), if_neg (show ¬ (1 * size = 0) by omega)]
  have hprog : (program : Sem Program).run cx.P w = .ok cx.P w := rfl
  simp only [Sem.run_bind, zeroValue, typeInfo, hprog, Result.andThen_ok, hi, Sem.run_pure, hz0]
  have h8 : Array.map (fun (p : Nat × Operand) => (p.fst, a.eval p.snd)) #[(0, x)] = #[(0, a.eval x)] := by simp
  rw [h8]
  rw [hcs] at h5
  simp only [Nat.one_mul, List.toArray] at h5 ⊢
  first | rw [h5] | skip
  rfl
 have hrow : (w.alloc (.cells c.toArray el)).ownsRow cx.B el size (.slice (some ⟨w.heap.size, 0, none⟩) 1 1) 1 c :=
  ⟨by rw [Nat.one_mul]; exact hcl', .inr ⟨w.heap.size, 1, c.toArray, rfl, hr.hB, heap_alloc_new w _, ZnR _, by unfold maxLen; omega, by simpa using hcl', by rw [Nat.one_mul, <- hcl']; simp⟩⟩
 have hfl : flat (fun _ j => c.getD j undef) 1 size = c := by
  unfold flat
  simp only [List.range_one, List.map_cons, List.map_nil, List.flatten_cons, List.flatten_nil, List.append_nil]
  apply List.ext_getElem
  ·simp [hcl']
  ·intro j hj hj2
   simp [ZgD, hj2]
 obtain ⟨ρ', h9⟩ := hr.newRow (v := .slice (some ⟨w.heap.size, 0, none⟩) 1 1) (els := [d.parts]) (Obs.fresh_spec hid) hdn' ((Below.refl _ _).alloc (ZnR _) (.cells c.toArray el))
  ⟨fun _ j => c.getD j undef, by dsimp only; rw [if_pos rfl]; show World.ownsRow _ _ _ _ _ _ (flat (fun _ j => c.getD j undef) 1 size); rw [hfl]; exact hrow, fun i hi => by
   have : i = 0 := by simpa using hi
   subst this
   simpa using h2, fun i hi j hj => by
   have : i = 0 := by simpa using hi
   subst this
   have hj' : j < d.parts.length := by simpa using hj
   have hjc : j < c.length := by omega
   have hgd : c.getD j undef = c[j] := by simp [ZgD, hjc]
   dsimp only
   rw [hgd]
   subst hc
   refine ⟨h4 _ (ZgM hjc), ?_⟩
   have h10 := h3.2 j hjc (by omega)
   have hE : Ext F w F (w.alloc (.cells (a.eval x).cells.toList.toArray el)) := Ext.of_below hr.lt ((Below.refl _ _).alloc (ZnR _) _)
   simpa using h10.ext hr.lt hE, fun g hg hf => by dsimp only at hg; rw [if_pos rfl] at hg; simp [blk] at hg; have := hr.lt g hf; omega⟩
  (fun g hg => by simp [blk] at hg; omega) hfx
 refine wpList_plain hg fun K hK => ?_
 unfold Oper.wp
 rw [hrun]
 have := k _ _ ⟨F, ρ', h9⟩
 rw [<- ht] at this
 exact hK _ _ this
theorem XRun.buildS {Φ : List Fr} {l : List Oper} {Qe : Env -> Prop} {t el size bytes : Nat} {z : Value} {x : Operand} {d : D} (f : Fr) (hf : f ∈ Φ) (hg : GW ops o e true) (hgn : o.guard = none) (ht : o.dst = some f.dst) (hd : Nat.blt f.dst cx.N = true) (ho : o.op = .buildSlice t 1 #[(0, x)]) (T : ElemTy cx.P t el size bytes z) (hsz : Nat.ble size 1000 = true) (hx : e.ev x = .d d) (h1 : d.one = true) (h2 : d.parts.length = size)
 (hob : f.ob = .row el size [d.parts]) (hs : f.s0 = .own f.id) (k : XRun cx ops σ Φ l (e.put (some f.dst) f.s0) Qe) (hfx : cx.free f.id = true := by rfl) : XRun cx ops σ Φ (o :: l) e Qe :=
 ⟨by unfold DstOk; rw [ht]; exact hd, _, .inl ⟨hg, .inl ⟨f, hf, ⟨ht, fun e0 σ _ he hfr => by
  have h3 : e0.ev x = e.ev x := ev_same fun t ht => he t (YaM (by rw [ho, ht]; simp [Op.operands]))
  exact AOps.buildS f.id hgn ht hd ho T hsz (h3.trans hx) h1 h2 hfr (.nil ⟨by rw [hs], by rw [hob]⟩) hfx⟩, J⟩⟩, by rw [ht]; exact k⟩
end
end
section
open Go.RowKit Go.Shelf Go.Lib
structure InsEndG (e size B : Nat) (w : World) (v : Value) (n : Nat) (ys : List Value) (v' : Value) (w' : World) : Prop where
 own : w'.ownsRow B e size v' n ys
 turn : Turn w w' (blk v)
 new : ∀ g, blk v' = some g -> blk v = some g \/ w.heap.size <= g
theorem blk_own {w : World} {B e size n : Nat} {v : Value} {xs : List Value} (h : w.ownsRow B e size v n xs) : v.ownBlock = blk v := by
 rcases h.2 with ⟨rfl, _⟩ | ⟨g, cap, cur, rfl, _⟩ <;> rfl
theorem YbR {e size B : Nat} {w w' : World} {v v' : Value} {n : Nat} {xs ys : List Value} (hown : w.ownsRow B e size v n xs) (h1 : w'.ownsRow B e size v' (n + 1) ys) (h2 : w.grownBy w' v.ownBlock) (h3 : v'.ownBlock = v.ownBlock \/ ∃ g, v'.ownBlock = some g /\ w.heap.size <= g) : InsEndG e size B w v (n + 1) ys v' w' := by
 rw [blk_own hown] at h2
 rw [blk_own hown, blk_own h1] at h3
 refine ⟨h1, ⟨h2.os, h2.tape, h2.output, h2.size, h2.block⟩, fun g hg => ?_⟩
 rcases h3 with h3 | ⟨g2, h3, h4⟩
 ·exact .inl (by rw [<- h3]; exact hg)
 ·rw [h3] at hg
  exact .inr (by have := Option.some.inj hg; omega)
structure InsT (P : Program) (f e size bytes : Nat) : Prop where
 ent : Enters P f
 calls : ∀ {B : Nat} {w : World} {v : Value} {n i vb vcap : Nat} {xs y : List Value} {ecur : Array Value} {ety : TypeId}, w.ownsRow B e size v n xs -> (∀ u ∈ xs, u.oneCell' = true) -> i <= n -> B <= w.heap.size -> (n + 1) * bytes <= 140737488355328 ->
  w.heap[vb]? = some (.cells ecur ety (0, 0)) -> 1 <= vcap /\ vcap <= 9223372036854775807 -> y.length = size -> ecur.toList.take size = y -> (∀ u ∈ y, u.oneCell' = true) -> blk v ≠ some vb ->
  Calls P f #[v, .int .i64 i, .slice (some ⟨vb, 0, none⟩) 1 vcap] w fun e' w' => ∃ v', e' = .returned v' /\ InsEndG e size B w v (n + 1) (xs.take (i * size) ++ y ++ xs.drop (i * size)) v' w'
theorem flat_ins (xs ys : Nat -> Nat -> Value) {n k : Nat} (s : Nat) (hk : k <= n) : (flat xs n s).take (k * s) ++ flat ys 1 s ++ (flat xs n s).drop (k * s) = flat (fun i j => if i < k then xs i j else if i = k then ys 0 j else xs (i - 1) j) (n + 1) s := by
 have h1 : flat xs n s = flat xs k s ++ flat (fun i => xs (k + i)) (n - k) s := by
  rw [Ya7, show k + (n - k) = n by omega]
  refine Ycp fun i j hi hj => ?_
  by_cases h : i < k
  ·rw [if_pos h]
  ·rw [if_neg h, show k + (i - k) = i by omega]
 have hl := Yal xs k s
 rw [h1, List.take_left' hl, List.drop_left' hl, Ya7, Ya7, show k + 1 + (n - k) = n + 1 by omega]
 refine Ycp fun i j hi hj => ?_
 by_cases h : i < k
 ·rw [if_pos (by omega), if_pos h, if_pos h]
 ·rw [if_neg h]
  by_cases h2 : i = k
  ·subst h2
   rw [if_pos (by omega), if_neg (by omega), if_pos rfl, Nat.sub_self]
  ·rw [if_neg (by omega), show k + (i - (k + 1)) = i - 1 by omega, if_neg h, if_neg h2]
theorem ins_get {α : Type} {l : List α} {c : α} {p i : Nat} (hp : p <= l.length) (hi : i < (l.take p ++ [c] ++ l.drop p).length) : (l.take p ++ [c] ++ l.drop p)[i] = if h : i < p then l[i]'(by omega) else if h2 : i = p then c else l[i - 1]'(by simp at hi; omega) := by
 have hT : (l.take p).length = p := by rw [ZlT]; omega
 have hi2 : i < l.length + 1 := by simp at hi; omega
 by_cases h1 : i < p
 ·rw [dif_pos h1, ZgL (by simp; omega), ZgL (by omega), List.getElem_take]
 ·rw [dif_neg h1]
  by_cases h2 : i = p
  ·subst h2
   rw [dif_pos rfl, ZgL (by simp; omega), ZgR (by omega)]
   simp
  ·rw [dif_neg h2, ZgR (by simp; omega), List.getElem_drop]
   congr 1
   simp
   omega
theorem Rep.turn {F : Nat -> Prop} {w w' : World} {x : Value} {d : D} {row : Option Nat} (h : Rep F w x d) (hF : ∀ b, F b -> b < w.heap.size) (hr : ∀ g, row = some g -> ¬ F g) (ht : Turn w w' row) : Rep F w' x d :=
 Yao (RepS.turn (ρ := fun _ => x) (.d h) hF hr ht fun b hb => hb)
section
variable {cx : Cx} {ops : Array Oper} {o : Oper} {rest : List Oper} {e : Env} {σ : Obs} {Q : Post}
theorem AOps.insertG {s i x : Operand} {ts : Array TypeId} {id idx ex dst k : Nat} {els : List (List D)} {y : List D} {m : Int} {fi ee sz by0 : Nat} (σ' : Obs) (T : InsT cx.P fi ee sz by0) (hg : o.guard = none) (ht : o.dst = some dst) (hdn : Nat.blt dst cx.N = true)
 (ho : o.op = .call { callee := .value (.func fi), args := #[s, i, x], argTypes := ts }) (hs : e.ev s = .own id) (hm : (id, Ob.row ee sz els) ∈ σ) (hi : e.ev i = .d (.v (.int .i64 m))) (hk : m = (k : Int)) (hkl : k <= els.length)
 (hx : e.ev x = .own idx) (hmx : (idx, Ob.row ex sz [y]) ∈ σ) (hne : idx ≠ id) (hb : (els.length + 1) * by0 <= 140737488355328)
 (hσ : ∀ p ∈ σ', p = (id, Ob.row ee sz (els.take k ++ [y] ++ els.drop k)) \/ ∃ q ∈ σ, q.1 ≠ id /\ p = (q.1, q.2.kill id))
 (q : AOps cx ops rest ((e.kill id).put (some dst) (.own id)) σ' Q) (hfx : cx.free id = true := by rfl) : AOps cx ops (o :: rest) e σ Q := by
 intro a w ⟨F, ρ, hr⟩
 have r1 := YaC (e := e) (x := s) (a := a) (fun t _ => hr.env t)
 have r2 := YaC (e := e) (x := i) (a := a) (fun t _ => hr.env t)
 have r3 := YaC (e := e) (x := x) (a := a) (fun t _ => hr.env t)
 rw [hs] at r1
 rw [hi] at r2
 rw [hx] at r3
 have v1 : a.eval s = ρ id := by generalize a.eval s = v at r1; cases r1; rfl
 have v2 := Ya0 r2
 have v3 : a.eval x = ρ idx := by generalize a.eval x = v at r3; cases r3; rfl
 obtain ⟨xs, hown, hlen, hrep, hnF⟩ := hr.obs.ok _ hm
 obtain ⟨ys, hox, hylen, hyrep, _⟩ := hr.obs.ok _ hmx
 dsimp only at hown hox hnF
 have hyl : y.length = sz := by simpa using hylen 0 (by simp)
 have hown' : w.ownsRow cx.B ee sz (ρ id) els.length (flat xs els.length sz) := hown
 have hox' : w.ownsRow cx.B ex sz (ρ idx) 1 (flat ys 1 sz) := hox
 rcases hox'.2 with ⟨_, h0⟩ | ⟨vb, vcap, ecur, hvb, _, hh, hn1, hvm, hcs, htk⟩
 ·simp at h0
 have one1 : ∀ u ∈ flat xs els.length sz, u.oneCell' = true := fun u hu => by
  obtain ⟨l, hl, hu⟩ := List.mem_flatten.1 hu
  obtain ⟨i, hi, rfl⟩ := ZmM.1 hl
  obtain ⟨j, hj, rfl⟩ := ZmM.1 hu
  have hi' : i < els.length := by simpa using hi
  exact (hrep i hi' j (by rw [hlen i hi']; simpa using hj)).1
 have one2 : ∀ u ∈ flat ys 1 sz, u.oneCell' = true := fun u hu => by
  obtain ⟨l, hl, hu⟩ := List.mem_flatten.1 hu
  obtain ⟨i, hi, rfl⟩ := ZmM.1 hl
  obtain ⟨j, hj, rfl⟩ := ZmM.1 hu
  have hi' : i = 0 := by simpa using hi
  subst hi'
  exact (hyrep 0 (by simp) j (by simp only [List.getElem_cons_zero, hyl]; simpa using hj)).1
 have hE : Enters cx.P fi := T.ent
 have hx' : (execOp a.eval o).run cx.P w = .ok (.enter fi #[a.eval s, a.eval i, a.eval x]) w := by
  obtain ⟨xs, hxs⟩ : ∃ xs : List Operand, xs = [s, i, x] := ⟨_, rfl⟩
  have ho' : o.op = .call { callee := .value (.func fi), args := xs.toArray, argTypes := ts } := by rw [ho, hxs]
  have h5 := hE (xs.map a.eval).toArray w
  have h6 : (execOp a.eval o).run cx.P w = .ok (.enter fi (xs.map a.eval).toArray) w := by
   unfold execOp
   simp only [ho', resolve, Deferred.ofValue, Act.eval, invoke, Sem.run_bind, Sem.run_pure, Result.andThen_ok]
   simpa using h5
  rw [hxs] at h6
  exact h6
 have hc := T.calls (i := k) (vb := vb) (vcap := vcap) (y := flat ys 1 sz) hown' one1 hkl hr.hB hb hh ⟨hn1, by unfold maxLen at hvm; omega⟩ (by rw [Yal, Nat.one_mul]) (by simpa using htk) one2 (fun he => hr.obs.apart _ hmx _ hm hne vb (by dsimp only; rw [hvb]; rfl) (by dsimp only; exact he))
 rw [v1, v2, v3, hvb, hk] at hx'
 refine wpList_plain hg fun K hK => ?_
 unfold Oper.wp
 rw [hx']
 refine hc.mono fun _ w' ⟨v', he, hI⟩ => ?_
 subst he
 have hlen2 : (els.take k ++ [y] ++ els.drop k).length = els.length + 1 := by simp; omega
 have hturn := hr.turn (ρ' := fun j => if j = id then v' else ρ j) (id := id) (ob := .row ee sz (els.take k ++ [y] ++ els.drop k)) (row := blk (ρ id)) (w' := w') (F' := F) (fun j hj => by simp [hj]) hI.turn hfx
  (fun g hg => ⟨hr.kown _ hm g hg, hnF g hg, fun p hp hpi => fun he => hr.obs.apart p hp _ hm hpi g he hg⟩) (fun b hb => hb) (fun b hb => .inl hb) (fun b hb => Nat.lt_of_lt_of_le (hr.lt b hb) hI.turn.size)
  ⟨fun i j => if i < k then xs i j else if i = k then ys 0 j else xs (i - 1) j, by
   dsimp only
   rw [if_pos rfl]
   have h6 := hI.own
   rw [flat_ins xs ys sz hkl] at h6
   rw [hlen2]
   exact h6, fun i hi => by
   rw [ins_get hkl hi]
   split
   ·exact hlen _ _
   ·split
    ·exact hyl
    ·exact hlen _ _, fun i hi j hj => by
   have hr7 : ∀ x d, Rep F w x d -> Rep F w' x d := fun x d h => h.turn hr.lt hnF hI.turn
   have hi2 : i < els.length + 1 := by rw [hlen2] at hi; exact hi
   have hg := ins_get hkl hi
   by_cases h1 : i < k
   ·rw [dif_pos h1] at hg
    simp only [if_pos h1]
    simp only [hg] at hj ⊢
    exact ⟨(hrep i (by omega) j hj).1, hr7 _ _ (hrep i (by omega) j hj).2⟩
   ·rw [dif_neg h1] at hg
    by_cases h2 : i = k
    ·rw [dif_pos h2] at hg
     simp only [if_neg h1, if_pos h2]
     simp only [hg] at hj ⊢
     have h8 := hyrep 0 (by simp) j (by simpa using hj)
     exact ⟨h8.1, hr7 _ _ (by simpa using h8.2)⟩
    ·rw [dif_neg h2] at hg
     simp only [if_neg h1, if_neg h2]
     simp only [hg] at hj ⊢
     exact ⟨(hrep (i - 1) (by omega) j hj).1, hr7 _ _ (hrep (i - 1) (by omega) j hj).2⟩, fun g hg hf => by
   dsimp only at hg
   rw [if_pos rfl] at hg
   rcases hI.new g hg with h6 | h6
   ·exact hnF g h6 hf
   ·have := hr.lt g hf; omega⟩ (fun g hg => by rw [if_pos rfl] at hg; exact hI.new g hg) σ' hσ
 have h9 := hturn.put (o := ⟨some dst, .ready 0, 0, "", #[], none⟩) (v := v') (s := .own id) (Ext.refl hturn.lt) (by
  have := RepS.own (F := F) (ρ := fun j => if j = id then v' else ρ j) (w := w') id
  simpa using this) (by simpa [DstOk, Nat.blt_eq] using hdn)
 have := q _ _ ⟨F, _, h9⟩
 rw [<- ht] at this
 exact hK _ _ this
theorem AOps.insertK {s i x : Operand} {ts : Array TypeId} {id idx ex dst k : Nat} {els : List (List D)} {y : List D} {m : Int} {fi ee sz by0 : Nat} (T : InsT cx.P fi ee sz by0) (hg : o.guard = none) (ht : o.dst = some dst) (hdn : Nat.blt dst cx.N = true)
 (ho : o.op = .call { callee := .value (.func fi), args := #[s, i, x], argTypes := ts }) (hs : e.ev s = .own id) (hm : (id, Ob.row ee sz els) ∈ σ) (hi : e.ev i = .d (.v (.int .i64 m))) (hk : m = (k : Int)) (hkl : k <= els.length)
 (hx : e.ev x = .own idx) (hmx : (idx, Ob.row ex sz [y]) ∈ σ) (hne : idx ≠ id) (hb : (els.length + 1) * by0 <= 140737488355328)
 (q : AOps cx ops rest ((e.kill id).put (some dst) (.own id)) ((id, .row ee sz (els.take k ++ [y] ++ els.drop k)) :: Obs.kill id (Obs.del id σ)) Q) (hfx : cx.free id = true := by rfl) : AOps cx ops (o :: rest) e σ Q :=
 AOps.insertG _ T hg ht hdn ho hs hm hi hk hkl hx hmx hne hb (fun p hp => by
  rcases List.mem_cons.1 hp with rfl | hp
  ·exact .inl J
  ·obtain ⟨q, hq, rfl⟩ := Obs.mem_kill hp
   exact .inr ⟨q, (Obs.mem_del hq).1, (Obs.mem_del hq).2, J⟩) q hfx
end
end
end Go.Proofs.YtcfamaddnmnaeaaGreatDoor
