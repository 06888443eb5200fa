/- Walks and laws over abstract values, merged by tools/merge.py. No statement of the seat. -/
import Derived.Test.YtieccphckobhjaaDoorXF5

namespace Go.Proofs.YtieccphckobhjaaDoor
open Go.RowKit
set_option linter.unusedVariables false

/-! Types. -/
namespace TyQA
theorem ag_53 : AggT Tryd.prog 53 5 := .of (by kernel_rfl)
theorem ag_69 : AggT Tryd.prog 69 2 := .of (by kernel_rfl)
theorem ag_73 : AggT Tryd.prog 73 5 := .of (by kernel_rfl)
theorem ag_77 : AggT Tryd.prog 77 7 := .of (by kernel_rfl)
theorem et_117 : ElemTy Tryd.prog 117 49 1 24 (.slice none 0 0) := ⟨by kernel_rfl, by kernel_rfl, by kernel_rfl, by decide⟩
theorem et_22 : ElemTy Tryd.prog 22 69 2 24 (.agg #[(.string ⟨#[]⟩), (.int .i64 0)]) := ⟨by kernel_rfl, by kernel_rfl, by kernel_rfl, by decide⟩
theorem et_23 : ElemTy Tryd.prog 23 73 5 64 (.agg #[(.string ⟨#[]⟩), (.string ⟨#[]⟩), (.string ⟨#[]⟩), (.int .i64 0), (.int .i64 0)]) := ⟨by kernel_rfl, by kernel_rfl, by kernel_rfl, by decide⟩
theorem et_24 : ElemTy Tryd.prog 24 77 7 96 (.agg #[(.string ⟨#[]⟩), (.string ⟨#[]⟩), (.string ⟨#[]⟩), (.int .i64 0), (.int .i64 0), (.int .i64 0), (.slice none 0 0)]) := ⟨by kernel_rfl, by kernel_rfl, by kernel_rfl, by decide⟩
theorem et_49 : ElemTy Tryd.prog 49 53 5 56 (.agg #[(.int .i64 0), (.string ⟨#[]⟩), (.string ⟨#[]⟩), (.int .i64 0), (.int .i64 0)]) := ⟨by kernel_rfl, by kernel_rfl, by kernel_rfl, by decide⟩
theorem et_75 : ElemTy Tryd.prog 75 3 1 8 (.int .i64 0) := ⟨by kernel_rfl, by kernel_rfl, by kernel_rfl, by decide⟩
theorem fo_26_0 : fieldOff Tryd.prog 26 0 = some 0 := by kernel_rfl
theorem fo_26_1 : fieldOff Tryd.prog 26 1 = some 1 := by kernel_rfl
theorem fo_26_2 : fieldOff Tryd.prog 26 2 = some 2 := by kernel_rfl
theorem fo_77_0 : fieldOff Tryd.prog 77 0 = some 0 := by kernel_rfl
theorem fo_77_1 : fieldOff Tryd.prog 77 1 = some 1 := by kernel_rfl
theorem fo_77_2 : fieldOff Tryd.prog 77 2 = some 2 := by kernel_rfl
theorem fo_77_3 : fieldOff Tryd.prog 77 3 = some 3 := by kernel_rfl
theorem fo_77_4 : fieldOff Tryd.prog 77 4 = some 4 := by kernel_rfl
theorem fo_77_5 : fieldOff Tryd.prog 77 5 = some 5 := by kernel_rfl
theorem fo_77_6 : fieldOff Tryd.prog 77 6 = some 6 := by kernel_rfl
theorem sc_22 : Scal Tryd.prog 22 := .of (by kernel_rfl)
theorem sc_23 : Scal Tryd.prog 23 := .of (by kernel_rfl)
theorem sc_24 : Scal Tryd.prog 24 := .of (by kernel_rfl)
theorem sc_3 : Scal Tryd.prog 3 := .of (by kernel_rfl)
theorem sc_49 : Scal Tryd.prog 49 := .of (by kernel_rfl)
theorem sc_75 : Scal Tryd.prog 75 := .of (by kernel_rfl)
theorem sc_9 : Scal Tryd.prog 9 := .of (by kernel_rfl)
end TyQA
open TyQA


theorem eqT_item : EqT Tryd.prog 69 [.str, .int .i64] := .of (by kernel_rfl)
theorem eq_item (x y : Item) : EqD Tryd.prog 69 x.ds y.ds (decide (x.name = y.name ∧ x.blocks = y.blocks)) := .of eqT_item [.string x.name, .int .i64 x.blocks] [.string y.name, .int .i64 y.blocks] rfl rfl rfl rfl (by simp [sameL, sameV])
theorem eqT_carr : EqT Tryd.prog 73 [.str, .str, .str, .int .i64, .int .i64] := .of (by kernel_rfl)
theorem eq_carr (x y : Carr) : EqD Tryd.prog 73 x.ds y.ds (decide (x.name = y.name ∧ x.place = y.place ∧ x.kind = y.kind ∧ x.made = y.made ∧ x.room = y.room)) := .of eqT_carr [.string x.name, .string x.place, .string x.kind, .int .i64 x.made, .int .i64 x.room] [.string y.name, .string y.place, .string y.kind, .int .i64 y.made, .int .i64 y.room] rfl rfl rfl rfl (by simp [sameL, sameV])
theorem eqT_dn : EqT Tryd.prog 53 [.int .i64, .str, .str, .int .i64, .int .i64] := .of (by kernel_rfl)
theorem eq_dn (x y : Dn) : EqD Tryd.prog 53 x.ds y.ds (decide (x.day = y.day ∧ x.item = y.item ∧ x.carrier = y.carrier ∧ x.fixed = y.fixed ∧ x.lost = y.lost)) := .of eqT_dn [.int .i64 x.day, .string x.item, .string x.carrier, .int .i64 x.fixed, .int .i64 x.lost] [.int .i64 y.day, .string y.item, .string y.carrier, .int .i64 y.fixed, .int .i64 y.lost] rfl rfl rfl rfl (by simp [sameL, sameV])
theorem hz_done : Tryd.prog.info? 53 = some ((Tryd.prog.info? 53).getD default) := by kernel_rfl
theorem c_growD (n : Nat) (hn : n ≤ 100000) : OCall Tryd.prog 68 [.v (.slice none 0 0), .v (.int .i64 (n : Int))] 53 5 [] := by
  refine ⟨Enters.of Tryd.func68 (by kernel_rfl) (by kernel_rfl), fun F w vs hF hv => ?_⟩
  obtain ⟨hl, hr⟩ := hv
  obtain ⟨x, y, rfl⟩ : ∃ x y, vs = [x, y] := by
    match vs, hl with
    | [x, y], _ => exact ⟨x, y, rfl⟩
  have hx : x = .slice none 0 0 := rep_v (hr 0 (by simp) (by simp))
  have hy : y = .int .i64 (n : Int) := rep_v (hr 1 (by simp) (by simp))
  subst hx
  subst hy
  by_cases h0 : n = 0
  · subst h0
    refine (Any8.slices_Grow_room Tryd.g68 none 0 0 0 w (Nat.le_refl _) (by omega) (by omega) (by omega)).mono fun e w' ⟨h1, h2⟩ => ?_
    subst h2
    exact ⟨_, F, h1, Ext.refl hF, fun _ _ => undef, ⟨rfl, .inl ⟨rfl, rfl⟩⟩, fun i hi => absurd hi (by simp), fun i hi => absurd hi (by simp), fun g hg => by simp [blk] at hg⟩
  · refine (Any8.slices_Grow_grow Tryd.g68 ((Tryd.prog.info? 53).getD default) (.agg #[.int .i64 0, .string ⟨#[]⟩, .string ⟨#[]⟩, .int .i64 0, .int .i64 0]) hz_done (by kernel_rfl) (of_decide_eq_true (by kernel_rfl)) none 0 0 n [] w (Nat.le_refl _) (by omega) (by
      have hb : ((Tryd.prog.info? 53).getD default).bytes = 56 := by kernel_rfl
      rw [hb]; omega) (by omega) (by simp) (fun _ => rfl) (fun a ha => by cases ha)).mono fun e w' ⟨h1, h2⟩ => ?_
    have hbel : Below w.heap.size w w' := by
      rw [h2]
      exact ((Below.refl w.heap.size w).drew).alloc (Nat.le_refl _) _
    have hge := grownCap_ge w (0 + n) 0 53
    have hle := grownCap_le_maxLen w (0 + n) 0 53 (by unfold maxLen; omega)
    have h1' : e = .returned (.slice (some ⟨w.heap.size, 0, none⟩) 0 (grownCap w (0 + n) 0 53)) := h1
    have h2' : w' = w.drew.alloc (.cells (([] : List Value).toArray ++ Builtin.zeroCells (Value.agg #[.int .i64 0, .string ⟨#[]⟩, .string ⟨#[]⟩, .int .i64 0, .int .i64 0]).cells (0 + n - 0) ++ Builtin.zeroCells (Value.agg #[.int .i64 0, .string ⟨#[]⟩, .string ⟨#[]⟩, .int .i64 0, .int .i64 0]).cells (grownCap w (0 + n) 0 53 - (0 + n))) 53) := h2
    generalize grownCap w (0 + n) 0 53 = G at *
    refine ⟨_, F, h1', Ext.of_below hF hbel, fun _ _ => undef, ⟨rfl, .inr ⟨w.heap.size, G, _, rfl, Nat.le_refl _, by rw [h2']; exact heap_alloc_new w.drew _, Nat.zero_le _, hle, ?_, ?_⟩⟩, fun i hi => absurd hi (by simp), fun i hi => absurd hi (by simp), fun g hg hf => by
      simp [blk] at hg
      have := hF g hf
      omega⟩
    · rw [Array.size_append, Array.size_append, size_zeroCells, size_zeroCells]
      show 0 + (0 + n - 0) * 5 + (G - (0 + n)) * 5 = G * 5
      rw [Nat.zero_add, Nat.zero_add, Nat.sub_zero, ← Nat.add_mul]
      congr 1
      omega
    · rfl


set_option maxRecDepth 100000 in
set_option maxHeartbeats 1000000 in
theorem c_eqItem (l : List Item) : ACall Tryd.prog 65 [.sl (l.map Item.ds), .sl (l.map Item.ds)] (.v (.bool true)) := by
  refine acall_of (n := 26) (ds' := [.v (.bool true)]) Tryd.func65 rfl (by kernel_rfl) rfl [4] rfl rfl ?_
  intro B w0 F0 fr
  refine AWP.bound 0 rfl (fun hbd0 => ?_)
  rw [List.length_map] at hbd0
  refine AWP.seq ?_
  refine AWP.region ?_
  refine AOps.step rfl rfl rfl (AOp.assignD rfl rfl) ?_
  refine AOps.nil ?_
  refine AWP.seq ?_
  refine AWP.seq ?_
  refine AWP.region ?_
  refine AOps.step rfl rfl rfl (AOp.moveD rfl rfl) ?_
  refine AOps.step rfl rfl rfl (AOp.lenSl rfl et_22.ht rfl) ?_
  refine AOps.step rfl rfl rfl (AOp.moveD rfl rfl) ?_
  refine AOps.step rfl rfl rfl (AOp.lenSl rfl et_22.ht rfl) ?_
  refine AOps.step rfl rfl rfl (AOp.neq rfl rfl rfl) ?_
  refine AOps.nil ?_
  refine AWP.cond rfl (fun h1 => ?_) (fun h1 => ?_)
  · replace h1 := of_decide_eq_true h1
    exact absurd rfl h1
  · replace h1 := of_decide_eq_false h1
    refine AWP.skip ?_
    refine AWP.seq ?_
    refine AWP.seq ?_
    refine AWP.region ?_
    refine AOps.step rfl rfl rfl (AOp.moveD rfl rfl) ?_
    refine AOps.step rfl rfl rfl (AOp.lenSl rfl et_22.ht rfl) ?_
    refine AOps.step rfl rfl rfl (AOp.moveD rfl rfl) ?_
    refine AOps.nil ?_
    refine AWP.block ?_
    refine AWP.loop (G := Nat) (fun k => Env.of [(13, .d (.v (.int .i64 (k : Int)))), (0, .d (.sl (l.map Item.ds))), (1, .d (.sl (l.map Item.ds))), (12, .d (.v (.int .i64 ((l.map Item.ds).length : Int))))]) (fun k => []) (fun k => k ≤ l.length) (fun k => l.length - k) 0 (Nat.zero_le _) (Sub.less ⟨(SLe.of_eq rfl), SLe.refl _, SLe.refl _, SLe.refl _, trivial⟩ (fun _ h => h)) ?_
    intro k hk
    refine AWP.seq ?_
    refine AWP.region ?_
    refine AOps.step rfl rfl rfl (AOp.lss rfl rfl rfl) ?_
    refine AOps.nil ?_
    refine AWP.seq ?_
    refine AWP.cond rfl (fun h2 => ?_) (fun h2 => ?_)
    · replace h2 := of_decide_eq_true h2
      rw [List.length_map] at h2
      have hlt : k < l.length := by omega
      refine AWP.skip ?_
      refine AWP.seq ?_
      refine AWP.block ?_
      refine AWP.seq ?_
      refine AWP.region ?_
      refine AOps.step rfl rfl rfl (AOp.moveD rfl rfl) ?_
      refine AOps.step rfl rfl rfl (AOp.assignD rfl rfl) ?_
      refine AOps.nil ?_
      refine AWP.seq ?_
      refine AWP.draw (by kernel_rfl) (by kernel_rfl) ?_
      refine DRun.step rfl rfl rfl (AOp.moveD rfl rfl) ?_
      refine DRun.step rfl rfl rfl (AOp.moveD rfl rfl) ?_
      refine DRun.step rfl rfl rfl (AOp.indexAddr rfl et_22 rfl rfl k rfl (at_list hlt) rfl) ?_
      refine DRun.step rfl rfl rfl (AOp.loadAgg rfl ag_69 rfl rfl) ?_
      refine DRun.step rfl rfl rfl (AOp.moveD rfl rfl) ?_
      refine DRun.step rfl rfl rfl (AOp.moveD rfl rfl) ?_
      refine DRun.step rfl rfl rfl (AOp.indexAddr rfl et_22 rfl rfl k rfl (at_list hlt) rfl) ?_
      refine DRun.step rfl rfl rfl (AOp.loadAgg rfl ag_69 rfl rfl) ?_
      refine DRun.step rfl rfl rfl (AOp.aggNeq rfl rfl rfl (eq_item _ _)) ?_
      refine DRun.nil ?_
      refine AWP.cond rfl (fun h3 => ?_) (fun h3 => ?_)
      · replace h3 := bnot_t h3; replace h3 := of_decide_eq_false h3
        exact absurd ⟨rfl, rfl⟩ h3
      · replace h3 := bnot_f h3; replace h3 := of_decide_eq_true h3
        refine AWP.skip ?_
        refine AWP.region ?_
        refine AOps.step rfl rfl rfl (AOp.add64 rfl rfl rfl (by omega) (by omega)) ?_
        refine AOps.step rfl rfl rfl (AOp.moveD rfl rfl) ?_
        refine AOps.nil ?_
        refine ⟨k + 1, (by omega), (by dsimp only; omega), Sub.less ⟨(SLe.of_eq rfl), SLe.refl _, SLe.refl _, SLe.refl _, trivial⟩ (fun _ h => h)⟩
    · replace h2 := of_decide_eq_false h2
      refine AWP.exit ?_
      refine AWP.seq ?_
      refine AWP.region ?_
      refine AOps.step rfl rfl rfl (AOp.assignD rfl rfl) ?_
      refine AOps.nil ?_
      refine AWP.ret ?_
      refine ⟨RetD.eq rfl ?_, trivial⟩
      all_goals (rfl)

set_option maxRecDepth 100000 in
set_option maxHeartbeats 1000000 in
theorem c_eqCarr (l : List Carr) : ACall Tryd.prog 66 [.sl (l.map Carr.ds), .sl (l.map Carr.ds)] (.v (.bool true)) := by
  refine acall_of (n := 26) (ds' := [.v (.bool true)]) Tryd.func66 rfl (by kernel_rfl) rfl [4] rfl rfl ?_
  intro B w0 F0 fr
  refine AWP.bound 0 rfl (fun hbd0 => ?_)
  rw [List.length_map] at hbd0
  refine AWP.seq ?_
  refine AWP.region ?_
  refine AOps.step rfl rfl rfl (AOp.assignD rfl rfl) ?_
  refine AOps.nil ?_
  refine AWP.seq ?_
  refine AWP.seq ?_
  refine AWP.region ?_
  refine AOps.step rfl rfl rfl (AOp.moveD rfl rfl) ?_
  refine AOps.step rfl rfl rfl (AOp.lenSl rfl et_23.ht rfl) ?_
  refine AOps.step rfl rfl rfl (AOp.moveD rfl rfl) ?_
  refine AOps.step rfl rfl rfl (AOp.lenSl rfl et_23.ht rfl) ?_
  refine AOps.step rfl rfl rfl (AOp.neq rfl rfl rfl) ?_
  refine AOps.nil ?_
  refine AWP.cond rfl (fun h1 => ?_) (fun h1 => ?_)
  · replace h1 := of_decide_eq_true h1
    exact absurd rfl h1
  · replace h1 := of_decide_eq_false h1
    refine AWP.skip ?_
    refine AWP.seq ?_
    refine AWP.seq ?_
    refine AWP.region ?_
    refine AOps.step rfl rfl rfl (AOp.moveD rfl rfl) ?_
    refine AOps.step rfl rfl rfl (AOp.lenSl rfl et_23.ht rfl) ?_
    refine AOps.step rfl rfl rfl (AOp.moveD rfl rfl) ?_
    refine AOps.nil ?_
    refine AWP.block ?_
    refine AWP.loop (G := Nat) (fun k => Env.of [(13, .d (.v (.int .i64 (k : Int)))), (0, .d (.sl (l.map Carr.ds))), (1, .d (.sl (l.map Carr.ds))), (12, .d (.v (.int .i64 ((l.map Carr.ds).length : Int))))]) (fun k => []) (fun k => k ≤ l.length) (fun k => l.length - k) 0 (Nat.zero_le _) (Sub.less ⟨(SLe.of_eq rfl), SLe.refl _, SLe.refl _, SLe.refl _, trivial⟩ (fun _ h => h)) ?_
    intro k hk
    refine AWP.seq ?_
    refine AWP.region ?_
    refine AOps.step rfl rfl rfl (AOp.lss rfl rfl rfl) ?_
    refine AOps.nil ?_
    refine AWP.seq ?_
    refine AWP.cond rfl (fun h2 => ?_) (fun h2 => ?_)
    · replace h2 := of_decide_eq_true h2
      rw [List.length_map] at h2
      have hlt : k < l.length := by omega
      refine AWP.skip ?_
      refine AWP.seq ?_
      refine AWP.block ?_
      refine AWP.seq ?_
      refine AWP.region ?_
      refine AOps.step rfl rfl rfl (AOp.moveD rfl rfl) ?_
      refine AOps.step rfl rfl rfl (AOp.assignD rfl rfl) ?_
      refine AOps.nil ?_
      refine AWP.seq ?_
      refine AWP.draw (by kernel_rfl) (by kernel_rfl) ?_
      refine DRun.step rfl rfl rfl (AOp.moveD rfl rfl) ?_
      refine DRun.step rfl rfl rfl (AOp.moveD rfl rfl) ?_
      refine DRun.step rfl rfl rfl (AOp.indexAddr rfl et_23 rfl rfl k rfl (at_list hlt) rfl) ?_
      refine DRun.step rfl rfl rfl (AOp.loadAgg rfl ag_73 rfl rfl) ?_
      refine DRun.step rfl rfl rfl (AOp.moveD rfl rfl) ?_
      refine DRun.step rfl rfl rfl (AOp.moveD rfl rfl) ?_
      refine DRun.step rfl rfl rfl (AOp.indexAddr rfl et_23 rfl rfl k rfl (at_list hlt) rfl) ?_
      refine DRun.step rfl rfl rfl (AOp.loadAgg rfl ag_73 rfl rfl) ?_
      refine DRun.step rfl rfl rfl (AOp.aggNeq rfl rfl rfl (eq_carr _ _)) ?_
      refine DRun.nil ?_
      refine AWP.cond rfl (fun h3 => ?_) (fun h3 => ?_)
      · replace h3 := bnot_t h3; replace h3 := of_decide_eq_false h3
        exact absurd ⟨rfl, rfl, rfl, rfl, rfl⟩ h3
      · replace h3 := bnot_f h3; replace h3 := of_decide_eq_true h3
        refine AWP.skip ?_
        refine AWP.region ?_
        refine AOps.step rfl rfl rfl (AOp.add64 rfl rfl rfl (by omega) (by omega)) ?_
        refine AOps.step rfl rfl rfl (AOp.moveD rfl rfl) ?_
        refine AOps.nil ?_
        refine ⟨k + 1, (by omega), (by dsimp only; omega), Sub.less ⟨(SLe.of_eq rfl), SLe.refl _, SLe.refl _, SLe.refl _, trivial⟩ (fun _ h => h)⟩
    · replace h2 := of_decide_eq_false h2
      refine AWP.exit ?_
      refine AWP.seq ?_
      refine AWP.region ?_
      refine AOps.step rfl rfl rfl (AOp.assignD rfl rfl) ?_
      refine AOps.nil ?_
      refine AWP.ret ?_
      refine ⟨RetD.eq rfl ?_, trivial⟩
      all_goals (rfl)

set_option maxRecDepth 100000 in
set_option maxHeartbeats 1000000 in
theorem c_eqDn (l : List Dn) : ACall Tryd.prog 23 [.sl (l.map Dn.ds), .sl (l.map Dn.ds)] (.v (.bool true)) := by
  refine acall_of (n := 26) (ds' := [.v (.bool true)]) Tryd.func23 rfl (by kernel_rfl) rfl [4] rfl rfl ?_
  intro B w0 F0 fr
  refine AWP.bound 0 rfl (fun hbd0 => ?_)
  rw [List.length_map] at hbd0
  refine AWP.seq ?_
  refine AWP.region ?_
  refine AOps.step rfl rfl rfl (AOp.assignD rfl rfl) ?_
  refine AOps.nil ?_
  refine AWP.seq ?_
  refine AWP.seq ?_
  refine AWP.region ?_
  refine AOps.step rfl rfl rfl (AOp.moveD rfl rfl) ?_
  refine AOps.step rfl rfl rfl (AOp.lenSl rfl et_49.ht rfl) ?_
  refine AOps.step rfl rfl rfl (AOp.moveD rfl rfl) ?_
  refine AOps.step rfl rfl rfl (AOp.lenSl rfl et_49.ht rfl) ?_
  refine AOps.step rfl rfl rfl (AOp.neq rfl rfl rfl) ?_
  refine AOps.nil ?_
  refine AWP.cond rfl (fun h1 => ?_) (fun h1 => ?_)
  · replace h1 := of_decide_eq_true h1
    exact absurd rfl h1
  · replace h1 := of_decide_eq_false h1
    refine AWP.skip ?_
    refine AWP.seq ?_
    refine AWP.seq ?_
    refine AWP.region ?_
    refine AOps.step rfl rfl rfl (AOp.moveD rfl rfl) ?_
    refine AOps.step rfl rfl rfl (AOp.lenSl rfl et_49.ht rfl) ?_
    refine AOps.step rfl rfl rfl (AOp.moveD rfl rfl) ?_
    refine AOps.nil ?_
    refine AWP.block ?_
    refine AWP.loop (G := Nat) (fun k => Env.of [(13, .d (.v (.int .i64 (k : Int)))), (0, .d (.sl (l.map Dn.ds))), (1, .d (.sl (l.map Dn.ds))), (12, .d (.v (.int .i64 ((l.map Dn.ds).length : Int))))]) (fun k => []) (fun k => k ≤ l.length) (fun k => l.length - k) 0 (Nat.zero_le _) (Sub.less ⟨(SLe.of_eq rfl), SLe.refl _, SLe.refl _, SLe.refl _, trivial⟩ (fun _ h => h)) ?_
    intro k hk
    refine AWP.seq ?_
    refine AWP.region ?_
    refine AOps.step rfl rfl rfl (AOp.lss rfl rfl rfl) ?_
    refine AOps.nil ?_
    refine AWP.seq ?_
    refine AWP.cond rfl (fun h2 => ?_) (fun h2 => ?_)
    · replace h2 := of_decide_eq_true h2
      rw [List.length_map] at h2
      have hlt : k < l.length := by omega
      refine AWP.skip ?_
      refine AWP.seq ?_
      refine AWP.block ?_
      refine AWP.seq ?_
      refine AWP.region ?_
      refine AOps.step rfl rfl rfl (AOp.moveD rfl rfl) ?_
      refine AOps.step rfl rfl rfl (AOp.assignD rfl rfl) ?_
      refine AOps.nil ?_
      refine AWP.seq ?_
      refine AWP.draw (by kernel_rfl) (by kernel_rfl) ?_
      refine DRun.step rfl rfl rfl (AOp.moveD rfl rfl) ?_
      refine DRun.step rfl rfl rfl (AOp.moveD rfl rfl) ?_
      refine DRun.step rfl rfl rfl (AOp.indexAddr rfl et_49 rfl rfl k rfl (at_list hlt) rfl) ?_
      refine DRun.step rfl rfl rfl (AOp.loadAgg rfl ag_53 rfl rfl) ?_
      refine DRun.step rfl rfl rfl (AOp.moveD rfl rfl) ?_
      refine DRun.step rfl rfl rfl (AOp.moveD rfl rfl) ?_
      refine DRun.step rfl rfl rfl (AOp.indexAddr rfl et_49 rfl rfl k rfl (at_list hlt) rfl) ?_
      refine DRun.step rfl rfl rfl (AOp.loadAgg rfl ag_53 rfl rfl) ?_
      refine DRun.step rfl rfl rfl (AOp.aggNeq rfl rfl rfl (eq_dn _ _)) ?_
      refine DRun.nil ?_
      refine AWP.cond rfl (fun h3 => ?_) (fun h3 => ?_)
      · replace h3 := bnot_t h3; replace h3 := of_decide_eq_false h3
        exact absurd ⟨rfl, rfl, rfl, rfl, rfl⟩ h3
      · replace h3 := bnot_f h3; replace h3 := of_decide_eq_true h3
        refine AWP.skip ?_
        refine AWP.region ?_
        refine AOps.step rfl rfl rfl (AOp.add64 rfl rfl rfl (by omega) (by omega)) ?_
        refine AOps.step rfl rfl rfl (AOp.moveD rfl rfl) ?_
        refine AOps.nil ?_
        refine ⟨k + 1, (by omega), (by dsimp only; omega), Sub.less ⟨(SLe.of_eq rfl), SLe.refl _, SLe.refl _, SLe.refl _, trivial⟩ (fun _ h => h)⟩
    · replace h2 := of_decide_eq_false h2
      refine AWP.exit ?_
      refine AWP.seq ?_
      refine AWP.region ?_
      refine AOps.step rfl rfl rfl (AOp.assignD rfl rfl) ?_
      refine AOps.nil ?_
      refine AWP.ret ?_
      refine ⟨RetD.eq rfl ?_, trivial⟩
      all_goals (rfl)

set_option maxRecDepth 100000 in
set_option maxHeartbeats 1000000 in
theorem c_eqInt (l : List Int) : ACall Tryd.prog 96 [.sl (l.map intD), .sl (l.map intD)] (.v (.bool true)) := by
  refine acall_of (n := 26) (ds' := [.v (.bool true)]) Tryd.func96 rfl (by kernel_rfl) rfl [4] rfl rfl ?_
  intro B w0 F0 fr
  refine AWP.bound 0 rfl (fun hbd0 => ?_)
  rw [List.length_map] at hbd0
  refine AWP.seq ?_
  refine AWP.region ?_
  refine AOps.step rfl rfl rfl (AOp.assignD rfl rfl) ?_
  refine AOps.nil ?_
  refine AWP.seq ?_
  refine AWP.seq ?_
  refine AWP.region ?_
  refine AOps.step rfl rfl rfl (AOp.moveD rfl rfl) ?_
  refine AOps.step rfl rfl rfl (AOp.lenSl rfl et_75.ht rfl) ?_
  refine AOps.step rfl rfl rfl (AOp.moveD rfl rfl) ?_
  refine AOps.step rfl rfl rfl (AOp.lenSl rfl et_75.ht rfl) ?_
  refine AOps.step rfl rfl rfl (AOp.neq rfl rfl rfl) ?_
  refine AOps.nil ?_
  refine AWP.cond rfl (fun h1 => ?_) (fun h1 => ?_)
  · replace h1 := of_decide_eq_true h1
    exact absurd rfl h1
  · replace h1 := of_decide_eq_false h1
    refine AWP.skip ?_
    refine AWP.seq ?_
    refine AWP.seq ?_
    refine AWP.region ?_
    refine AOps.step rfl rfl rfl (AOp.moveD rfl rfl) ?_
    refine AOps.step rfl rfl rfl (AOp.lenSl rfl et_75.ht rfl) ?_
    refine AOps.step rfl rfl rfl (AOp.moveD rfl rfl) ?_
    refine AOps.nil ?_
    refine AWP.block ?_
    refine AWP.loop (G := Nat) (fun k => Env.of [(13, .d (.v (.int .i64 (k : Int)))), (0, .d (.sl (l.map intD))), (1, .d (.sl (l.map intD))), (12, .d (.v (.int .i64 ((l.map intD).length : Int))))]) (fun k => []) (fun k => k ≤ l.length) (fun k => l.length - k) 0 (Nat.zero_le _) (Sub.less ⟨(SLe.of_eq rfl), SLe.refl _, SLe.refl _, SLe.refl _, trivial⟩ (fun _ h => h)) ?_
    intro k hk
    refine AWP.seq ?_
    refine AWP.region ?_
    refine AOps.step rfl rfl rfl (AOp.lss rfl rfl rfl) ?_
    refine AOps.nil ?_
    refine AWP.seq ?_
    refine AWP.cond rfl (fun h2 => ?_) (fun h2 => ?_)
    · replace h2 := of_decide_eq_true h2
      rw [List.length_map] at h2
      have hlt : k < l.length := by omega
      refine AWP.skip ?_
      refine AWP.seq ?_
      refine AWP.block ?_
      refine AWP.seq ?_
      refine AWP.region ?_
      refine AOps.step rfl rfl rfl (AOp.moveD rfl rfl) ?_
      refine AOps.step rfl rfl rfl (AOp.assignD rfl rfl) ?_
      refine AOps.nil ?_
      refine AWP.seq ?_
      refine AWP.draw (by kernel_rfl) (by kernel_rfl) ?_
      refine DRun.step rfl rfl rfl (AOp.moveD rfl rfl) ?_
      refine DRun.step rfl rfl rfl (AOp.moveD rfl rfl) ?_
      refine DRun.step rfl rfl rfl (AOp.indexAddr rfl et_75 rfl rfl k rfl (at_list hlt) rfl) ?_
      refine DRun.step rfl rfl rfl (AOp.load rfl sc_3 rfl) ?_
      refine DRun.step rfl rfl rfl (AOp.moveD rfl rfl) ?_
      refine DRun.step rfl rfl rfl (AOp.moveD rfl rfl) ?_
      refine DRun.step rfl rfl rfl (AOp.indexAddr rfl et_75 rfl rfl k rfl (at_list hlt) rfl) ?_
      refine DRun.step rfl rfl rfl (AOp.load rfl sc_3 rfl) ?_
      refine DRun.step rfl rfl rfl (AOp.neq rfl rfl rfl) ?_
      refine DRun.nil ?_
      refine AWP.cond rfl (fun h3 => ?_) (fun h3 => ?_)
      · replace h3 := of_decide_eq_true h3
        exact absurd rfl h3
      · replace h3 := of_decide_eq_false h3
        refine AWP.skip ?_
        refine AWP.region ?_
        refine AOps.step rfl rfl rfl (AOp.add64 rfl rfl rfl (by omega) (by omega)) ?_
        refine AOps.step rfl rfl rfl (AOp.moveD rfl rfl) ?_
        refine AOps.nil ?_
        refine ⟨k + 1, (by omega), (by dsimp only; omega), Sub.less ⟨(SLe.of_eq rfl), SLe.refl _, SLe.refl _, SLe.refl _, trivial⟩ (fun _ h => h)⟩
    · replace h2 := of_decide_eq_false h2
      refine AWP.exit ?_
      refine AWP.seq ?_
      refine AWP.region ?_
      refine AOps.step rfl rfl rfl (AOp.assignD rfl rfl) ?_
      refine AOps.nil ?_
      refine AWP.ret ?_
      refine ⟨RetD.eq rfl ?_, trivial⟩
      all_goals (rfl)

set_option maxRecDepth 100000 in
set_option maxHeartbeats 1000000 in
theorem c_sameC (c : Cpy) : ACall Tryd.prog 67 [.agg c.ds, .agg c.ds] (.v (.bool true)) := by
  refine acall_of (n := 52) (ds' := [.v (.bool true)]) Tryd.func67 rfl (by kernel_rfl) rfl [4] rfl rfl ?_
  intro B w0 F0 fr
  refine AWP.seq ?_
  refine AWP.region ?_
  refine AOps.step rfl rfl rfl (AOp.box rfl rfl rfl) ?_
  refine AOps.step rfl rfl rfl (AOp.box rfl rfl rfl) ?_
  refine AOps.step rfl rfl rfl (AOp.assignD rfl rfl) ?_
  refine AOps.nil ?_
  refine AWP.seq ?_
  refine AWP.region ?_
  refine AOps.step rfl rfl rfl (AOp.fieldAddr rfl fo_77_0 rfl) ?_
  refine AOps.step rfl rfl rfl (AOp.load rfl sc_9 rfl) ?_
  refine AOps.step rfl rfl rfl (AOp.fieldAddr rfl fo_77_0 rfl) ?_
  refine AOps.step rfl rfl rfl (AOp.load rfl sc_9 rfl) ?_
  refine AOps.step rfl rfl rfl (AOp.seql rfl rfl rfl) ?_
  refine AOps.step rfl rfl rfl (AOp.moveD rfl rfl) ?_
  refine AOps.split 10 rfl (fun g1 => ?_) (fun g1 => ?_)
  · replace g1 := of_decide_eq_true g1
    refine AOps.step ⟨10, rfl, .inl ⟨_, rfl, rfl⟩⟩ rfl rfl (AOp.fieldAddr rfl fo_77_1 rfl) ?_
    refine AOps.step ⟨10, rfl, .inl ⟨_, rfl, rfl⟩⟩ rfl rfl (AOp.load rfl sc_9 rfl) ?_
    refine AOps.step ⟨10, rfl, .inl ⟨_, rfl, rfl⟩⟩ rfl rfl (AOp.fieldAddr rfl fo_77_1 rfl) ?_
    refine AOps.step ⟨10, rfl, .inl ⟨_, rfl, rfl⟩⟩ rfl rfl (AOp.load rfl sc_9 rfl) ?_
    refine AOps.step ⟨10, rfl, .inl ⟨_, rfl, rfl⟩⟩ rfl rfl (AOp.seql rfl rfl rfl) ?_
    refine AOps.step rfl rfl rfl (AOp.pickT rfl rfl rfl) ?_
    refine AOps.step rfl rfl rfl (AOp.moveD rfl rfl) ?_
    refine AOps.split 17 rfl (fun g2 => ?_) (fun g2 => ?_)
    · replace g2 := of_decide_eq_true g2
      refine AOps.step ⟨17, rfl, .inl ⟨_, rfl, rfl⟩⟩ rfl rfl (AOp.fieldAddr rfl fo_77_2 rfl) ?_
      refine AOps.step ⟨17, rfl, .inl ⟨_, rfl, rfl⟩⟩ rfl rfl (AOp.load rfl sc_9 rfl) ?_
      refine AOps.step ⟨17, rfl, .inl ⟨_, rfl, rfl⟩⟩ rfl rfl (AOp.fieldAddr rfl fo_77_2 rfl) ?_
      refine AOps.step ⟨17, rfl, .inl ⟨_, rfl, rfl⟩⟩ rfl rfl (AOp.load rfl sc_9 rfl) ?_
      refine AOps.step ⟨17, rfl, .inl ⟨_, rfl, rfl⟩⟩ rfl rfl (AOp.seql rfl rfl rfl) ?_
      refine AOps.step rfl rfl rfl (AOp.pickT rfl rfl rfl) ?_
      refine AOps.step rfl rfl rfl (AOp.moveD rfl rfl) ?_
      refine AOps.split 24 rfl (fun g3 => ?_) (fun g3 => ?_)
      · replace g3 := of_decide_eq_true g3
        refine AOps.step ⟨24, rfl, .inl ⟨_, rfl, rfl⟩⟩ rfl rfl (AOp.fieldAddr rfl fo_77_3 rfl) ?_
        refine AOps.step ⟨24, rfl, .inl ⟨_, rfl, rfl⟩⟩ rfl rfl (AOp.load rfl sc_3 rfl) ?_
        refine AOps.step ⟨24, rfl, .inl ⟨_, rfl, rfl⟩⟩ rfl rfl (AOp.fieldAddr rfl fo_77_3 rfl) ?_
        refine AOps.step ⟨24, rfl, .inl ⟨_, rfl, rfl⟩⟩ rfl rfl (AOp.load rfl sc_3 rfl) ?_
        refine AOps.step ⟨24, rfl, .inl ⟨_, rfl, rfl⟩⟩ rfl rfl (AOp.eql rfl rfl rfl) ?_
        refine AOps.step rfl rfl rfl (AOp.pickT rfl rfl rfl) ?_
        refine AOps.step rfl rfl rfl (AOp.moveD rfl rfl) ?_
        refine AOps.split 31 rfl (fun g4 => ?_) (fun g4 => ?_)
        · replace g4 := of_decide_eq_true g4
          refine AOps.step ⟨31, rfl, .inl ⟨_, rfl, rfl⟩⟩ rfl rfl (AOp.fieldAddr rfl fo_77_4 rfl) ?_
          refine AOps.step ⟨31, rfl, .inl ⟨_, rfl, rfl⟩⟩ rfl rfl (AOp.load rfl sc_3 rfl) ?_
          refine AOps.step ⟨31, rfl, .inl ⟨_, rfl, rfl⟩⟩ rfl rfl (AOp.fieldAddr rfl fo_77_4 rfl) ?_
          refine AOps.step ⟨31, rfl, .inl ⟨_, rfl, rfl⟩⟩ rfl rfl (AOp.load rfl sc_3 rfl) ?_
          refine AOps.step ⟨31, rfl, .inl ⟨_, rfl, rfl⟩⟩ rfl rfl (AOp.eql rfl rfl rfl) ?_
          refine AOps.step rfl rfl rfl (AOp.pickT rfl rfl rfl) ?_
          refine AOps.step rfl rfl rfl (AOp.moveD rfl rfl) ?_
          refine AOps.split 38 rfl (fun g5 => ?_) (fun g5 => ?_)
          · replace g5 := of_decide_eq_true g5
            refine AOps.step ⟨38, rfl, .inl ⟨_, rfl, rfl⟩⟩ rfl rfl (AOp.fieldAddr rfl fo_77_5 rfl) ?_
            refine AOps.step ⟨38, rfl, .inl ⟨_, rfl, rfl⟩⟩ rfl rfl (AOp.load rfl sc_3 rfl) ?_
            refine AOps.step ⟨38, rfl, .inl ⟨_, rfl, rfl⟩⟩ rfl rfl (AOp.fieldAddr rfl fo_77_5 rfl) ?_
            refine AOps.step ⟨38, rfl, .inl ⟨_, rfl, rfl⟩⟩ rfl rfl (AOp.load rfl sc_3 rfl) ?_
            refine AOps.step ⟨38, rfl, .inl ⟨_, rfl, rfl⟩⟩ rfl rfl (AOp.eql rfl rfl rfl) ?_
            refine AOps.step rfl rfl rfl (AOp.pickT rfl rfl rfl) ?_
            refine AOps.step rfl rfl rfl (AOp.moveD rfl rfl) ?_
            refine AOps.split 45 rfl (fun g6 => ?_) (fun g6 => ?_)
            · replace g6 := of_decide_eq_true g6
              refine AOps.step ⟨45, rfl, .inl ⟨_, rfl, rfl⟩⟩ rfl rfl (AOp.fieldAddr rfl fo_77_6 rfl) ?_
              refine AOps.step ⟨45, rfl, .inl ⟨_, rfl, rfl⟩⟩ rfl rfl (AOp.load rfl sc_75 rfl) ?_
              refine AOps.step ⟨45, rfl, .inl ⟨_, rfl, rfl⟩⟩ rfl rfl (AOp.fieldAddr rfl fo_77_6 rfl) ?_
              refine AOps.step ⟨45, rfl, .inl ⟨_, rfl, rfl⟩⟩ rfl rfl (AOp.load rfl sc_75 rfl) ?_
              refine AOps.step ⟨45, rfl, .inl ⟨_, rfl, rfl⟩⟩ rfl rfl (AOp.call rfl (.cons (ArgOk.rfl' rfl) (.cons (ArgOk.rfl' rfl) .nil)) (c_eqInt _)) ?_
              refine AOps.step rfl rfl rfl (AOp.pickT rfl rfl rfl) ?_
              refine AOps.step rfl rfl rfl (AOp.assignD rfl rfl) ?_
              refine AOps.nil ?_
              refine AWP.ret ?_
              refine ⟨RetD.eq rfl ?_, trivial⟩
              all_goals (simp)
            · replace g6 := of_decide_eq_false g6
              exact absurd rfl g6
          · replace g5 := of_decide_eq_false g5
            exact absurd rfl g5
        · replace g4 := of_decide_eq_false g4
          exact absurd rfl g4
      · replace g3 := of_decide_eq_false g3
        exact absurd rfl g3
    · replace g2 := of_decide_eq_false g2
      exact absurd rfl g2
  · replace g1 := of_decide_eq_false g1
    exact absurd rfl g1

set_option maxRecDepth 100000 in
set_option maxHeartbeats 1000000 in
theorem c_sameV (v : Vlt) (hl : v.copies.length ≤ 100000) : ACall Tryd.prog 22 [.agg v.ds, .agg v.ds] (.v (.bool true)) := by
  refine acall_of (n := 48) (ds' := [.v (.bool true)]) Tryd.func22 rfl (by kernel_rfl) rfl [4] rfl rfl ?_
  intro B w0 F0 fr
  refine AWP.seq ?_
  refine AWP.region ?_
  refine AOps.step rfl rfl rfl (AOp.box rfl rfl rfl) ?_
  refine AOps.step rfl rfl rfl (AOp.box rfl rfl rfl) ?_
  refine AOps.step rfl rfl rfl (AOp.assignD rfl rfl) ?_
  refine AOps.nil ?_
  refine AWP.seq ?_
  refine AWP.seq ?_
  refine AWP.region ?_
  refine AOps.step rfl rfl rfl (AOp.fieldAddr rfl fo_26_0 rfl) ?_
  refine AOps.step rfl rfl rfl (AOp.load rfl sc_22 rfl) ?_
  refine AOps.step rfl rfl rfl (AOp.fieldAddr rfl fo_26_0 rfl) ?_
  refine AOps.step rfl rfl rfl (AOp.load rfl sc_22 rfl) ?_
  refine AOps.step rfl rfl rfl (AOp.call rfl (.cons (ArgOk.rfl' rfl) (.cons (ArgOk.rfl' rfl) .nil)) (c_eqItem _)) ?_
  refine AOps.step rfl rfl rfl (AOp.not rfl rfl) ?_
  refine AOps.step rfl rfl rfl (AOp.moveD rfl rfl) ?_
  refine AOps.step ⟨12, rfl, .inl ⟨_, rfl, rfl⟩⟩ rfl rfl (AOp.fieldAddr rfl fo_26_1 rfl) ?_
  refine AOps.step ⟨12, rfl, .inl ⟨_, rfl, rfl⟩⟩ rfl rfl (AOp.load rfl sc_23 rfl) ?_
  refine AOps.step ⟨12, rfl, .inl ⟨_, rfl, rfl⟩⟩ rfl rfl (AOp.fieldAddr rfl fo_26_1 rfl) ?_
  refine AOps.step ⟨12, rfl, .inl ⟨_, rfl, rfl⟩⟩ rfl rfl (AOp.load rfl sc_23 rfl) ?_
  refine AOps.step ⟨12, rfl, .inl ⟨_, rfl, rfl⟩⟩ rfl rfl (AOp.call rfl (.cons (ArgOk.rfl' rfl) (.cons (ArgOk.rfl' rfl) .nil)) (c_eqCarr _)) ?_
  refine AOps.step ⟨12, rfl, .inl ⟨_, rfl, rfl⟩⟩ rfl rfl (AOp.not rfl rfl) ?_
  refine AOps.step rfl rfl rfl (AOp.pickF rfl rfl rfl) ?_
  refine AOps.step rfl rfl rfl (AOp.moveD rfl rfl) ?_
  refine AOps.step ⟨20, rfl, .inl ⟨_, rfl, rfl⟩⟩ rfl rfl (AOp.fieldAddr rfl fo_26_2 rfl) ?_
  refine AOps.step ⟨20, rfl, .inl ⟨_, rfl, rfl⟩⟩ rfl rfl (AOp.load rfl sc_24 rfl) ?_
  refine AOps.step ⟨20, rfl, .inl ⟨_, rfl, rfl⟩⟩ rfl rfl (AOp.lenSl rfl et_24.ht rfl) ?_
  refine AOps.step ⟨20, rfl, .inl ⟨_, rfl, rfl⟩⟩ rfl rfl (AOp.fieldAddr rfl fo_26_2 rfl) ?_
  refine AOps.step ⟨20, rfl, .inl ⟨_, rfl, rfl⟩⟩ rfl rfl (AOp.load rfl sc_24 rfl) ?_
  refine AOps.step ⟨20, rfl, .inl ⟨_, rfl, rfl⟩⟩ rfl rfl (AOp.lenSl rfl et_24.ht rfl) ?_
  refine AOps.step ⟨20, rfl, .inl ⟨_, rfl, rfl⟩⟩ rfl rfl (AOp.neq rfl rfl rfl) ?_
  refine AOps.step rfl rfl rfl (AOp.pickF rfl rfl rfl) ?_
  refine AOps.nil ?_
  refine AWP.cond rfl (fun h1 => ?_) (fun h1 => ?_)
  · replace h1 := of_decide_eq_true h1
    exact absurd rfl h1
  · replace h1 := of_decide_eq_false h1
    refine AWP.skip ?_
    refine AWP.seq ?_
    refine AWP.seq ?_
    refine AWP.region ?_
    refine AOps.step rfl rfl rfl (AOp.fieldAddr rfl fo_26_2 rfl) ?_
    refine AOps.step rfl rfl rfl (AOp.load rfl sc_24 rfl) ?_
    refine AOps.step rfl rfl rfl (AOp.lenSl rfl et_24.ht rfl) ?_
    refine AOps.step rfl rfl rfl (AOp.moveD rfl rfl) ?_
    refine AOps.nil ?_
    refine AWP.block ?_
    refine AWP.loop (G := Nat) (fun k => Env.of [(32, .d (.v (.int .i64 (k : Int)))), (31, .d (.v (.int .i64 ((v.copies.map Cpy.ds).length : Int)))), (2, .d (.fp v.ds)), (3, .d (.fp v.ds))]) (fun k => []) (fun k => k ≤ v.copies.length) (fun k => v.copies.length - k) 0 (Nat.zero_le _) (Sub.less ⟨(SLe.of_eq rfl), SLe.refl _, SLe.refl _, SLe.refl _, trivial⟩ (fun _ h => h)) ?_
    intro k hk
    refine AWP.seq ?_
    refine AWP.region ?_
    refine AOps.step rfl rfl rfl (AOp.lss rfl rfl rfl) ?_
    refine AOps.nil ?_
    refine AWP.seq ?_
    refine AWP.cond rfl (fun h2 => ?_) (fun h2 => ?_)
    · replace h2 := of_decide_eq_true h2
      rw [List.length_map] at h2
      have hlt : k < v.copies.length := by omega
      refine AWP.skip ?_
      refine AWP.seq ?_
      refine AWP.block ?_
      refine AWP.seq ?_
      refine AWP.region ?_
      refine AOps.step rfl rfl rfl (AOp.moveD rfl rfl) ?_
      refine AOps.step rfl rfl rfl (AOp.assignD rfl rfl) ?_
      refine AOps.nil ?_
      refine AWP.seq ?_
      refine AWP.draw (by kernel_rfl) (by kernel_rfl) ?_
      refine DRun.step rfl rfl rfl (AOp.fieldAddr rfl fo_26_2 rfl) ?_
      refine DRun.step rfl rfl rfl (AOp.load rfl sc_24 rfl) ?_
      refine DRun.step rfl rfl rfl (AOp.moveD rfl rfl) ?_
      refine DRun.step rfl rfl rfl (AOp.indexAddr rfl et_24 rfl rfl k rfl (at_list hlt) rfl) ?_
      refine DRun.step rfl rfl rfl (AOp.loadAgg rfl ag_77 rfl rfl) ?_
      refine DRun.step rfl rfl rfl (AOp.fieldAddr rfl fo_26_2 rfl) ?_
      refine DRun.step rfl rfl rfl (AOp.load rfl sc_24 rfl) ?_
      refine DRun.step rfl rfl rfl (AOp.moveD rfl rfl) ?_
      refine DRun.step rfl rfl rfl (AOp.indexAddr rfl et_24 rfl rfl k rfl (at_list hlt) rfl) ?_
      refine DRun.step rfl rfl rfl (AOp.loadAgg rfl ag_77 rfl rfl) ?_
      refine DRun.step rfl rfl rfl (AOp.call rfl (.cons (ArgOk.rfl' rfl) (.cons (ArgOk.rfl' rfl) .nil)) (c_sameC v.copies[k])) ?_
      refine DRun.step rfl rfl rfl (AOp.not rfl rfl) ?_
      refine DRun.nil ?_
      refine AWP.cond rfl (fun h => nomatch h) (fun _ => ?_)
      refine AWP.skip ?_
      refine AWP.region ?_
      refine AOps.step rfl rfl rfl (AOp.add64 rfl rfl rfl (by omega) (by omega)) ?_
      refine AOps.step rfl rfl rfl (AOp.moveD rfl rfl) ?_
      refine AOps.nil ?_
      refine ⟨k + 1, (by omega), (by dsimp only; omega), Sub.less ⟨(SLe.of_eq rfl), SLe.refl _, SLe.refl _, SLe.refl _, trivial⟩ (fun _ h => h)⟩
    · replace h2 := of_decide_eq_false h2
      refine AWP.exit ?_
      refine AWP.seq ?_
      refine AWP.region ?_
      refine AOps.step rfl rfl rfl (AOp.assignD rfl rfl) ?_
      refine AOps.nil ?_
      refine AWP.ret ?_
      refine ⟨RetD.eq rfl ?_, trivial⟩
      all_goals (rfl)


def sumL (L : List (List Dn)) : Nat := (L.map List.length).sum
theorem sumL_flat (L : List (List Dn)) : sumL L = L.flatten.length := by unfold sumL; rw [List.length_flatten]
theorem sumL_take {L : List (List Dn)} {k : Nat} (h : k < L.length) : sumL (L.take (k + 1)) = sumL (L.take k) + L[k].length := by
  unfold sumL
  rw [List.take_add_one, List.getElem?_eq_getElem h, Option.toList_some, List.map_append, List.sum_append]
  simp
theorem sumL_le (L : List (List Dn)) (k : Nat) : sumL (L.take k) ≤ sumL L := by
  have h : sumL L = sumL (L.take k) + sumL (L.drop k) := by
    unfold sumL
    rw [← List.sum_append, ← List.map_append, List.take_append_drop]
  omega
def llD (x : List Dn) : List D := [.sl (x.map Dn.ds)]


set_option maxRecDepth 100000 in
set_option maxHeartbeats 1000000 in
theorem c_concat (L : List (List Dn)) (hL : L.length ≤ 1000) (hs : L.flatten.length ≤ 100000) : ACall Tryd.prog 24 [.sl (L.map llD)] (.sl (L.flatten.map Dn.ds)) := by
  refine acall_of (n := 36) (ds' := [.sl (L.flatten.map Dn.ds)]) Tryd.func24 rfl (by kernel_rfl) rfl [2] rfl rfl ?_
  intro B w0 F0 fr
  have hsum := sumL_flat L
  refine AWP.seq ?_
  refine AWP.region ?_
  refine AOps.step rfl rfl rfl (AOp.assignD rfl rfl) ?_
  refine AOps.nil ?_
  refine AWP.seq ?_
  refine AWP.region ?_
  refine AOps.step rfl rfl rfl (AOp.assignD rfl rfl) ?_
  refine AOps.nil ?_
  refine AWP.seq ?_
  refine AWP.seq ?_
  refine AWP.region ?_
  refine AOps.step rfl rfl rfl (AOp.moveD rfl rfl) ?_
  refine AOps.step rfl rfl rfl (AOp.lenSl rfl et_117.ht rfl) ?_
  refine AOps.step rfl rfl rfl (AOp.moveD rfl rfl) ?_
  refine AOps.nil ?_
  refine AWP.block ?_
  refine AWP.loop (G := Nat) (fun k => Env.of [(11, .d (.v (.int .i64 (k : Int)))), (9, .d (.sl (L.map llD))), (10, .d (.v (.int .i64 ((L.map llD).length : Int)))), (3, .d (.v (.int .i64 (sumL (L.take k) : Int)))), (0, .d (.sl (L.map llD)))]) (fun k => []) (fun k => k ≤ L.length) (fun k => L.length - k) 0 (Nat.zero_le _) (Sub.less ⟨(SLe.of_eq rfl), SLe.refl _, SLe.refl _, SLe.refl _, SLe.refl _, trivial⟩ (fun _ h => h)) ?_
  intro k hk
  refine AWP.seq ?_
  refine AWP.region ?_
  refine AOps.step rfl rfl rfl (AOp.lss rfl rfl rfl) ?_
  refine AOps.nil ?_
  refine AWP.seq ?_
  refine AWP.cond rfl (fun h1 => ?_) (fun h1 => ?_)
  · replace h1 := of_decide_eq_true h1
    rw [List.length_map] at h1
    have hlt : k < L.length := by omega
    have h1 := sumL_take hlt
    have h2 := sumL_le L (k + 1)
    refine AWP.skip ?_
    refine AWP.seq ?_
    refine AWP.block ?_
    refine AWP.seq ?_
    refine AWP.region ?_
    refine AOps.step rfl rfl rfl (AOp.indexAddr rfl et_117 rfl rfl k rfl (at_list hlt) rfl) ?_
    refine AOps.step rfl rfl rfl (AOp.load rfl sc_49 rfl) ?_
    refine AOps.step rfl rfl rfl (AOp.assignD rfl rfl) ?_
    refine AOps.nil ?_
    refine AWP.seq ?_
    refine AWP.region ?_
    refine AOps.step rfl rfl rfl (AOp.moveD rfl rfl) ?_
    refine AOps.step rfl rfl rfl (AOp.moveD rfl rfl) ?_
    refine AOps.step rfl rfl rfl (AOp.lenSl rfl et_49.ht rfl) ?_
    refine AOps.step rfl rfl rfl (AOp.add64 rfl rfl rfl (by rw [List.length_map]; omega) (by rw [List.length_map]; omega)) ?_
    refine AOps.step rfl rfl rfl (AOp.assignD rfl rfl) ?_
    refine AOps.nil ?_
    refine AWP.seq ?_
    refine AWP.region ?_
    refine AOps.step rfl rfl rfl (AOp.moveD rfl rfl) ?_
    refine AOps.step rfl rfl rfl (AOp.lss rfl rfl rfl) ?_
    refine AOps.nil ?_
    refine AWP.cond rfl (fun h2 => ?_) (fun h2 => ?_)
    · replace h2 := of_decide_eq_true h2
      rw [List.length_map] at h2; omega
    · replace h2 := of_decide_eq_false h2
      refine AWP.skip ?_
      refine AWP.region ?_
      refine AOps.step rfl rfl rfl (AOp.add64 rfl rfl rfl (by omega) (by omega)) ?_
      refine AOps.step rfl rfl rfl (AOp.moveD rfl rfl) ?_
      refine AOps.nil ?_
      refine ⟨k + 1, (by omega), (by dsimp only; omega), Sub.less ⟨(SLe.of_eq rfl), SLe.refl _, SLe.refl _, (SLe.i64 (by rw [List.length_map, h1]; omega)), SLe.refl _, trivial⟩ (fun _ h => h)⟩
  · replace h1 := of_decide_eq_false h1
    rw [List.length_map] at h1
    obtain rfl : k = L.length := by omega
    refine AWP.exit ?_
    refine AWP.seq ?_
    refine AWP.region ?_
    refine AOps.step rfl rfl rfl (AOp.moveD rfl rfl) ?_
    refine AOps.callO 101 rfl rfl rfl rfl (.cons (ArgOk.rfl' rfl) (.cons ⟨_, rfl, Le.of_eq (by rw [List.take_length])⟩ .nil)) (c_growD (sumL L) (by omega)) rfl ?_
    refine AOps.step rfl rfl rfl (AOp.assignO rfl rfl) ?_
    refine AOps.nil ?_
    refine AWP.seq ?_
    refine AWP.seq ?_
    refine AWP.region ?_
    refine AOps.step rfl rfl rfl (AOp.moveD rfl rfl) ?_
    refine AOps.step rfl rfl rfl (AOp.lenSl rfl et_117.ht rfl) ?_
    refine AOps.step rfl rfl rfl (AOp.moveD rfl rfl) ?_
    refine AOps.nil ?_
    refine AWP.block ?_
    refine AWP.loop (G := Nat) (fun k => Env.of [(27, .d (.v (.int .i64 (k : Int)))), (25, .d (.sl (L.map llD))), (26, .d (.v (.int .i64 ((L.map llD).length : Int)))), (6, .own 101)]) (fun k => [(101, .row 53 5 ((L.take k).flatten.map Dn.ds))]) (fun k => k ≤ L.length) (fun k => L.length - k) 0 (Nat.zero_le _) (Sub.less ⟨(SLe.of_eq rfl), SLe.refl _, SLe.refl _, SLe.refl _, trivial⟩ (row_same rfl)) ?_
    intro k hk
    refine AWP.seq ?_
    refine AWP.region ?_
    refine AOps.step rfl rfl rfl (AOp.lss rfl rfl rfl) ?_
    refine AOps.nil ?_
    refine AWP.seq ?_
    refine AWP.cond rfl (fun h3 => ?_) (fun h3 => ?_)
    · replace h3 := of_decide_eq_true h3
      rw [List.length_map] at h3
      have hlt : k < L.length := by omega
      have h1 := sumL_take hlt
      have h2 := sumL_le L (k + 1)
      have h3 := sumL_flat (L.take k)
      have hF : (L.take (k + 1)).flatten = (L.take k).flatten ++ L[k] := by rw [List.take_add_one, List.getElem?_eq_getElem hlt, Option.toList_some, List.flatten_append]; simp
      refine AWP.skip ?_
      refine AWP.seq ?_
      refine AWP.block ?_
      refine AWP.seq ?_
      refine AWP.region ?_
      refine AOps.step rfl rfl rfl (AOp.indexAddr rfl et_117 rfl rfl k rfl (at_list hlt) rfl) ?_
      refine AOps.step rfl rfl rfl (AOp.load rfl sc_49 rfl) ?_
      refine AOps.step rfl rfl rfl (AOp.assignD rfl rfl) ?_
      refine AOps.nil ?_
      refine AWP.region ?_
      refine AOps.step rfl rfl rfl (AOp.moveO rfl rfl) ?_
      refine AOps.step rfl rfl rfl (AOp.moveD rfl rfl) ?_
      -- append 33
      refine AOps.append rfl rfl rfl rfl et_49 rfl (.head _) rfl (fun y hy => by obtain ⟨x, _, rfl⟩ := List.mem_map.1 hy; rfl) (by simp only [List.length_map]; omega) (by simp only [List.length_map]; omega) ?_
      refine AOps.step rfl rfl rfl (AOp.assignO rfl rfl) ?_
      refine AOps.nil ?_
      refine AWP.region ?_
      refine AOps.step rfl rfl rfl (AOp.add64 rfl rfl rfl (by omega) (by omega)) ?_
      refine AOps.step rfl rfl rfl (AOp.moveD rfl rfl) ?_
      refine AOps.nil ?_
      refine ⟨k + 1, (by omega), (by dsimp only; omega), Sub.less ⟨(SLe.of_eq rfl), SLe.refl _, SLe.refl _, SLe.refl _, trivial⟩ (row_same (by rw [hF, List.map_append]))⟩
    · replace h3 := of_decide_eq_false h3
      rw [List.length_map] at h3
      obtain rfl : k = L.length := by omega
      refine AWP.exit ?_
      refine AWP.seq ?_
      refine AWP.region ?_
      refine AOps.step rfl rfl rfl (AOp.moveO rfl rfl) ?_
      refine AOps.step rfl rfl rfl (AOp.assignO rfl rfl) ?_
      refine AOps.nil ?_
      refine AWP.ret ?_
      refine ⟨RetD.own rfl (.head _) ?_, trivial⟩
      all_goals (rw [List.take_length])

end Go.Proofs.YtieccphckobhjaaDoor


namespace Go.Proofs.YtieccphckobhjaaDoor
open Go.RowKit
set_option linter.unusedVariables false

/-! Types. -/
namespace TyQB
theorem ag_26 : AggT Tryd.prog 26 3 := .of (by kernel_rfl)
theorem ag_28 : AggT Tryd.prog 28 6 := .of (by kernel_rfl)
theorem et_117 : ElemTy Tryd.prog 117 49 1 24 (.slice none 0 0) := ⟨by kernel_rfl, by kernel_rfl, by kernel_rfl, by decide⟩
theorem et_48 : ElemTy Tryd.prog 48 57 4 48 (.agg #[(.int .i64 0), (.string ⟨#[]⟩), (.string ⟨#[]⟩), (.int .i64 0)]) := ⟨by kernel_rfl, by kernel_rfl, by kernel_rfl, by decide⟩
theorem et_49 : ElemTy Tryd.prog 49 53 5 56 (.agg #[(.int .i64 0), (.string ⟨#[]⟩), (.string ⟨#[]⟩), (.int .i64 0), (.int .i64 0)]) := ⟨by kernel_rfl, by kernel_rfl, by kernel_rfl, by decide⟩
theorem fo_57_0 : fieldOff Tryd.prog 57 0 = some 0 := by kernel_rfl
theorem sc_3 : Scal Tryd.prog 3 := .of (by kernel_rfl)
theorem sz_26 : ∀ w, (sizeOf 26).run Tryd.prog w = .ok 3 w := SizeT.of (by kernel_rfl)
theorem zt_26 : (Tryd.prog.info? 26).bind (·.zero) = some (.agg #[(.slice none 0 0), (.slice none 0 0), (.slice none 0 0)]) := by kernel_rfl
end TyQB
open TyQB


theorem takeH {hs : List Hrm} {k : Nat} : (hs.map Hrm.ds).take (Int.toNat (k : Int)) = (hs.take k).map Hrm.ds := by rw [Int.toNat_natCast, List.map_take]
theorem dropH {hs : List Hrm} {k : Nat} : (hs.map Hrm.ds).drop (Int.toNat (k : Int)) = (hs.drop k).map Hrm.ds := by rw [Int.toNat_natCast, List.map_drop]
theorem dropge {hs : List Hrm} {k : Nat} {mid : Int} (hp : hs.Pairwise fun a b => a.day ≤ b.day) (hk : k < hs.length) (h : ¬ hs[k].day < mid) : ∀ x ∈ hs.drop k, mid ≤ x.day := fun x hx => by
  obtain ⟨j, hj, rfl⟩ := List.mem_iff_getElem.1 hx
  rw [List.getElem_drop]
  have hjl : k + j < hs.length := by rw [List.length_drop] at hj; omega
  by_cases e : j = 0
  · subst e
    have : hs[k + 0] = hs[k] := rfl
    rw [this]; omega
  · have := List.pairwise_iff_getElem.1 hp k (k + j) hk hjl (by omega)
    omega
theorem takelt {hs : List Hrm} {k : Nat} {mid : Int} (hk : k < hs.length) (h : ∀ x ∈ hs.take k, x.day < mid) (h2 : hs[k].day < mid) : ∀ x ∈ hs.take (k + 1), x.day < mid := fun x hx => by
  rw [List.take_add_one, List.getElem?_eq_getElem hk] at hx
  simp only [Option.toList_some, List.mem_append, List.mem_singleton] at hx
  rcases hx with hx | hx
  · exact h x hx
  · rw [hx]; exact h2
theorem small_live {v : Vlt} {p : Pol} {frm to : Int} {hs : List Hrm} (h : liveFault v p frm to hs = 0) (hs' : smallV v) : smallV (liveV v p frm to hs) := by
  unfold liveV
  rw [if_pos h]
  exact hs'


set_option maxRecDepth 100000 in
set_option maxHeartbeats 4000000 in
theorem lawOn (v : Vlt) (p : Pol) (frm mid to : Int) (hs : List Hrm) (hsm : smallV v) : ACall Tryd.prog 7 [.agg v.ds, .agg p.ds, .v (.int .i64 frm), .v (.int .i64 mid), .v (.int .i64 to), .sl (hs.map Hrm.ds)] (.v (.bool true)) := by
  refine acall_of (n := 111) (ds' := [.v (.bool true)]) Tryd.func7 rfl (by kernel_rfl) rfl [12] rfl rfl ?_
  intro B w0 F0 fr
  refine AWP.seq ?_
  refine AWP.region ?_
  refine AOps.step rfl rfl rfl (AOp.box rfl rfl rfl) ?_
  refine AOps.step rfl rfl rfl (AOp.box rfl rfl rfl) ?_
  refine AOps.step rfl rfl rfl (AOp.assignD rfl rfl) ?_
  refine AOps.nil ?_
  refine AWP.seq ?_
  refine AWP.seq ?_
  refine AWP.region ?_
  refine AOps.step rfl rfl rfl (AOp.moveD rfl rfl) ?_
  refine AOps.step rfl rfl rfl (AOp.moveD rfl rfl) ?_
  refine AOps.step rfl rfl rfl (AOp.gtr rfl rfl rfl) ?_
  refine AOps.step rfl rfl rfl (AOp.moveD rfl rfl) ?_
  refine AOps.split 24 rfl (fun g1 => ?_) (fun g1 => ?_)
  · replace g1 := of_decide_eq_true g1
    refine AOps.pass ⟨24, rfl, .inl ⟨_, rfl, rfl⟩⟩ rfl rfl ?_
    refine AOps.pass ⟨24, rfl, .inl ⟨_, rfl, rfl⟩⟩ rfl rfl ?_
    refine AOps.pass ⟨24, rfl, .inl ⟨_, rfl, rfl⟩⟩ rfl rfl ?_
    refine AOps.step rfl rfl rfl (AOp.pickT rfl rfl rfl) ?_
    refine AOps.step rfl rfl rfl (AOp.moveD rfl rfl) ?_
    refine AOps.pass ⟨29, rfl, .inl ⟨_, rfl, rfl⟩⟩ rfl rfl ?_
    refine AOps.pass ⟨29, rfl, .inl ⟨_, rfl, rfl⟩⟩ rfl rfl ?_
    refine AOps.step rfl rfl rfl (AOp.pickT rfl rfl rfl) ?_
    refine AOps.nil ?_
    refine AWP.cond rfl (fun _ => ?_) (fun h => nomatch h)
    refine AWP.seq ?_
    refine AWP.region ?_
    refine AOps.step rfl rfl rfl (AOp.call rfl .nil c_awake) ?_
    refine AOps.step rfl rfl rfl (AOp.assignD rfl rfl) ?_
    refine AOps.nil ?_
    refine AWP.ret ?_
    refine ⟨RetD.eq rfl ?_, trivial⟩
    all_goals (simp)
  · replace g1 := of_decide_eq_false g1
    refine AOps.step ⟨24, rfl, .inl ⟨_, rfl, rfl⟩⟩ rfl rfl (AOp.moveD rfl rfl) ?_
    refine AOps.step ⟨24, rfl, .inl ⟨_, rfl, rfl⟩⟩ rfl rfl (AOp.moveD rfl rfl) ?_
    refine AOps.step ⟨24, rfl, .inl ⟨_, rfl, rfl⟩⟩ rfl rfl (AOp.gtr rfl rfl rfl) ?_
    refine AOps.step rfl rfl rfl (AOp.pickF rfl rfl rfl) ?_
    refine AOps.step rfl rfl rfl (AOp.moveD rfl rfl) ?_
    refine AOps.split 29 rfl (fun g2 => ?_) (fun g2 => ?_)
    · replace g2 := of_decide_eq_true g2
      refine AOps.pass ⟨29, rfl, .inl ⟨_, rfl, rfl⟩⟩ rfl rfl ?_
      refine AOps.pass ⟨29, rfl, .inl ⟨_, rfl, rfl⟩⟩ rfl rfl ?_
      refine AOps.step rfl rfl rfl (AOp.pickT rfl rfl rfl) ?_
      refine AOps.nil ?_
      refine AWP.cond rfl (fun _ => ?_) (fun h => nomatch h)
      refine AWP.seq ?_
      refine AWP.region ?_
      refine AOps.step rfl rfl rfl (AOp.call rfl .nil c_awake) ?_
      refine AOps.step rfl rfl rfl (AOp.assignD rfl rfl) ?_
      refine AOps.nil ?_
      refine AWP.ret ?_
      refine ⟨RetD.eq rfl ?_, trivial⟩
      all_goals (simp)
    · replace g2 := of_decide_eq_false g2
      refine AOps.step ⟨29, rfl, .inl ⟨_, rfl, rfl⟩⟩ rfl rfl (AOp.moveD rfl rfl) ?_
      refine AOps.step ⟨29, rfl, .inl ⟨_, rfl, rfl⟩⟩ rfl rfl (AOp.gtr rfl rfl rfl) ?_
      refine AOps.step rfl rfl rfl (AOp.pickF rfl rfl rfl) ?_
      refine AOps.nil ?_
      refine AWP.cond rfl (fun h3 => ?_) (fun h3 => ?_)
      · replace h3 := of_decide_eq_true h3
        refine AWP.seq ?_
        refine AWP.region ?_
        refine AOps.step rfl rfl rfl (AOp.call rfl .nil c_awake) ?_
        refine AOps.step rfl rfl rfl (AOp.assignD rfl rfl) ?_
        refine AOps.nil ?_
        refine AWP.ret ?_
        refine ⟨RetD.eq rfl ?_, trivial⟩
        all_goals (simp)
      · replace h3 := of_decide_eq_false h3
        refine AWP.skip ?_
        refine AWP.seq ?_
        refine AWP.region ?_
        refine AOps.step rfl rfl rfl (AOp.loadAgg rfl ag_26 rfl rfl) ?_
        refine AOps.step rfl rfl rfl (AOp.loadAgg rfl ag_28 rfl rfl) ?_
        refine AOps.step rfl rfl rfl (AOp.moveD rfl rfl) ?_
        refine AOps.step rfl rfl rfl (AOp.moveD rfl rfl) ?_
        refine AOps.step rfl rfl rfl (AOp.moveD rfl rfl) ?_
        refine AOps.step rfl rfl rfl (AOp.call rfl (.cons (ArgOk.rfl' rfl) (.cons (ArgOk.rfl' rfl) (.cons (ArgOk.rfl' rfl) (.cons (ArgOk.rfl' rfl) (.cons (ArgOk.rfl' rfl) .nil))))) (c_live v p frm to hs hsm)) ?_
        refine AOps.step rfl rfl rfl (AOp.moveD rfl rfl) ?_
        refine AOps.step rfl rfl rfl (AOp.extract rfl rfl rfl) ?_
        refine AOps.step rfl rfl rfl (AOp.extract rfl rfl rfl) ?_
        refine AOps.step rfl rfl rfl (AOp.extract rfl rfl rfl) ?_
        refine AOps.alloc 101 rfl rfl rfl rfl zt_26 rfl rfl rfl ?_
        refine AOps.store rfl rfl rfl sz_26 rfl (.head _) rfl rfl rfl (Nat.le_of_ble_eq_true rfl) ?_
        refine AOps.freezeCells 13 (ds := (liveV v p frm to hs).ds) rfl (.head _) ?_
        refine AOps.step rfl rfl rfl (AOp.assignD rfl rfl) ?_
        refine AOps.step rfl rfl rfl (AOp.assignD rfl rfl) ?_
        refine AOps.nil ?_
        refine AWP.seq ?_
        refine AWP.seq ?_
        refine AWP.region ?_
        refine AOps.step rfl rfl rfl (AOp.moveD rfl rfl) ?_
        refine AOps.step rfl rfl rfl (AOp.neq rfl rfl rfl) ?_
        refine AOps.nil ?_
        refine AWP.cond rfl (fun h4 => ?_) (fun h4 => ?_)
        · replace h4 := of_decide_eq_true h4
          obtain ⟨_, HO⟩ := live_bad h4
          refine AWP.seq ?_
          refine AWP.region ?_
          refine AOps.step rfl rfl rfl (AOp.moveD rfl rfl) ?_
          refine AOps.step rfl rfl rfl (AOp.lenSl rfl et_49.ht rfl) ?_
          refine AOps.step rfl rfl rfl (AOp.eql rfl rfl rfl) ?_
          refine AOps.step rfl rfl rfl (AOp.moveD rfl rfl) ?_
          refine AOps.split 49 rfl (fun g5 => ?_) (fun g5 => ?_)
          · replace g5 := of_decide_eq_true g5
            refine AOps.step ⟨49, rfl, .inl ⟨_, rfl, rfl⟩⟩ rfl rfl (AOp.call rfl .nil c_awake) ?_
            refine AOps.step rfl rfl rfl (AOp.pickT rfl rfl rfl) ?_
            refine AOps.step rfl rfl rfl (AOp.assignD rfl rfl) ?_
            refine AOps.nil ?_
            refine AWP.ret ?_
            refine ⟨RetD.eq rfl ?_, trivial⟩
            all_goals (simp)
          · replace g5 := of_decide_eq_false g5
            exact absurd (by rw [HO]; rfl) g5
        · replace h4 := of_decide_eq_false h4
          have hf0 := Decidable.not_not.1 h4
          have ok := lvok_of hf0
          have hl := ok.hh.len
          have hvk := ok.vok
          have hnp : (liveV v p frm to hs).copies.length ≤ 200 := by unfold liveV; rw [if_pos hf0]; exact hvk.np
          have hlo : (liveO v p frm to hs).length ≤ 20000 := by unfold liveO; rw [if_pos hf0]; exact ok.out
          refine AWP.skip ?_
          refine AWP.seq ?_
          refine AWP.region ?_
          refine AOps.step rfl rfl rfl (AOp.assignD rfl rfl) ?_
          refine AOps.nil ?_
          refine AWP.seq ?_
          refine AWP.block ?_
          refine AWP.loop (G := Nat) (fun k => Env.of [(16, .d (.v (.int .i64 (k : Int)))), (5, .d (.sl (hs.map Hrm.ds))), (2, .d (.v (.int .i64 frm))), (3, .d (.v (.int .i64 mid))), (4, .d (.v (.int .i64 to))), (6, .d (.fp v.ds)), (7, .d (.fp p.ds)), (13, .d (.fp (liveV v p frm to hs).ds)), (14, .d (.sl ((liveO v p frm to hs).map Dn.ds)))]) (fun k => []) (fun k => k ≤ hs.length ∧ ∀ x ∈ hs.take k, x.day < mid) (fun k => hs.length - k) 0 ⟨Nat.zero_le _, fun x h => by simp at h⟩ (Sub.less ⟨(SLe.of_eq rfl), SLe.refl _, SLe.refl _, SLe.refl _, SLe.refl _, SLe.refl _, SLe.refl _, SLe.refl _, SLe.refl _, trivial⟩ (fun _ h => h)) ?_
          intro k hk
          refine AWP.seq ?_
          refine AWP.seq ?_
          refine AWP.region ?_
          refine AOps.step rfl rfl rfl (AOp.moveD rfl rfl) ?_
          refine AOps.step rfl rfl rfl (AOp.moveD rfl rfl) ?_
          refine AOps.step rfl rfl rfl (AOp.lenSl rfl et_48.ht rfl) ?_
          refine AOps.step rfl rfl rfl (AOp.lss rfl rfl rfl) ?_
          refine AOps.step rfl rfl rfl (AOp.moveD rfl rfl) ?_
          refine AOps.split 56 rfl (fun g6 => ?_) (fun g6 => ?_)
          · replace g6 := of_decide_eq_true g6
            rw [List.length_map] at g6
            have hlt : k < hs.length := by omega
            refine AOps.step ⟨56, rfl, .inl ⟨_, rfl, rfl⟩⟩ rfl rfl (AOp.moveD rfl rfl) ?_
            refine AOps.step ⟨56, rfl, .inl ⟨_, rfl, rfl⟩⟩ rfl rfl (AOp.moveD rfl rfl) ?_
            refine AOps.step ⟨56, rfl, .inl ⟨_, rfl, rfl⟩⟩ rfl rfl (AOp.indexAddr rfl et_48 rfl rfl k rfl (at_list hlt) rfl) ?_
            refine AOps.step ⟨56, rfl, .inl ⟨_, rfl, rfl⟩⟩ rfl rfl (AOp.fieldAddr rfl fo_57_0 rfl) ?_
            refine AOps.step ⟨56, rfl, .inl ⟨_, rfl, rfl⟩⟩ rfl rfl (AOp.load rfl sc_3 rfl) ?_
            refine AOps.step ⟨56, rfl, .inl ⟨_, rfl, rfl⟩⟩ rfl rfl (AOp.moveD rfl rfl) ?_
            refine AOps.step ⟨56, rfl, .inl ⟨_, rfl, rfl⟩⟩ rfl rfl (AOp.lss rfl rfl rfl) ?_
            refine AOps.step rfl rfl rfl (AOp.pickT rfl rfl rfl) ?_
            refine AOps.nil ?_
            refine AWP.cond rfl (fun h7 => ?_) (fun h7 => ?_)
            · replace h7 := of_decide_eq_true h7
              have hN := takelt hlt hk.2 h7
              refine AWP.skip ?_
              refine AWP.block ?_
              refine AWP.region ?_
              refine AOps.step rfl rfl rfl (AOp.moveD rfl rfl) ?_
              refine AOps.step rfl rfl rfl (AOp.add64 rfl rfl rfl (by omega) (by omega)) ?_
              refine AOps.step rfl rfl rfl (AOp.assignD rfl rfl) ?_
              refine AOps.nil ?_
              refine ⟨k + 1, ⟨by omega, hN⟩, (by dsimp only; omega), Sub.less ⟨(SLe.of_eq rfl), SLe.refl _, SLe.refl _, SLe.refl _, SLe.refl _, SLe.refl _, SLe.refl _, SLe.refl _, SLe.refl _, trivial⟩ (fun _ h => by cases h)⟩
            · replace h7 := of_decide_eq_false h7
              have hK := dropge ok.hh.sorted hlt h7
              have hm := life_on hf0 (by omega) (by omega) (by omega) hk.2 hK
              have hsm2 := small_live hm.1 hsm
              refine AWP.exit ?_
              refine AWP.seq ?_
              refine AWP.drawFreshL 13 [10, 11] [⟨17, 102, .ptr 102 0, .cells [.d (.v (.slice none 0 0)), .d (.v (.slice none 0 0)), .d (.v (.slice none 0 0))]⟩] (FrOk.one rfl (by simp) rfl rfl rfl) (by kernel_rfl) (by kernel_rfl) (by kernel_rfl) (by kernel_rfl) (by kernel_rfl) ?_
              refine XRun.step rfl rfl rfl (AOp.loadAgg rfl ag_26 rfl rfl) ?_
              refine XRun.step rfl rfl rfl (AOp.loadAgg rfl ag_28 rfl rfl) ?_
              refine XRun.step rfl rfl rfl (AOp.moveD rfl rfl) ?_
              refine XRun.step rfl rfl rfl (AOp.moveD rfl rfl) ?_
              refine XRun.step rfl rfl rfl (AOp.moveD rfl rfl) ?_
              refine XRun.step rfl rfl rfl (AOp.moveD rfl rfl) ?_
              refine XRun.step rfl rfl rfl (AOp.sliceH rfl et_48 rfl rfl (by omega) (by rw [List.length_map]; omega) (fun y hy => by obtain ⟨x, _, rfl⟩ := List.mem_map.1 hy; rfl)) ?_
              refine XRun.step rfl rfl rfl (AOp.call rfl (.cons (ArgOk.rfl' rfl) (.cons (ArgOk.rfl' rfl) (.cons (ArgOk.rfl' rfl) (.cons (ArgOk.rfl' rfl) (.cons ⟨_, rfl, Le.of_eq (congrArg D.sl takeH)⟩ .nil))))) (c_live v p frm mid (hs.take k) hsm)) ?_
              refine XRun.step rfl rfl rfl (AOp.moveD rfl rfl) ?_
              refine XRun.step rfl rfl rfl (AOp.extract rfl rfl rfl) ?_
              refine XRun.step rfl rfl rfl (AOp.extract rfl rfl rfl) ?_
              refine XRun.step rfl rfl rfl (AOp.extract rfl rfl rfl) ?_
              refine XRun.alloc _ (.head _) rfl rfl rfl rfl rfl zt_26 rfl rfl rfl rfl ?_
              refine XRun.nil ⟨rfl, trivial⟩ ?_
              refine AOps.store rfl rfl rfl sz_26 rfl (.head _) rfl rfl rfl (Nat.le_of_ble_eq_true rfl) ?_
              refine AOps.freezeCells 17 (ds := (liveV v p frm mid (hs.take k)).ds) rfl (.head _) ?_
              refine AOps.step rfl rfl rfl (AOp.assignD rfl rfl) ?_
              refine AOps.step rfl rfl rfl (AOp.assignD rfl rfl) ?_
              refine AOps.nil ?_
              refine AWP.seq ?_
              refine AWP.seq ?_
              refine AWP.region ?_
              refine AOps.step rfl rfl rfl (AOp.moveD rfl rfl) ?_
              refine AOps.step rfl rfl rfl (AOp.neq rfl rfl rfl) ?_
              refine AOps.nil ?_
              refine AWP.cond rfl (fun h8 => ?_) (fun h8 => ?_)
              · replace h8 := of_decide_eq_true h8
                exact absurd hm.1 h8
              · replace h8 := of_decide_eq_false h8
                refine AWP.skip ?_
                refine AWP.seq ?_
                refine AWP.drawFreshL 13 [10, 11] [⟨19, 103, .ptr 103 0, .cells [.d (.v (.slice none 0 0)), .d (.v (.slice none 0 0)), .d (.v (.slice none 0 0))]⟩] (FrOk.one rfl (by simp) rfl rfl rfl) (by kernel_rfl) (by kernel_rfl) (by kernel_rfl) (by kernel_rfl) (by kernel_rfl) ?_
                refine XRun.step rfl rfl rfl (AOp.loadAgg rfl ag_26 rfl rfl) ?_
                refine XRun.step rfl rfl rfl (AOp.loadAgg rfl ag_28 rfl rfl) ?_
                refine XRun.step rfl rfl rfl (AOp.moveD rfl rfl) ?_
                refine XRun.step rfl rfl rfl (AOp.moveD rfl rfl) ?_
                refine XRun.step rfl rfl rfl (AOp.moveD rfl rfl) ?_
                refine XRun.step rfl rfl rfl (AOp.moveD rfl rfl) ?_
                refine XRun.step rfl rfl rfl (AOp.sliceL rfl et_48 rfl rfl (by omega) (by rw [List.length_map]; omega) (fun y hy => by obtain ⟨x, _, rfl⟩ := List.mem_map.1 hy; rfl)) ?_
                refine XRun.step rfl rfl rfl (AOp.call rfl (.cons (ArgOk.rfl' rfl) (.cons (ArgOk.rfl' rfl) (.cons (ArgOk.rfl' rfl) (.cons (ArgOk.rfl' rfl) (.cons ⟨_, rfl, Le.of_eq (congrArg D.sl dropH)⟩ .nil))))) (c_live (liveV v p frm mid (hs.take k)) p mid to (hs.drop k) hsm2)) ?_
                refine XRun.step rfl rfl rfl (AOp.moveD rfl rfl) ?_
                refine XRun.step rfl rfl rfl (AOp.extract rfl rfl rfl) ?_
                refine XRun.step rfl rfl rfl (AOp.extract rfl rfl rfl) ?_
                refine XRun.step rfl rfl rfl (AOp.extract rfl rfl rfl) ?_
                refine XRun.alloc _ (.head _) rfl rfl rfl rfl rfl zt_26 rfl rfl rfl rfl ?_
                refine XRun.nil ⟨rfl, trivial⟩ ?_
                refine AOps.store rfl rfl rfl sz_26 rfl (.head _) rfl rfl rfl (Nat.le_of_ble_eq_true rfl) ?_
                refine AOps.freezeCells 19 (ds := (liveV (liveV v p frm mid (hs.take k)) p mid to (hs.drop k)).ds) rfl (.head _) ?_
                refine AOps.step rfl rfl rfl (AOp.assignD rfl rfl) ?_
                refine AOps.step rfl rfl rfl (AOp.assignD rfl rfl) ?_
                refine AOps.nil ?_
                refine AWP.seq ?_
                have HC : [liveO v p frm mid (hs.take k), liveO (liveV v p frm mid (hs.take k)) p mid to (hs.drop k)].flatten = liveO v p frm to hs := by rw [hm.2.2.2]; simp
                refine AWP.region ?_
                refine AOps.step rfl rfl rfl (AOp.moveD rfl rfl) ?_
                refine AOps.step rfl rfl rfl (AOp.eql rfl rfl rfl) ?_
                refine AOps.step rfl rfl rfl (AOp.moveD rfl rfl) ?_
                refine AOps.split 95 rfl (fun g9 => ?_) (fun g9 => ?_)
                · replace g9 := of_decide_eq_true g9
                  refine AOps.step ⟨95, rfl, .inl ⟨_, rfl, rfl⟩⟩ rfl rfl (AOp.loadAgg rfl ag_26 rfl rfl) ?_
                  refine AOps.step ⟨95, rfl, .inl ⟨_, rfl, rfl⟩⟩ rfl rfl (AOp.loadAgg rfl ag_26 rfl rfl) ?_
                  refine AOps.step ⟨95, rfl, .inl ⟨_, rfl, rfl⟩⟩ rfl rfl (AOp.call rfl (.cons (ArgOk.rfl' rfl) (.cons ⟨_, rfl, Le.of_eq (congrArg (fun x => D.agg (Vlt.ds x)) hm.2.2.1.symm)⟩ .nil)) (c_sameV (liveV v p frm to hs) (by omega))) ?_
                  refine AOps.step rfl rfl rfl (AOp.pickT rfl rfl rfl) ?_
                  refine AOps.step rfl rfl rfl (AOp.moveD rfl rfl) ?_
                  refine AOps.step ⟨100, rfl, .inl ⟨_, rfl, rfl⟩⟩ rfl rfl (AOp.moveD rfl rfl) ?_
                  refine AOps.step ⟨100, rfl, .inl ⟨_, rfl, rfl⟩⟩ rfl rfl (AOp.moveD rfl rfl) ?_
                  refine AOps.step ⟨100, rfl, .inl ⟨_, rfl, rfl⟩⟩ rfl rfl (AOp.moveD rfl rfl) ?_
                  refine AOps.step ⟨100, rfl, .inl ⟨_, rfl, rfl⟩⟩ rfl rfl (AOp.buildSlice rfl et_117 (.cons rfl rfl rfl (.cons rfl rfl rfl .nil)) rfl (by decide)) ?_
                  refine AOps.step ⟨100, rfl, .inl ⟨_, rfl, rfl⟩⟩ rfl rfl (AOp.call rfl (.cons (ArgOk.rfl' rfl) .nil) (c_concat [liveO v p frm mid (hs.take k), liveO (liveV v p frm mid (hs.take k)) p mid to (hs.drop k)] (by show 2 ≤ 1000; decide) (by rw [HC]; omega))) ?_
                  refine AOps.step ⟨100, rfl, .inl ⟨_, rfl, rfl⟩⟩ rfl rfl (AOp.call rfl (.cons (ArgOk.rfl' rfl) (.cons ⟨_, rfl, Le.of_eq (congrArg (fun x : List Dn => D.sl (x.map Dn.ds)) HC)⟩ .nil)) (c_eqDn (liveO v p frm to hs))) ?_
                  refine AOps.step rfl rfl rfl (AOp.pickT rfl rfl rfl) ?_
                  refine AOps.step rfl rfl rfl (AOp.moveD rfl rfl) ?_
                  refine AOps.step ⟨108, rfl, .inl ⟨_, rfl, rfl⟩⟩ rfl rfl (AOp.call rfl .nil c_awake) ?_
                  refine AOps.step rfl rfl rfl (AOp.pickT rfl rfl rfl) ?_
                  refine AOps.step rfl rfl rfl (AOp.assignD rfl rfl) ?_
                  refine AOps.nil ?_
                  refine AWP.ret ?_
                  refine ⟨RetD.eq rfl ?_, trivial⟩
                  all_goals (simp)
                · replace g9 := of_decide_eq_false g9
                  exact absurd hm.2.1 g9
          · replace g6 := of_decide_eq_false g6
            rw [List.length_map] at g6
            have hK : ∀ x ∈ hs.drop k, mid ≤ x.day := fun x hx => by rw [List.drop_eq_nil_of_le (by omega)] at hx; cases hx
            have hm := life_on hf0 (by omega) (by omega) (by omega) hk.2 hK
            have hsm2 := small_live hm.1 hsm
            refine AOps.pass ⟨56, rfl, .inl ⟨_, rfl, rfl⟩⟩ rfl rfl ?_
            refine AOps.pass ⟨56, rfl, .inl ⟨_, rfl, rfl⟩⟩ rfl rfl ?_
            refine AOps.pass ⟨56, rfl, .inl ⟨_, rfl, rfl⟩⟩ rfl rfl ?_
            refine AOps.pass ⟨56, rfl, .inl ⟨_, rfl, rfl⟩⟩ rfl rfl ?_
            refine AOps.pass ⟨56, rfl, .inl ⟨_, rfl, rfl⟩⟩ rfl rfl ?_
            refine AOps.pass ⟨56, rfl, .inl ⟨_, rfl, rfl⟩⟩ rfl rfl ?_
            refine AOps.pass ⟨56, rfl, .inl ⟨_, rfl, rfl⟩⟩ rfl rfl ?_
            refine AOps.step rfl rfl rfl (AOp.pickF rfl rfl rfl) ?_
            refine AOps.nil ?_
            refine AWP.cond rfl (fun h => nomatch h) (fun _ => ?_)
            refine AWP.exit ?_
            refine AWP.seq ?_
            refine AWP.drawFreshL 13 [10, 11] [⟨17, 104, .ptr 104 0, .cells [.d (.v (.slice none 0 0)), .d (.v (.slice none 0 0)), .d (.v (.slice none 0 0))]⟩] (FrOk.one rfl (by simp) rfl rfl rfl) (by kernel_rfl) (by kernel_rfl) (by kernel_rfl) (by kernel_rfl) (by kernel_rfl) ?_
            refine XRun.step rfl rfl rfl (AOp.loadAgg rfl ag_26 rfl rfl) ?_
            refine XRun.step rfl rfl rfl (AOp.loadAgg rfl ag_28 rfl rfl) ?_
            refine XRun.step rfl rfl rfl (AOp.moveD rfl rfl) ?_
            refine XRun.step rfl rfl rfl (AOp.moveD rfl rfl) ?_
            refine XRun.step rfl rfl rfl (AOp.moveD rfl rfl) ?_
            refine XRun.step rfl rfl rfl (AOp.moveD rfl rfl) ?_
            refine XRun.step rfl rfl rfl (AOp.sliceH rfl et_48 rfl rfl (by omega) (by rw [List.length_map]; omega) (fun y hy => by obtain ⟨x, _, rfl⟩ := List.mem_map.1 hy; rfl)) ?_
            refine XRun.step rfl rfl rfl (AOp.call rfl (.cons (ArgOk.rfl' rfl) (.cons (ArgOk.rfl' rfl) (.cons (ArgOk.rfl' rfl) (.cons (ArgOk.rfl' rfl) (.cons ⟨_, rfl, Le.of_eq (congrArg D.sl takeH)⟩ .nil))))) (c_live v p frm mid (hs.take k) hsm)) ?_
            refine XRun.step rfl rfl rfl (AOp.moveD rfl rfl) ?_
            refine XRun.step rfl rfl rfl (AOp.extract rfl rfl rfl) ?_
            refine XRun.step rfl rfl rfl (AOp.extract rfl rfl rfl) ?_
            refine XRun.step rfl rfl rfl (AOp.extract rfl rfl rfl) ?_
            refine XRun.alloc _ (.head _) rfl rfl rfl rfl rfl zt_26 rfl rfl rfl rfl ?_
            refine XRun.nil ⟨rfl, trivial⟩ ?_
            refine AOps.store rfl rfl rfl sz_26 rfl (.head _) rfl rfl rfl (Nat.le_of_ble_eq_true rfl) ?_
            refine AOps.freezeCells 17 (ds := (liveV v p frm mid (hs.take k)).ds) rfl (.head _) ?_
            refine AOps.step rfl rfl rfl (AOp.assignD rfl rfl) ?_
            refine AOps.step rfl rfl rfl (AOp.assignD rfl rfl) ?_
            refine AOps.nil ?_
            refine AWP.seq ?_
            refine AWP.seq ?_
            refine AWP.region ?_
            refine AOps.step rfl rfl rfl (AOp.moveD rfl rfl) ?_
            refine AOps.step rfl rfl rfl (AOp.neq rfl rfl rfl) ?_
            refine AOps.nil ?_
            refine AWP.cond rfl (fun h10 => ?_) (fun h10 => ?_)
            · replace h10 := of_decide_eq_true h10
              exact absurd hm.1 h10
            · replace h10 := of_decide_eq_false h10
              refine AWP.skip ?_
              refine AWP.seq ?_
              refine AWP.drawFreshL 13 [10, 11] [⟨19, 105, .ptr 105 0, .cells [.d (.v (.slice none 0 0)), .d (.v (.slice none 0 0)), .d (.v (.slice none 0 0))]⟩] (FrOk.one rfl (by simp) rfl rfl rfl) (by kernel_rfl) (by kernel_rfl) (by kernel_rfl) (by kernel_rfl) (by kernel_rfl) ?_
              refine XRun.step rfl rfl rfl (AOp.loadAgg rfl ag_26 rfl rfl) ?_
              refine XRun.step rfl rfl rfl (AOp.loadAgg rfl ag_28 rfl rfl) ?_
              refine XRun.step rfl rfl rfl (AOp.moveD rfl rfl) ?_
              refine XRun.step rfl rfl rfl (AOp.moveD rfl rfl) ?_
              refine XRun.step rfl rfl rfl (AOp.moveD rfl rfl) ?_
              refine XRun.step rfl rfl rfl (AOp.moveD rfl rfl) ?_
              refine XRun.step rfl rfl rfl (AOp.sliceL rfl et_48 rfl rfl (by omega) (by rw [List.length_map]; omega) (fun y hy => by obtain ⟨x, _, rfl⟩ := List.mem_map.1 hy; rfl)) ?_
              refine XRun.step rfl rfl rfl (AOp.call rfl (.cons (ArgOk.rfl' rfl) (.cons (ArgOk.rfl' rfl) (.cons (ArgOk.rfl' rfl) (.cons (ArgOk.rfl' rfl) (.cons ⟨_, rfl, Le.of_eq (congrArg D.sl dropH)⟩ .nil))))) (c_live (liveV v p frm mid (hs.take k)) p mid to (hs.drop k) hsm2)) ?_
              refine XRun.step rfl rfl rfl (AOp.moveD rfl rfl) ?_
              refine XRun.step rfl rfl rfl (AOp.extract rfl rfl rfl) ?_
              refine XRun.step rfl rfl rfl (AOp.extract rfl rfl rfl) ?_
              refine XRun.step rfl rfl rfl (AOp.extract rfl rfl rfl) ?_
              refine XRun.alloc _ (.head _) rfl rfl rfl rfl rfl zt_26 rfl rfl rfl rfl ?_
              refine XRun.nil ⟨rfl, trivial⟩ ?_
              refine AOps.store rfl rfl rfl sz_26 rfl (.head _) rfl rfl rfl (Nat.le_of_ble_eq_true rfl) ?_
              refine AOps.freezeCells 19 (ds := (liveV (liveV v p frm mid (hs.take k)) p mid to (hs.drop k)).ds) rfl (.head _) ?_
              refine AOps.step rfl rfl rfl (AOp.assignD rfl rfl) ?_
              refine AOps.step rfl rfl rfl (AOp.assignD rfl rfl) ?_
              refine AOps.nil ?_
              refine AWP.seq ?_
              have HC : [liveO v p frm mid (hs.take k), liveO (liveV v p frm mid (hs.take k)) p mid to (hs.drop k)].flatten = liveO v p frm to hs := by rw [hm.2.2.2]; simp
              refine AWP.region ?_
              refine AOps.step rfl rfl rfl (AOp.moveD rfl rfl) ?_
              refine AOps.step rfl rfl rfl (AOp.eql rfl rfl rfl) ?_
              refine AOps.step rfl rfl rfl (AOp.moveD rfl rfl) ?_
              refine AOps.split 95 rfl (fun g11 => ?_) (fun g11 => ?_)
              · replace g11 := of_decide_eq_true g11
                refine AOps.step ⟨95, rfl, .inl ⟨_, rfl, rfl⟩⟩ rfl rfl (AOp.loadAgg rfl ag_26 rfl rfl) ?_
                refine AOps.step ⟨95, rfl, .inl ⟨_, rfl, rfl⟩⟩ rfl rfl (AOp.loadAgg rfl ag_26 rfl rfl) ?_
                refine AOps.step ⟨95, rfl, .inl ⟨_, rfl, rfl⟩⟩ rfl rfl (AOp.call rfl (.cons (ArgOk.rfl' rfl) (.cons ⟨_, rfl, Le.of_eq (congrArg (fun x => D.agg (Vlt.ds x)) hm.2.2.1.symm)⟩ .nil)) (c_sameV (liveV v p frm to hs) (by omega))) ?_
                refine AOps.step rfl rfl rfl (AOp.pickT rfl rfl rfl) ?_
                refine AOps.step rfl rfl rfl (AOp.moveD rfl rfl) ?_
                refine AOps.step ⟨100, rfl, .inl ⟨_, rfl, rfl⟩⟩ rfl rfl (AOp.moveD rfl rfl) ?_
                refine AOps.step ⟨100, rfl, .inl ⟨_, rfl, rfl⟩⟩ rfl rfl (AOp.moveD rfl rfl) ?_
                refine AOps.step ⟨100, rfl, .inl ⟨_, rfl, rfl⟩⟩ rfl rfl (AOp.moveD rfl rfl) ?_
                refine AOps.step ⟨100, rfl, .inl ⟨_, rfl, rfl⟩⟩ rfl rfl (AOp.buildSlice rfl et_117 (.cons rfl rfl rfl (.cons rfl rfl rfl .nil)) rfl (by decide)) ?_
                refine AOps.step ⟨100, rfl, .inl ⟨_, rfl, rfl⟩⟩ rfl rfl (AOp.call rfl (.cons (ArgOk.rfl' rfl) .nil) (c_concat [liveO v p frm mid (hs.take k), liveO (liveV v p frm mid (hs.take k)) p mid to (hs.drop k)] (by show 2 ≤ 1000; decide) (by rw [HC]; omega))) ?_
                refine AOps.step ⟨100, rfl, .inl ⟨_, rfl, rfl⟩⟩ rfl rfl (AOp.call rfl (.cons (ArgOk.rfl' rfl) (.cons ⟨_, rfl, Le.of_eq (congrArg (fun x : List Dn => D.sl (x.map Dn.ds)) HC)⟩ .nil)) (c_eqDn (liveO v p frm to hs))) ?_
                refine AOps.step rfl rfl rfl (AOp.pickT rfl rfl rfl) ?_
                refine AOps.step rfl rfl rfl (AOp.moveD rfl rfl) ?_
                refine AOps.step ⟨108, rfl, .inl ⟨_, rfl, rfl⟩⟩ rfl rfl (AOp.call rfl .nil c_awake) ?_
                refine AOps.step rfl rfl rfl (AOp.pickT rfl rfl rfl) ?_
                refine AOps.step rfl rfl rfl (AOp.assignD rfl rfl) ?_
                refine AOps.nil ?_
                refine AWP.ret ?_
                refine ⟨RetD.eq rfl ?_, trivial⟩
                all_goals (simp)
              · replace g11 := of_decide_eq_false g11
                exact absurd hm.2.1 g11

end Go.Proofs.YtieccphckobhjaaDoor
