/- Walks and laws over abstract values, merged by tools/merge.py. No statement of the seat. -/
import Derived.Shelf.Spec.SlicesInsert
import Derived.Shelf.Spec.SlicesInsertGrow
import Derived.OwnWalkIn
import Derived.LoopNIn
import Derived.Deep.LoopGhost
import Derived.WalkSpells
import Derived.Test.YtgldfnkbpopanaaGreatDoorXV5

namespace Go.Proofs.YtgldfnkbpopanaaGreatDoor
open Go.RowKit
set_option linter.unusedVariables false

/-! Types. -/
namespace TyLD
theorem fo_35_0 : fieldOff Tryz.prog 35 0 = some 0 := by kernel_rfl
theorem fo_35_2 : fieldOff Tryz.prog 35 2 = some 2 := by kernel_rfl
end TyLD
open TyH3 TyH5 TyJ3 TyJ4 TyJ5 TyKA TyKB TyKC TyKD TyKE TyKF TyKG TyLA TyLB TyLC TyLD

def upP (g : Nat → Int) (n : Nat) : Prop := ∀ j, 0 < j → j < n → g (j - 1) < g j
def upF (g : Nat → Int) (n : Nat) : Bool := (List.range n).all fun i => decide (i = 0) || decide (g (i - 1) < g i)
theorem up_iff {g : Nat → Int} {n : Nat} : upF g n = true ↔ upP g n := by
  unfold upF upP
  rw [List.all_eq_true]
  constructor
  · intro h j h1 h2
    have := h j (List.mem_range.2 h2)
    rw [Bool.or_eq_true] at this
    rcases this with h3 | h3
    · have := of_decide_eq_true h3; omega
    · exact of_decide_eq_true h3
  · intro h j hj
    rw [Bool.or_eq_true]
    by_cases h0 : j = 0
    · exact .inl (decide_eq_true h0)
    · exact .inr (decide_eq_true (h j (by omega) (List.mem_range.1 hj)))
theorem up_true {g : Nat → Int} {n : Nat} (h : upP g n) : upF g n = true := up_iff.2 h
theorem up_false {g : Nat → Int} {n j : Nat} (h0 : 0 < j) (hj : j < n) (h : g j ≤ g (j - 1)) : upF g n = false := by
  rw [Bool.eq_false_iff]
  intro hh
  have := up_iff.1 hh j h0 hj
  omega
theorem up_1 (g : Nat → Int) : upP g (0 + 1) := fun j h1 h2 => by omega
theorem up_step {g : Nat → Int} {k : Nat} (h : upP g (k + 1)) (h2 : g k < g (k + 1)) : upP g (k + 1 + 1) := fun j h1 h3 => by
  by_cases he : j = k + 1
  · subst he; exact h2
  · exact h j h1 (by omega)
def atI (l : List Int) (i : Nat) : Int := l.getD i 0
theorem atI_eq {l : List Int} {i : Nat} (h : i < l.length) : atI l i = l[i] := by unfold atI; rw [List.getD_eq_getElem?_getD, List.getElem?_eq_getElem h]; rfl
def meetB (a b : List Int) : Bool := a.any fun n => decide (n ∈ b)
theorem meet_y {a b : List Int} {k : Nat} (hk : k < a.length) (h : a[k] ∈ b) : meetB a b = true := List.any_eq_true.2 ⟨_, List.getElem_mem hk, decide_eq_true h⟩
theorem meet_n {a b : List Int} {k : Nat} (hk : a.length ≤ k) (h : ∀ n ∈ a.take k, ¬ n ∈ b) : meetB a b = false := by
  rw [List.take_of_length_le hk] at h
  rw [Bool.eq_false_iff]
  intro hh
  obtain ⟨n, hn, h2⟩ := List.any_eq_true.1 hh
  exact h n hn (of_decide_eq_true h2)
theorem meet_s {a b : List Int} {k : Nat} (hk : k < a.length) (h : ∀ n ∈ a.take k, ¬ n ∈ b) (h2 : ¬ a[k] ∈ b) : ∀ n ∈ a.take (k + 1), ¬ n ∈ b := fun n hn => by
  rw [List.take_add_one, List.getElem?_eq_getElem hk, Option.toList_some, List.mem_append, List.mem_singleton] at hn
  rcases hn with hn | hn
  · exact h n hn
  · rw [hn]; exact h2
theorem map_take_s {α β : Type} (f : α → β) {l : List α} {k : Nat} (hk : k < l.length) : (l.take (k + 1)).map f = (l.take k).map f ++ [f l[k]] := by
  rw [List.take_add_one, List.getElem?_eq_getElem hk, Option.toList_some, List.map_append]; rfl

set_option maxRecDepth 100000 in
set_option maxHeartbeats 1000000 in
theorem c_rRis (l : List Int) : ACall Tryz.prog 126 [.sl (l.map intD)] (.v (.bool (upF (atI l) l.length))) := by
 refine acall_of (n := 20) (ds' := [.v (.bool (upF (atI l) l.length))]) Tryz.func126 rfl (by kernel_rfl) rfl [2] rfl rfl ?_
 intro B w0 F0 fr
 refine .bound 0 rfl (fun hbd0 => ?_)
 rw [List.length_map] at hbd0
 refine .sr ?_
 refine .aA (.nil ?_)
 refine .seq ?_
 refine .sr ?_
 refine .aA (.nil ?_)
 refine .block ?_
 refine .loop (G := Nat) (fun k => Env.of [(3, .d (.v (.int .i64 ((k : Int) + 1)))), (0, .d (.sl (l.map intD)))]) (fun k => []) (fun k => (k = 0 ∨ k < l.length) ∧ upP (atI l) (k + 1)) (fun k => l.length - k) 0 ⟨.inl rfl, up_1 _⟩ (Sub.less ⟨(SLe.of_eq rfl), SLe.refl _, trivial⟩ (fun _ h => h)) ?_
 intro k hk
 refine .seq ?_
 refine .sr ?_
 refine .mA ?_
 refine .mA ?_
 refine .sA (.lenSl rfl et_33.ht rfl) ?_
 refine .sA (.lss rfl rfl rfl) (.nil ?_)
 refine .cond rfl (fun h1 => ?_) (fun h1 => ?_)
 ·replace h1 := of_decide_eq_true h1
  rw [List.length_map] at h1
  have hlt : k + 1 < l.length := by omega
  refine .skip ?_
  refine .seq ?_
  refine .block ?_
  refine .seq ?_
  refine .draw (by kernel_rfl) (by kernel_rfl) ?_
  refine .sA (.moveD rfl rfl) ?_
  refine .sA (.moveD rfl rfl) ?_
  refine .sA (.indexAddr rfl et_33 rfl rfl (k + 1) (by omega) (at_lst hlt) rfl) ?_
  refine .sA (.load rfl sc_3 rfl) ?_
  refine .sA (.moveD rfl rfl) ?_
  refine .sA (.moveD rfl rfl) ?_
  refine .sA (.sub64 rfl rfl rfl (by omega) (by omega)) ?_
  refine .sA (.indexAddr rfl et_33 rfl rfl k (by omega) (at_lst (show k < l.length by omega)) rfl) ?_
  refine .sA (.load rfl sc_3 rfl) ?_
  refine .sA (.leq rfl rfl rfl) ?_
  refine .nil ?_
  refine .cond rfl (fun h2 => ?_) (fun h2 => ?_)
  ·replace h2 := of_decide_eq_true h2
   rw [up_false (j := k + 1) (by omega) hlt (by rw [Nat.add_sub_cancel, atI_eq hlt, atI_eq (by omega)]; exact h2)]
   refine .sr ?_
   refine .aA (.nil ?_)
   refine .ret ?_
   refine ⟨RetD.eq rfl ?_, trivial⟩
   all_goals (rfl)
  replace h2 := of_decide_eq_false h2
  have HN := up_step hk.2 (by rw [atI_eq hlt, atI_eq (show k < l.length by omega)]; omega)
  refine .skip ?_
  refine .region ?_
  refine .mA ?_
  refine .sA (.add64 rfl rfl rfl (by omega) (by omega)) ?_
  refine .aA (.nil ?_)
  refine ⟨k + 1, ⟨.inr (by omega), HN⟩, (by dsimp only; omega), Sub.less ⟨(SLe.i64 (by omega)), SLe.refl _, trivial⟩ (fun _ h => h)⟩
 replace h1 := of_decide_eq_false h1
 rw [List.length_map] at h1
 rw [up_true (fun j h1 h2 => hk.2 j h1 (by omega))]
 refine .exit ?_
 refine .sr ?_
 refine .aA (.nil ?_)
 refine .ret ?_
 refine ⟨RetD.eq rfl ?_, trivial⟩
 all_goals (rfl)

set_option maxRecDepth 100000 in
set_option maxHeartbeats 1000000 in
theorem c_meet (a b : List Int) : ACall Tryz.prog 127 [.sl (a.map intD), .sl (b.map intD)] (.v (.bool (meetB a b))) := by
 refine acall_of (n := 17) (ds' := [.v (.bool (meetB a b))]) Tryz.func127 rfl (by kernel_rfl) rfl [4] rfl rfl ?_
 intro B w0 F0 fr
 refine .bound 0 rfl (fun hbd0 => ?_)
 rw [List.length_map] at hbd0
 refine .sr ?_
 refine .aA (.nil ?_)
 refine .seq ?_
 refine .sr ?_
 refine .mA ?_
 refine .sA (.lenSl rfl et_33.ht rfl) ?_
 refine .mA (.nil ?_)
 refine .block ?_
 refine .loop (G := Nat) (fun k => Env.of [(9, .d (.v (.int .i64 (k : Int)))), (7, .d (.sl (a.map intD))), (8, .d (.v (.int .i64 ((a.map intD).length : Int)))), (1, .d (.sl (b.map intD)))]) (fun k => []) (fun k => k ≤ a.length ∧ ∀ n ∈ a.take k, ¬ n ∈ b) (fun k => a.length - k) 0 ⟨Nat.zero_le _, fun n h => by simp at h⟩ (Sub.less ⟨(SLe.of_eq rfl), SLe.refl _, SLe.refl _, SLe.refl _, trivial⟩ (fun _ h => h)) ?_
 intro k hk
 refine .sr ?_
 refine .sA (.lss rfl rfl rfl) (.nil ?_)
 refine .seq ?_
 refine .cond rfl (fun h1 => ?_) (fun h1 => ?_)
 ·replace h1 := of_decide_eq_true h1
  rw [List.length_map] at h1
  have hlt : k < a.length := by omega
  refine .skip ?_
  refine .seq ?_
  refine .block ?_
  refine .sr ?_
  refine .sA (.indexAddr rfl et_33 rfl rfl k rfl (at_lst hlt) rfl) ?_
  refine .sA (.load rfl sc_3 rfl) ?_
  refine .aA (.nil ?_)
  refine .sr ?_
  refine .mA ?_
  refine .mA ?_
  refine .sA (.call rfl (.cons (.rfl' rfl) (.cons (.rfl' rfl) .nil)) (c_containsInt _ _)) (.nil ?_)
  refine .cond rfl (fun h2 => ?_) (fun h2 => ?_)
  ·replace h2 := of_decide_eq_true h2
   rw [meet_y hlt h2]
   refine .sr ?_
   refine .aA (.nil ?_)
   refine .ret ?_
   refine ⟨RetD.eq rfl ?_, trivial⟩
   all_goals (rfl)
  replace h2 := of_decide_eq_false h2
  have HN := meet_s hlt hk.2 h2
  refine .skip ?_
  refine .region ?_
  refine .sA (.add64 rfl rfl rfl (by omega) (by omega)) ?_
  refine .mA (.nil ?_)
  refine ⟨k + 1, ⟨by omega, HN⟩, (by dsimp only; omega), Sub.less ⟨(SLe.of_eq rfl), SLe.refl _, SLe.refl _, SLe.refl _, trivial⟩ (fun _ h => h)⟩
 replace h1 := of_decide_eq_false h1
 rw [List.length_map] at h1
 rw [meet_n (by omega) hk.2]
 refine .exit ?_
 refine .sr ?_
 refine .aA (.nil ?_)
 refine .ret ?_
 refine ⟨RetD.eq rfl ?_, trivial⟩
 all_goals (rfl)

set_option maxRecDepth 100000 in
set_option maxHeartbeats 1000000 in
theorem c_putIds (x : Chg) (hl : x.put.length ≤ 1048576) : ACall Tryz.prog 124 [.agg x.ds] (.sl ((x.put.map Thg.id).map intD)) := by
 refine acall_of (n := 20) (ds' := [.sl ((x.put.map Thg.id).map intD)]) Tryz.func124 rfl (by kernel_rfl) rfl [2] rfl rfl ?_
 intro B w0 F0 fr
 refine .sr ?_
 refine .sA (.box rfl rfl rfl) ?_
 refine .aA (.nil ?_)
 refine .sr ?_
 refine .aA (.nil ?_)
 refine .seq ?_
 refine .sr ?_
 refine .sA (.fieldAddr rfl fo_35_0 rfl) ?_
 refine .sA (.load rfl sc_22 rfl) ?_
 refine .sA (.lenSl rfl et_22.ht rfl) ?_
 refine .mA (.nil ?_)
 refine .block ?_
 refine .adopt 3 1 3 1 rfl rfl ?_
 refine .loop (G := Nat) (fun k => Env.of [(9, .d (.v (.int .i64 (k : Int)))), (7, .d (.sl (x.put.map Thg.ds))), (8, .d (.v (.int .i64 ((x.put.map Thg.ds).length : Int)))), (3, .own 1)]) (fun k => [(1, .row 3 1 (((x.put.take k).map Thg.id).map intD))]) (fun k => k ≤ x.put.length) (fun k => x.put.length - k) 0 (Nat.zero_le _) (Sub.less ⟨(SLe.of_eq rfl), SLe.refl _, SLe.refl _, SLe.refl _, trivial⟩ (row_same rfl)) ?_
 intro k hk
 refine .sr ?_
 refine .sA (.lss rfl rfl rfl) (.nil ?_)
 refine .seq ?_
 refine .cond rfl (fun h1 => ?_) (fun h1 => ?_)
 ·replace h1 := of_decide_eq_true h1
  rw [List.length_map] at h1
  have hlt : k < x.put.length := by omega
  refine .skip ?_
  refine .seq ?_
  refine .block ?_
  refine .sr ?_
  refine .sA (.indexAddr rfl et_22 rfl rfl k rfl (at_lst hlt) rfl) ?_
  refine .sA (.loadAgg rfl ag_41 rfl rfl) ?_
  refine .alloc 101 rfl rfl rfl rfl zt_41 rfl rfl rfl ?_
  refine .store rfl rfl rfl sz_41 rfl (.head _) rfl rfl rfl (Nat.le_of_ble_eq_true rfl) ?_
  refine .freezeCells 5 (ds := x.put[k].ds) rfl (.head _) (.nil ?_)
  refine .region ?_
  refine .sA (.moveO rfl rfl) ?_
  refine .sA (.fieldAddr rfl fo_41_0 rfl) ?_
  refine .sA (.load rfl sc_3 rfl) ?_
  refine .sA (.buildSlice rfl et_33 (.cons rfl rfl rfl .nil) rfl (by decide)) ?_
  -- append 17
  refine .append rfl rfl rfl rfl et_33 rfl (.head _) rfl (fun y hy => by obtain rfl := List.mem_singleton.1 hy; rfl) (by simp; omega) (by simp; omega) ?_
  refine .sA (.assignO rfl rfl) (.nil ?_)
  refine .region ?_
  refine .sA (.add64 rfl rfl rfl (by omega) (by omega)) ?_
  refine .mA (.nil ?_)
  refine ⟨k + 1, (by omega), (by dsimp only; omega), Sub.less ⟨(SLe.of_eq rfl), SLe.refl _, SLe.refl _, SLe.refl _, trivial⟩ (row_same (by rw [map_take_s _ hlt, List.map_append]; rfl))⟩
 replace h1 := of_decide_eq_false h1
 rw [List.length_map] at h1
 obtain rfl : k = x.put.length := by omega
 rw [List.take_length]
 refine .exit ?_
 refine .sr ?_
 refine .sA (.moveO rfl rfl) ?_
 refine .sA (.assignO rfl rfl) (.nil ?_)
 refine .ret ?_
 refine ⟨RetD.own rfl (.head _) ?_, trivial⟩
 all_goals (rfl)

set_option maxRecDepth 100000 in
set_option maxHeartbeats 1000000 in
theorem c_addIds (x : Chg) (hl : x.add.length ≤ 1048576) : ACall Tryz.prog 125 [.agg x.ds] (.sl ((x.add.map Mvd.src).map intD)) := by
 refine acall_of (n := 20) (ds' := [.sl ((x.add.map Mvd.src).map intD)]) Tryz.func125 rfl (by kernel_rfl) rfl [2] rfl rfl ?_
 intro B w0 F0 fr
 refine .sr ?_
 refine .sA (.box rfl rfl rfl) ?_
 refine .aA (.nil ?_)
 refine .sr ?_
 refine .aA (.nil ?_)
 refine .seq ?_
 refine .sr ?_
 refine .sA (.fieldAddr rfl fo_35_2 rfl) ?_
 refine .sA (.load rfl sc_23 rfl) ?_
 refine .sA (.lenSl rfl et_23.ht rfl) ?_
 refine .mA (.nil ?_)
 refine .block ?_
 refine .adopt 3 1 3 1 rfl rfl ?_
 refine .loop (G := Nat) (fun k => Env.of [(9, .d (.v (.int .i64 (k : Int)))), (7, .d (.sl (x.add.map Mvd.ds))), (8, .d (.v (.int .i64 ((x.add.map Mvd.ds).length : Int)))), (3, .own 1)]) (fun k => [(1, .row 3 1 (((x.add.take k).map Mvd.src).map intD))]) (fun k => k ≤ x.add.length) (fun k => x.add.length - k) 0 (Nat.zero_le _) (Sub.less ⟨(SLe.of_eq rfl), SLe.refl _, SLe.refl _, SLe.refl _, trivial⟩ (row_same rfl)) ?_
 intro k hk
 refine .sr ?_
 refine .sA (.lss rfl rfl rfl) (.nil ?_)
 refine .seq ?_
 refine .cond rfl (fun h1 => ?_) (fun h1 => ?_)
 ·replace h1 := of_decide_eq_true h1
  rw [List.length_map] at h1
  have hlt : k < x.add.length := by omega
  refine .skip ?_
  refine .seq ?_
  refine .block ?_
  refine .sr ?_
  refine .sA (.indexAddr rfl et_23 rfl rfl k rfl (at_lst hlt) rfl) ?_
  refine .sA (.loadAgg rfl ag_85 rfl rfl) ?_
  refine .alloc 101 rfl rfl rfl rfl zt_85 rfl rfl rfl ?_
  refine .store rfl rfl rfl sz_85 rfl (.head _) rfl rfl rfl (Nat.le_of_ble_eq_true rfl) ?_
  refine .freezeCells 5 (ds := x.add[k].ds) rfl (.head _) (.nil ?_)
  refine .region ?_
  refine .sA (.moveO rfl rfl) ?_
  refine .sA (.fieldAddr rfl fo_85_0 rfl) ?_
  refine .sA (.load rfl sc_3 rfl) ?_
  refine .sA (.buildSlice rfl et_33 (.cons rfl rfl rfl .nil) rfl (by decide)) ?_
  -- append 17
  refine .append rfl rfl rfl rfl et_33 rfl (.head _) rfl (fun y hy => by obtain rfl := List.mem_singleton.1 hy; rfl) (by simp; omega) (by simp; omega) ?_
  refine .sA (.assignO rfl rfl) (.nil ?_)
  refine .region ?_
  refine .sA (.add64 rfl rfl rfl (by omega) (by omega)) ?_
  refine .mA (.nil ?_)
  refine ⟨k + 1, (by omega), (by dsimp only; omega), Sub.less ⟨(SLe.of_eq rfl), SLe.refl _, SLe.refl _, SLe.refl _, trivial⟩ (row_same (by rw [map_take_s _ hlt, List.map_append]; rfl))⟩
 replace h1 := of_decide_eq_false h1
 rw [List.length_map] at h1
 obtain rfl : k = x.add.length := by omega
 rw [List.take_length]
 refine .exit ?_
 refine .sr ?_
 refine .sA (.moveO rfl rfl) ?_
 refine .sA (.assignO rfl rfl) (.nil ?_)
 refine .ret ?_
 refine ⟨RetD.own rfl (.head _) ?_, trivial⟩
 all_goals (rfl)


/-! Types. -/
namespace TyLE
theorem fo_35_1 : fieldOff Tryz.prog 35 1 = some 1 := by kernel_rfl
theorem fo_35_3 : fieldOff Tryz.prog 35 3 = some 3 := by kernel_rfl
end TyLE
open TyH3 TyH5 TyJ3 TyJ4 TyJ5 TyKA TyKB TyKC TyKD TyKE TyKF TyKG TyLA TyLB TyLC TyLD TyLE

set_option maxRecDepth 100000 in
set_option maxHeartbeats 1000000 in
theorem c_pRis (n : Nat) (g : Nat → Int) (f : Nat) (caps : List D) (hf : ∀ i, i < n → ACall Tryz.prog f (.v (.int .i64 (i : Int)) :: caps) (.v (.int .i64 (g i)))) (hn : n ≤ 9223372036854775807) : ACall Tryz.prog 84 [.v (.int .i64 (n : Int)), .clo (.func f) caps] (.v (.bool (upF g n))) := by
 refine acall_of (n := 19) (ds' := [.v (.bool (upF g n))]) Tryz.func84 rfl (by kernel_rfl) rfl [4] rfl rfl ?_
 intro B w0 F0 fr
 refine .sr ?_
 refine .aA (.nil ?_)
 refine .seq ?_
 refine .sr ?_
 refine .aA (.nil ?_)
 refine .block ?_
 refine .loop (G := Nat) (fun k => Env.of [(5, .d (.v (.int .i64 ((k : Int) + 1)))), (0, .d (.v (.int .i64 (n : Int)))), (1, .d (.clo (.func f) caps))]) (fun k => []) (fun k => (k = 0 ∨ k < n) ∧ upP g (k + 1)) (fun k => n - k) 0 ⟨.inl rfl, up_1 _⟩ (Sub.less ⟨(SLe.of_eq rfl), SLe.refl _, SLe.refl _, trivial⟩ (fun _ h => h)) ?_
 intro k hk
 refine .seq ?_
 refine .sr ?_
 refine .mA ?_
 refine .mA ?_
 refine .sA (.lss rfl rfl rfl) (.nil ?_)
 refine .cond rfl (fun h1 => ?_) (fun h1 => ?_)
 ·replace h1 := of_decide_eq_true h1
  have hlt : k + 1 < n := by omega
  refine .skip ?_
  refine .seq ?_
  refine .block ?_
  refine .sr ?_
  refine .mA ?_
  refine .mA ?_
  refine .sA (.callClo rfl rfl (.cons (.rfl' rfl) .nil) (hf (k + 1) hlt)) ?_
  refine .mA ?_
  refine .mA ?_
  refine .sA (.sub64 rfl rfl rfl (by omega) (by omega)) ?_
  rw [show (k : Int) + 1 - 1 = (k : Int) by omega]
  refine .sA (.callClo rfl rfl (.cons (.rfl' rfl) .nil) (hf k (by omega))) ?_
  refine .sA (.leq rfl rfl rfl) (.nil ?_)
  refine .cond rfl (fun h2 => ?_) (fun h2 => ?_)
  ·replace h2 := of_decide_eq_true h2
   rw [up_false (j := k + 1) (by omega) hlt (by rw [Nat.add_sub_cancel]; exact h2)]
   refine .sr ?_
   refine .aA (.nil ?_)
   refine .ret ?_
   refine ⟨RetD.eq rfl ?_, trivial⟩
   all_goals (rfl)
  replace h2 := of_decide_eq_false h2
  have HN := up_step hk.2 (by omega)
  refine .skip ?_
  refine .region ?_
  refine .mA ?_
  refine .sA (.add64 rfl rfl rfl (by omega) (by omega)) ?_
  refine .aA (.nil ?_)
  refine ⟨k + 1, ⟨.inr (by omega), HN⟩, (by dsimp only; omega), Sub.less ⟨(SLe.i64 (by omega)), SLe.refl _, SLe.refl _, trivial⟩ (fun _ h => h)⟩
 replace h1 := of_decide_eq_false h1
 rw [up_true (fun j h1 h2 => hk.2 j h1 (by omega))]
 refine .exit ?_
 refine .sr ?_
 refine .aA (.nil ?_)
 refine .ret ?_
 refine ⟨RetD.eq rfl ?_, trivial⟩
 all_goals (rfl)

set_option maxRecDepth 100000 in
set_option maxHeartbeats 1000000 in
theorem c_ck1 (x : Chg) (i : Nat) (hi : i < x.put.length) : ACall Tryz.prog 85 [.v (.int .i64 (i : Int)), .fp x.ds] (.v (.int .i64 (atI (x.put.map Thg.id) i))) := by
 refine acall_of (n := 10) (ds' := [.v (.int .i64 (atI (x.put.map Thg.id) i))]) Tryz.func85 rfl (by kernel_rfl) rfl [3] rfl rfl ?_
 intro B w0 F0 fr
 rw [atI_eq (by rw [List.length_map]; exact hi), List.getElem_map]
 refine .sr ?_
 refine .aA (.nil ?_)
 refine .sr ?_
 refine .sA (.fieldAddr rfl fo_35_0 rfl) ?_
 refine .sA (.load rfl sc_22 rfl) ?_
 refine .mA ?_
 refine .sA (.indexAddr rfl et_22 rfl rfl i rfl (at_lst hi) rfl) ?_
 refine .sA (.fieldAddr rfl fo_41_0 rfl) ?_
 refine .sA (.load rfl sc_3 rfl) ?_
 refine .aA (.nil ?_)
 refine .ret ?_
 refine ⟨RetD.eq rfl ?_, trivial⟩
 all_goals (rfl)

set_option maxRecDepth 100000 in
set_option maxHeartbeats 1000000 in
theorem c_ck2 (x : Chg) (i : Nat) (hi : i < x.drop.length) : ACall Tryz.prog 86 [.v (.int .i64 (i : Int)), .fp x.ds] (.v (.int .i64 (atI x.drop i))) := by
 refine acall_of (n := 9) (ds' := [.v (.int .i64 (atI x.drop i))]) Tryz.func86 rfl (by kernel_rfl) rfl [3] rfl rfl ?_
 intro B w0 F0 fr
 rw [atI_eq (by  exact hi)]
 refine .sr ?_
 refine .aA (.nil ?_)
 refine .sr ?_
 refine .sA (.fieldAddr rfl fo_35_1 rfl) ?_
 refine .sA (.load rfl sc_33 rfl) ?_
 refine .mA ?_
 refine .sA (.indexAddr rfl et_33 rfl rfl i rfl (at_lst hi) rfl) ?_
 refine .sA (.load rfl sc_3 rfl) ?_
 refine .aA (.nil ?_)
 refine .ret ?_
 refine ⟨RetD.eq rfl ?_, trivial⟩
 all_goals (rfl)

set_option maxRecDepth 100000 in
set_option maxHeartbeats 1000000 in
theorem c_ck3 (x : Chg) (i : Nat) (hi : i < x.add.length) : ACall Tryz.prog 87 [.v (.int .i64 (i : Int)), .fp x.ds] (.v (.int .i64 (atI (x.add.map Mvd.src) i))) := by
 refine acall_of (n := 10) (ds' := [.v (.int .i64 (atI (x.add.map Mvd.src) i))]) Tryz.func87 rfl (by kernel_rfl) rfl [3] rfl rfl ?_
 intro B w0 F0 fr
 rw [atI_eq (by rw [List.length_map]; exact hi), List.getElem_map]
 refine .sr ?_
 refine .aA (.nil ?_)
 refine .sr ?_
 refine .sA (.fieldAddr rfl fo_35_2 rfl) ?_
 refine .sA (.load rfl sc_23 rfl) ?_
 refine .mA ?_
 refine .sA (.indexAddr rfl et_23 rfl rfl i rfl (at_lst hi) rfl) ?_
 refine .sA (.fieldAddr rfl fo_85_0 rfl) ?_
 refine .sA (.load rfl sc_3 rfl) ?_
 refine .aA (.nil ?_)
 refine .ret ?_
 refine ⟨RetD.eq rfl ?_, trivial⟩
 all_goals (rfl)

set_option maxRecDepth 100000 in
set_option maxHeartbeats 1000000 in
theorem c_ck4 (x : Chg) (i : Nat) (hi : i < x.back.length) : ACall Tryz.prog 88 [.v (.int .i64 (i : Int)), .fp x.ds] (.v (.int .i64 (atI x.back i))) := by
 refine acall_of (n := 9) (ds' := [.v (.int .i64 (atI x.back i))]) Tryz.func88 rfl (by kernel_rfl) rfl [3] rfl rfl ?_
 intro B w0 F0 fr
 rw [atI_eq (by  exact hi)]
 refine .sr ?_
 refine .aA (.nil ?_)
 refine .sr ?_
 refine .sA (.fieldAddr rfl fo_35_3 rfl) ?_
 refine .sA (.load rfl sc_33 rfl) ?_
 refine .mA ?_
 refine .sA (.indexAddr rfl et_33 rfl rfl i rfl (at_lst hi) rfl) ?_
 refine .sA (.load rfl sc_3 rfl) ?_
 refine .aA (.nil ?_)
 refine .ret ?_
 refine ⟨RetD.eq rfl ?_, trivial⟩
 all_goals (rfl)


/-! Types. -/
namespace TyLF
end TyLF
open TyH3 TyH5 TyJ3 TyJ4 TyJ5 TyKA TyKB TyKC TyKD TyKE TyKF TyKG TyLA TyLB TyLC TyLD TyLE TyLF

theorem ifmax (x y : Int) : (if y > x then y else x) = max x y := by omega
theorem run_max4 {P : Program} (ts : Array TypeId) (t : TypeId) (k : IntKind) (a b c d : Int) (w : World) : (Builtin.max_ ts t #[.int k a, .int k b, .int k c, .int k d]).run P w = .ok (.int k (max (max (max a b) c) d)) w := by
  simp only [← ifmax]
  simp [Builtin.max_, Builtin.max2]
theorem AOp.max4 {P : Program} {B : Nat} {ops : Array Oper} {o : Oper} {e : Env} {σ : Obs} {x y z u : Operand} {ts : Array TypeId} {k : IntKind} {a b c d : Int} (ho : o.op = .call { callee := .builtin .max, args := #[x, y, z, u], argTypes := ts }) (hx : e.ev x = .d (.v (.int k a))) (hy : e.ev y = .d (.v (.int k b))) (hz : e.ev z = .d (.v (.int k c))) (hu : e.ev u = .d (.v (.int k d))) :
    AOp P B ops o e σ (.d (.v (.int k (Max.max (Max.max (Max.max a b) c) d)))) := .value fun F ρ w ac hF hr _ => by
  have h1 := hr x (by rw [ho]; simp [Op.operands, Call.operands])
  have h2 := hr y (by rw [ho]; simp [Op.operands, Call.operands])
  have h3 := hr z (by rw [ho]; simp [Op.operands, Call.operands])
  have h4 := hr u (by rw [ho]; simp [Op.operands, Call.operands])
  rw [hx] at h1
  rw [hy] at h2
  rw [hz] at h3
  rw [hu] at h4
  refine ⟨_, F, w, ?_, .d (.v _), Ext.refl hF⟩
  unfold execOp
  simp only [ho, resolve, invoke, builtin, Sem.run_bind, Sem.run_pure, Result.andThen_ok, List.map_toArray, List.map_cons, List.map_nil, repS_v h1, repS_v h2, repS_v h3, repS_v h4, run_max4]

def chgF (x : Chg) : Int :=
  if 300 < x.put.length ∨ 300 < x.drop.length ∨ 300 < x.add.length ∨ 300 < x.back.length then 2
  else if ¬ (upF (atI (x.put.map Thg.id)) x.put.length = true ∧ upF (atI x.drop) x.drop.length = true ∧ upF (atI (x.add.map Mvd.src)) x.add.length = true ∧ upF (atI x.back) x.back.length = true) then 8
  else if meetB (x.put.map Thg.id) x.drop = true ∨ meetB (x.add.map Mvd.src) x.back = true then 12 else 0
theorem chg_8 {x : Chg} (hL : ¬ (300 < x.put.length ∨ 300 < x.drop.length ∨ 300 < x.add.length ∨ 300 < x.back.length)) (h : ¬ (upF (atI (x.put.map Thg.id)) x.put.length = true ∧ upF (atI x.drop) x.drop.length = true ∧ upF (atI (x.add.map Mvd.src)) x.add.length = true ∧ upF (atI x.back) x.back.length = true)) : chgF x = 8 := by
  unfold chgF; rw [if_neg hL, if_pos h]
theorem chg_m {x : Chg} (hL : ¬ (300 < x.put.length ∨ 300 < x.drop.length ∨ 300 < x.add.length ∨ 300 < x.back.length)) (h1 : upF (atI (x.put.map Thg.id)) x.put.length = true) (h2 : upF (atI x.drop) x.drop.length = true) (h3 : upF (atI (x.add.map Mvd.src)) x.add.length = true) (h4 : upF (atI x.back) x.back.length = true) :
    chgF x = if meetB (x.put.map Thg.id) x.drop = true ∨ meetB (x.add.map Mvd.src) x.back = true then 12 else 0 := by
  unfold chgF; rw [if_neg hL, if_neg (fun h => h ⟨h1, h2, h3, h4⟩)]
theorem mt_y {α : Type} {f : α → Int} {l : List α} {b : List Int} {k : Nat} (hk : k < l.length) (h : f l[k] ∈ b) : meetB (l.map f) b = true := List.any_eq_true.2 ⟨_, List.mem_map_of_mem (List.getElem_mem hk), decide_eq_true h⟩
theorem mt_n {α : Type} {f : α → Int} {l : List α} {b : List Int} {k : Nat} (hk : l.length ≤ k) (h : ∀ t ∈ l.take k, ¬ f t ∈ b) : meetB (l.map f) b = false := by
  rw [List.take_of_length_le hk] at h
  rw [Bool.eq_false_iff]
  intro hh
  obtain ⟨n, hn, h2⟩ := List.any_eq_true.1 hh
  obtain ⟨t, ht, rfl⟩ := List.mem_map.1 hn
  exact h t ht (of_decide_eq_true h2)
theorem mt_s {α : Type} {f : α → Int} {l : List α} {b : List Int} {k : Nat} (hk : k < l.length) (h : ∀ t ∈ l.take k, ¬ f t ∈ b) (h2 : ¬ f l[k] ∈ b) : ∀ t ∈ l.take (k + 1), ¬ f t ∈ b := fun n hn => by
  rw [List.take_add_one, List.getElem?_eq_getElem hk, Option.toList_some, List.mem_append, List.mem_singleton] at hn
  rcases hn with hn | hn
  · exact h n hn
  · rw [hn]; exact h2

set_option maxRecDepth 100000 in
set_option maxHeartbeats 1000000 in
theorem c_pCC (x : Chg) : ACall Tryz.prog 45 [.agg x.ds] (.v (.int .i64 (chgF x))) := by
 refine acall_of (n := 77) (ds' := [.v (.int .i64 (chgF x))]) Tryz.func45 rfl (by kernel_rfl) rfl [2] rfl rfl ?_
 intro B w0 F0 fr
 have q1 : (x.put.map Thg.ds).length = x.put.length := List.length_map ..
 have q2 : (x.drop.map intD).length = x.drop.length := List.length_map ..
 have q3 : (x.add.map Mvd.ds).length = x.add.length := List.length_map ..
 have q4 : (x.back.map intD).length = x.back.length := List.length_map ..
 refine .sr ?_
 refine .sA (.box rfl rfl rfl) ?_
 refine .aA (.nil ?_)
 refine .seq ?_
 refine .sr ?_
 refine .sA (.fieldAddr rfl fo_35_0 rfl) ?_
 refine .sA (.load rfl sc_22 rfl) ?_
 refine .sA (.lenSl rfl et_22.ht rfl) ?_
 refine .sA (.fieldAddr rfl fo_35_1 rfl) ?_
 refine .sA (.load rfl sc_33 rfl) ?_
 refine .sA (.lenSl rfl et_33.ht rfl) ?_
 refine .sA (.fieldAddr rfl fo_35_2 rfl) ?_
 refine .sA (.load rfl sc_23 rfl) ?_
 refine .sA (.lenSl rfl et_23.ht rfl) ?_
 refine .sA (.fieldAddr rfl fo_35_3 rfl) ?_
 refine .sA (.load rfl sc_33 rfl) ?_
 refine .sA (.lenSl rfl et_33.ht rfl) ?_
 refine .sA (.max4 rfl rfl rfl rfl rfl) ?_
 refine .sA (.gtr rfl rfl rfl) (.nil ?_)
 refine .cond rfl (fun h1 => ?_) (fun h1 => ?_)
 ·replace h1 := of_decide_eq_true h1
  have HR : chgF x = 2 := if_pos (by omega)
  refine .sr ?_
  refine .aA (.nil ?_)
  refine .ret ?_
  refine ⟨RetD.eq rfl ?_, trivial⟩
  all_goals (rw [HR])
 replace h1 := of_decide_eq_false h1
 have hL : ¬ (300 < x.put.length ∨ 300 < x.drop.length ∨ 300 < x.add.length ∨ 300 < x.back.length) := by omega
 refine .skip ?_
 refine .seq ?_
 refine .sr ?_
 refine .sA (.fieldAddr rfl fo_35_0 rfl) ?_
 refine .sA (.load rfl sc_22 rfl) ?_
 refine .sA (.lenSl rfl et_22.ht rfl) ?_
 rw [q1]
 refine .sA (.makeFunc rfl (.cons (.rfl' rfl) .nil)) ?_
 refine .sA (.call rfl (.cons (.rfl' rfl) (.cons (.rfl' rfl) .nil)) (c_pRis x.put.length (atI (x.put.map Thg.id)) 85 [.fp x.ds] (fun i hi => c_ck1 x i hi) (by omega))) ?_
 refine .sA (.not rfl rfl) ?_
 refine .mA ?_
 refine .split 27 rfl (fun g2 => ?_) (fun g2 => ?_)
 ·replace g2 := bnot_t g2
  have HR := chg_8 hL (fun hh => by have q := hh.1; rw [g2] at q; cases q)
  refine .pA ?_
  refine .pA ?_
  refine .pA ?_
  refine .pA ?_
  refine .pA ?_
  refine .pA ?_
  refine .sA (.pickT rfl rfl rfl) ?_
  refine .mA ?_
  refine .pA ?_
  refine .pA ?_
  refine .pA ?_
  refine .pA ?_
  refine .pA ?_
  refine .pA ?_
  refine .sA (.pickT rfl rfl rfl) ?_
  refine .mA ?_
  refine .pA ?_
  refine .pA ?_
  refine .pA ?_
  refine .pA ?_
  refine .pA ?_
  refine .pA ?_
  refine .sA (.pickT rfl rfl rfl) (.nil ?_)
  refine .cond rfl (fun _ => ?_) (fun h => nomatch h)
  refine .sr ?_
  refine .aA (.nil ?_)
  refine .ret ?_
  refine ⟨RetD.eq rfl ?_, trivial⟩
  all_goals (rw [HR])
 replace g2 := bnot_f g2
 have u1 := g2
 refine .sG (.fieldAddr rfl fo_35_1 rfl) ?_
 refine .sG (.load rfl sc_33 rfl) ?_
 refine .sG (.lenSl rfl et_33.ht rfl) ?_
 rw [q2]
 refine .sG (.makeFunc rfl (.cons (.rfl' rfl) .nil)) ?_
 refine .sG (.call rfl (.cons (.rfl' rfl) (.cons (.rfl' rfl) .nil)) (c_pRis x.drop.length (atI x.drop) 86 [.fp x.ds] (fun i hi => c_ck2 x i hi) (by omega))) ?_
 refine .sG (.not rfl rfl) ?_
 refine .sA (.pickF rfl rfl rfl) ?_
 refine .mA ?_
 refine .split 35 rfl (fun g3 => ?_) (fun g3 => ?_)
 ·replace g3 := bnot_t g3
  have HR := chg_8 hL (fun hh => by have q := hh.2.1; rw [g3] at q; cases q)
  refine .pA ?_
  refine .pA ?_
  refine .pA ?_
  refine .pA ?_
  refine .pA ?_
  refine .pA ?_
  refine .sA (.pickT rfl rfl rfl) ?_
  refine .mA ?_
  refine .pA ?_
  refine .pA ?_
  refine .pA ?_
  refine .pA ?_
  refine .pA ?_
  refine .pA ?_
  refine .sA (.pickT rfl rfl rfl) (.nil ?_)
  refine .cond rfl (fun _ => ?_) (fun h => nomatch h)
  refine .sr ?_
  refine .aA (.nil ?_)
  refine .ret ?_
  refine ⟨RetD.eq rfl ?_, trivial⟩
  all_goals (rw [HR])
 replace g3 := bnot_f g3
 have u2 := g3
 refine .sG (.fieldAddr rfl fo_35_2 rfl) ?_
 refine .sG (.load rfl sc_23 rfl) ?_
 refine .sG (.lenSl rfl et_23.ht rfl) ?_
 rw [q3]
 refine .sG (.makeFunc rfl (.cons (.rfl' rfl) .nil)) ?_
 refine .sG (.call rfl (.cons (.rfl' rfl) (.cons (.rfl' rfl) .nil)) (c_pRis x.add.length (atI (x.add.map Mvd.src)) 87 [.fp x.ds] (fun i hi => c_ck3 x i hi) (by omega))) ?_
 refine .sG (.not rfl rfl) ?_
 refine .sA (.pickF rfl rfl rfl) ?_
 refine .mA ?_
 refine .split 43 rfl (fun g4 => ?_) (fun g4 => ?_)
 ·replace g4 := bnot_t g4
  have HR := chg_8 hL (fun hh => by have q := hh.2.2.1; rw [g4] at q; cases q)
  refine .pA ?_
  refine .pA ?_
  refine .pA ?_
  refine .pA ?_
  refine .pA ?_
  refine .pA ?_
  refine .sA (.pickT rfl rfl rfl) (.nil ?_)
  refine .cond rfl (fun _ => ?_) (fun h => nomatch h)
  refine .sr ?_
  refine .aA (.nil ?_)
  refine .ret ?_
  refine ⟨RetD.eq rfl ?_, trivial⟩
  all_goals (rw [HR])
 replace g4 := bnot_f g4
 have u3 := g4
 refine .sG (.fieldAddr rfl fo_35_3 rfl) ?_
 refine .sG (.load rfl sc_33 rfl) ?_
 refine .sG (.lenSl rfl et_33.ht rfl) ?_
 rw [q4]
 refine .sG (.makeFunc rfl (.cons (.rfl' rfl) .nil)) ?_
 refine .sG (.call rfl (.cons (.rfl' rfl) (.cons (.rfl' rfl) .nil)) (c_pRis x.back.length (atI x.back) 88 [.fp x.ds] (fun i hi => c_ck4 x i hi) (by omega))) ?_
 refine .sG (.not rfl rfl) ?_
 refine .sA (.pickF rfl rfl rfl) (.nil ?_)
 refine .cond rfl (fun h5 => ?_) (fun h5 => ?_)
 ·replace h5 := bnot_t h5
  have HR := chg_8 hL (fun hh => by have q := hh.2.2.2; rw [h5] at q; cases q)
  refine .sr ?_
  refine .aA (.nil ?_)
  refine .ret ?_
  refine ⟨RetD.eq rfl ?_, trivial⟩
  all_goals (rw [HR])
 replace h5 := bnot_f h5
 have HM := chg_m hL u1 u2 u3 h5
 refine .skip ?_
 refine .seq ?_
 refine .sr ?_
 refine .sA (.fieldAddr rfl fo_35_0 rfl) ?_
 refine .sA (.load rfl sc_22 rfl) ?_
 refine .sA (.lenSl rfl et_22.ht rfl) ?_
 refine .mA (.nil ?_)
 refine .block ?_
 refine .loop (G := Nat) (fun k => Env.of [(54, .d (.v (.int .i64 (k : Int)))), (52, .d (.sl (x.put.map Thg.ds))), (53, .d (.v (.int .i64 ((x.put.map Thg.ds).length : Int)))), (1, .d (.fp x.ds))]) (fun k => []) (fun k => k ≤ x.put.length ∧ ∀ t ∈ x.put.take k, ¬ Thg.id t ∈ x.drop) (fun k => x.put.length - k) 0 ⟨Nat.zero_le _, fun t h => by simp at h⟩ (Sub.less ⟨(SLe.of_eq rfl), SLe.refl _, SLe.refl _, SLe.refl _, trivial⟩ (fun _ h => h)) ?_
 intro k hk
 refine .sr ?_
 refine .sA (.lss rfl rfl rfl) (.nil ?_)
 refine .seq ?_
 refine .cond rfl (fun h6 => ?_) (fun h6 => ?_)
 ·replace h6 := of_decide_eq_true h6
  have hlt : k < x.put.length := by omega
  refine .skip ?_
  refine .seq ?_
  refine .block ?_
  refine .sr ?_
  refine .sA (.indexAddr rfl et_22 rfl rfl k rfl (at_lst hlt) rfl) ?_
  refine .sA (.loadAgg rfl ag_41 rfl rfl) ?_
  refine .alloc 101 rfl rfl rfl rfl zt_41 rfl rfl rfl ?_
  refine .store rfl rfl rfl sz_41 rfl (.head _) rfl rfl rfl (Nat.le_of_ble_eq_true rfl) ?_
  refine .freezeCells 4 (ds := x.put[k].ds) rfl (.head _) (.nil ?_)
  refine .sr ?_
  refine .sA (.fieldAddr rfl fo_35_1 rfl) ?_
  refine .sA (.load rfl sc_33 rfl) ?_
  refine .sA (.fieldAddr rfl fo_41_0 rfl) ?_
  refine .sA (.load rfl sc_3 rfl) ?_
  refine .sA (.call rfl (.cons (.rfl' rfl) (.cons (.rfl' rfl) .nil)) (c_containsInt _ _)) (.nil ?_)
  refine .cond rfl (fun h7 => ?_) (fun h7 => ?_)
  ·replace h7 := of_decide_eq_true h7
   have HR : chgF x = 12 := HM.trans (if_pos (.inl (mt_y (f := Thg.id) hlt h7)))
   refine .sr ?_
   refine .aA (.nil ?_)
   refine .ret ?_
   refine ⟨RetD.eq rfl ?_, trivial⟩
   all_goals (rw [HR])
  replace h7 := of_decide_eq_false h7
  have HN := mt_s (f := Thg.id) hlt hk.2 h7
  refine .skip ?_
  refine .region ?_
  refine .sA (.add64 rfl rfl rfl (by omega) (by omega)) ?_
  refine .mA (.nil ?_)
  refine ⟨k + 1, ⟨by omega, HN⟩, (by dsimp only; omega), Sub.less ⟨(SLe.of_eq rfl), SLe.refl _, SLe.refl _, SLe.refl _, trivial⟩ (fun _ h => h)⟩
 replace h6 := of_decide_eq_false h6
 have HP := mt_n (f := Thg.id) (l := x.put) (b := x.drop) (k := k) (by omega) hk.2
 refine .exit ?_
 refine .seq ?_
 refine .sr ?_
 refine .sA (.fieldAddr rfl fo_35_2 rfl) ?_
 refine .sA (.load rfl sc_23 rfl) ?_
 refine .sA (.lenSl rfl et_23.ht rfl) ?_
 refine .mA (.nil ?_)
 refine .block ?_
 refine .loop (G := Nat) (fun j => Env.of [(67, .d (.v (.int .i64 (j : Int)))), (65, .d (.sl (x.add.map Mvd.ds))), (66, .d (.v (.int .i64 ((x.add.map Mvd.ds).length : Int)))), (1, .d (.fp x.ds))]) (fun j => []) (fun j => j ≤ x.add.length ∧ ∀ t ∈ x.add.take j, ¬ Mvd.src t ∈ x.back) (fun j => x.add.length - j) 0 ⟨Nat.zero_le _, fun t h => by simp at h⟩ (Sub.less ⟨(SLe.of_eq rfl), SLe.refl _, SLe.refl _, SLe.refl _, trivial⟩ (fun _ h => h)) ?_
 intro j hj
 refine .sr ?_
 refine .sA (.lss rfl rfl rfl) (.nil ?_)
 refine .seq ?_
 refine .cond rfl (fun h8 => ?_) (fun h8 => ?_)
 ·replace h8 := of_decide_eq_true h8
  have hlt : j < x.add.length := by omega
  refine .skip ?_
  refine .seq ?_
  refine .block ?_
  refine .sr ?_
  refine .sA (.indexAddr rfl et_23 rfl rfl j rfl (at_lst hlt) rfl) ?_
  refine .sA (.loadAgg rfl ag_85 rfl rfl) ?_
  refine .alloc 102 rfl rfl rfl rfl zt_85 rfl rfl rfl ?_
  refine .store rfl rfl rfl sz_85 rfl (.head _) rfl rfl rfl (Nat.le_of_ble_eq_true rfl) ?_
  refine .freezeCells 6 (ds := x.add[j].ds) rfl (.head _) (.nil ?_)
  refine .sr ?_
  refine .sA (.fieldAddr rfl fo_35_3 rfl) ?_
  refine .sA (.load rfl sc_33 rfl) ?_
  refine .sA (.fieldAddr rfl fo_85_0 rfl) ?_
  refine .sA (.load rfl sc_3 rfl) ?_
  refine .sA (.call rfl (.cons (.rfl' rfl) (.cons (.rfl' rfl) .nil)) (c_containsInt _ _)) (.nil ?_)
  refine .cond rfl (fun h9 => ?_) (fun h9 => ?_)
  ·replace h9 := of_decide_eq_true h9
   have HR : chgF x = 12 := HM.trans (if_pos (.inr (mt_y (f := Mvd.src) hlt h9)))
   refine .sr ?_
   refine .aA (.nil ?_)
   refine .ret ?_
   refine ⟨RetD.eq rfl ?_, trivial⟩
   all_goals (rw [HR])
  replace h9 := of_decide_eq_false h9
  have HN := mt_s (f := Mvd.src) hlt hj.2 h9
  refine .skip ?_
  refine .region ?_
  refine .sA (.add64 rfl rfl rfl (by omega) (by omega)) ?_
  refine .mA (.nil ?_)
  refine ⟨j + 1, ⟨by omega, HN⟩, (by dsimp only; omega), Sub.less ⟨(SLe.of_eq rfl), SLe.refl _, SLe.refl _, SLe.refl _, trivial⟩ (fun _ h => h)⟩
 replace h8 := of_decide_eq_false h8
 have HA := mt_n (f := Mvd.src) (l := x.add) (b := x.back) (k := j) (by omega) hj.2
 have HR : chgF x = 0 := HM.trans (if_neg (by rw [HP, HA]; simp))
 refine .exit ?_
 refine .sr ?_
 refine .aA (.nil ?_)
 refine .ret ?_
 refine ⟨RetD.eq rfl ?_, trivial⟩
 all_goals (rw [HR])

end Go.Proofs.YtgldfnkbpopanaaGreatDoor

namespace Go.Proofs.YtgldfnkbpopanaaGreatDoor
open Go.RowKit Go.Shelf
set_option linter.unusedVariables false

theorem setCells_turn (g : Nat) : ∀ (vs : List Value) (o : Nat) (w : World), Turn w (w.setCells g o vs) (some g)
  | [], _, _ => ⟨rfl, rfl, rfl, Nat.le_refl _, fun _ _ _ => rfl⟩
  | v :: vs, o, w => (setCell_turn w g o v).trans (setCells_turn g vs (o + 1) _)
theorem setCells_heap {g : Nat} {e : TypeId} : ∀ (vs : List Value) (o : Nat) (w : World) (cur : List Value), w.heap[g]? = some (.cells cur.toArray e (0, 0)) → o + vs.length ≤ cur.length →
    (w.setCells g o vs).heap[g]? = some (.cells (cur.take o ++ vs ++ cur.drop (o + vs.length)).toArray e (0, 0))
  | [], o, w, cur, h, _ => by simpa [World.setCells] using h
  | v :: vs, o, w, cur, h, hl => by
    simp only [List.length_cons] at hl
    have hset : (w.setCell ⟨g, o, none⟩ v).heap[g]? = some (.cells (cur.set o v).toArray e (0, 0)) := by
      unfold World.setCell
      simp [Array.getElem?_modify, h]
    rw [World.setCells, setCells_heap vs (o + 1) _ _ hset (by simp; omega)]
    congr 3
    have hn : o < cur.length := by omega
    apply List.ext_getElem?
    intro k
    rw [get3, get3]
    simp only [List.length_take, List.length_set, List.length_cons, Nat.min_eq_left (show o + 1 ≤ cur.length by omega), Nat.min_eq_left (show o ≤ cur.length by omega)]
    by_cases k1 : k < o
    · rw [if_pos (by omega), if_pos k1, List.getElem?_take, List.getElem?_take, if_pos (by omega), if_pos k1, List.getElem?_set, if_neg (by omega)]
    · by_cases k2 : k = o
      · subst k2
        rw [if_pos (by omega), if_neg (by omega), if_pos (by omega), List.getElem?_take, if_pos (by omega), List.getElem?_set, if_pos rfl, if_pos hn, Nat.sub_self]
        rfl
      · rw [if_neg (show ¬ k < o + 1 by omega), if_neg k1]
        by_cases k3 : k < o + 1 + vs.length
        · rw [if_pos k3, if_pos (by omega), show k - o = (k - (o + 1)) + 1 by omega, List.getElem?_cons_succ]
        · rw [if_neg k3, if_neg (by omega), List.getElem?_drop, List.getElem?_drop, List.getElem?_set, if_neg (by omega)]
          congr 1
          omega

/-- What Insert does with an own row. -/
structure InsEnd (B : Nat) (e : TypeId) (w : World) (v : Value) (n : Nat) (ys : List Value) (v' : Value) (w' : World) : Prop where
  own : w'.ownsRow B e 1 v' n ys
  turn : Turn w w' (blk v)
  new : ∀ g, blk v' = some g → blk v = some g ∨ w.heap.size ≤ g

theorem drew_turn (w : World) (row : Option Nat) : Turn w w.drew row := ⟨rfl, rfl, rfl, Nat.le_refl _, fun _ _ _ => rfl⟩
theorem alloc_turn (w : World) (o : Obj) (row : Option Nat) : Turn w (w.alloc o) row :=
  have h := (Below.refl w.heap.size w).alloc (Nat.le_refl _) o
  ⟨h.os, h.tape, h.output, h.size, fun k hk _ => h.block k hk⟩
/-- A block that was not there: the world as it was is what counts. -/
theorem Turn.behind {w a b : World} {g : Nat} {row : Option Nat} (h : Turn w a row) (hg : w.heap.size ≤ g) (k : Turn a b (some g)) : Turn w b row :=
  ⟨k.os.trans h.os, k.tape.trans h.tape, k.output.trans h.output, Nat.le_trans h.size k.size, fun i hi hne => (k.block i (Nat.lt_of_lt_of_le hi h.size) (fun e => by have := Option.some.inj e; omega)).trans (h.block i hi hne)⟩

theorem alloc_at (w : World) (o : Obj) : (w.alloc o).heap[w.heap.size]? = some o := (MapKept.heap_alloc w o).1

end Go.Proofs.YtgldfnkbpopanaaGreatDoor

namespace Go.Proofs.YtgldfnkbpopanaaGreatDoor
open Go.RowKit
set_option linter.unusedVariables false

/-- From k on each one waits for all before it but for the first b. -/
def Region.chain1B (ops : Array Oper) (b k : Nat) : Bool := Region.downB ops && Nat.ble k ops.size && Nat.ble b k && (List.range (ops.size - 1)).all fun j =>
  Nat.blt j b || (List.range ops.size).any fun m => Nat.blt j m && (Nat.ble m k || Nat.ble m (j + 1)) && Region.edge ops m j
structure Chain1 (ops : Array Oper) (b k : Nat) : Prop where
  down : Region.downB ops = true
  le : k ≤ ops.size
  bk : b ≤ k
  next : ∀ j, b ≤ j → j < ops.size - 1 → ∃ m, j < m ∧ (m ≤ k ∨ m ≤ j + 1) ∧ Region.edge ops m j = true
theorem Chain1.of {ops : Array Oper} {b k : Nat} (h : Region.chain1B ops b k = true) : Chain1 ops b k := by
  unfold Region.chain1B at h
  simp only [Bool.and_eq_true] at h
  obtain ⟨⟨⟨h1, h2⟩, h5⟩, h3⟩ := h
  refine ⟨h1, Nat.le_of_ble_eq_true h2, Nat.le_of_ble_eq_true h5, fun j hb hj => ?_⟩
  have h4 := List.all_eq_true.1 h3 j (List.mem_range.2 hj)
  rw [Bool.or_eq_true] at h4
  rcases h4 with h4 | h4
  · rw [Nat.blt_eq] at h4; omega
  · obtain ⟨m, _, hm⟩ := List.any_eq_true.1 h4
    simp only [Bool.and_eq_true, Bool.or_eq_true, Nat.blt_eq] at hm
    exact ⟨m, hm.1.1, hm.1.2.imp Nat.le_of_ble_eq_true Nat.le_of_ble_eq_true, hm.2⟩
section
variable {P : Program} {ops : Array Oper} {Q Q0 : Exit → Act → World → Prop} {b k : Nat}
end

def notSelect (o : Oper) : Bool := match o.op with | .select _ _ => false | _ => true
end Go.Proofs.YtgldfnkbpopanaaGreatDoor

namespace Go.Proofs.YtgldfnkbpopanaaGreatDoor
open Go.RowKit Go.Shelf
set_option linter.unusedVariables false

def intC (n : Int) : List D := [.v (.int .i64 n)]
theorem ints_row {B : Nat} {F : Nat → Prop} {ρ : Nat → Value} {w : World} {id e : Nat} {l : List Int} (h : w.ownsRow B e 1 (ρ id) l.length (l.map (Value.int .i64))) (hn : ∀ g, blk (ρ id) = some g → ¬ F g) : ObOk B F ρ w id (.row e 1 (l.map intC)) := by
  refine ⟨fun i _ => Value.int .i64 (l.getD i 0), ?_, fun i hi => by simp [intC], fun i hi j hj => ⟨rfl, ?_⟩, hn⟩
  · have h5 : (((List.range (l.map intC).length).map fun i => (List.range 1).map (fun _ => Value.int .i64 (l.getD i 0))).flatten) = l.map (Value.int .i64) := by
      have h6 : ((List.range (l.map intC).length).map fun i => (List.range 1).map (fun _ => Value.int .i64 (l.getD i 0))) = l.map (fun n => [Value.int .i64 n]) := by
        apply List.ext_getElem
        · simp
        · intro i hi hi2
          have hl : i < l.length := by simpa using hi2
          simp [List.range_succ, List.getD_eq_getElem?_getD, hl]
      rw [h6]
      clear h6 h hn
      induction l with
      | nil => rfl
      | cons a l ih => simp [ih]
    rw [h5, List.length_map]
    exact h
  · have hl : i < l.length := by simpa using hi
    have hj0 : j = 0 := by simp [intC] at hj; exact hj
    subst hj0
    simp only [List.getElem_map, intC, List.getElem_cons_zero, List.getD_eq_getElem?_getD, List.getElem?_eq_getElem hl, Option.getD_some]
    exact .v _
section
variable {cx : Cx} {ops : Array Oper} {o : Oper} {rest : List Oper} {e : Env} {σ : Obs} {Q : Post}
end
section
variable {cx : Cx} {ops : Array Oper} {o : Oper} {rest : List Oper} {e : Env} {σ : Obs} {Q : Post}
end
def apartB (ops : Array Oper) (o0 : Oper) : Bool := (List.range ops.size).all fun j => Nat.beq j 0 || Region.edge ops j 0 || ((ops[j]?).map fun oj => o0.apart ops oj).getD true
def dstB (Φ : List Fr) (l : List Oper) : Bool := Φ.all fun f => (List.range l.length).all fun i => (List.range l.length).all fun j => Nat.beq i j || ((l[i]?).map fun o => neDst o f.dst).getD true || ((l[j]?).map fun o => neDst o f.dst).getD true
def openB (l : List Oper) (k2 k : Nat) (o0 : Oper) : Bool := Nat.blt 0 k2 && Nat.ble k2 k && Region.chainB l.toArray k && Region.chain1B (l.take k).toArray 1 k2 && (l.take k).all notSelect && apartB (l.take k).toArray o0 && (Array.all o0.after fun e => !(Region.binds .any e)) && Region.lexFrom .any (l.take k2).toArray (k2 - 1) 1 ((Array.replicate k2 false).setIfInBounds 0 true)
end Go.Proofs.YtgldfnkbpopanaaGreatDoor

namespace Go.Proofs.YtgldfnkbpopanaaGreatDoor
open Go.RowKit
set_option linter.unusedVariables false

def OneC (σ : Obs) (s : S) : Prop := OneS σ s ∨ ∃ id off, s = .ptr id off
theorem OneC.cell {σ : Obs} {s : S} (h : OneC σ s) {B : Nat} {F : Nat → Prop} {ρ : Nat → Value} {w : World} (hσ : ObsOk B F ρ w σ) {u : Value} (hu : RepS F ρ w u s) : ∃ c, u.cells = #[c] ∧ c.oneCell' = true ∧ RepS F ρ w c s := by
  rcases h with h | ⟨id, off, rfl⟩
  · exact h.cell hσ hu
  · cases hu with
    | ptr _ _ g hg => exact ⟨_, rfl, rfl, .ptr id off g hg⟩
/-- A new own block of cells, of whatever. -/
theorem R0.newCellsS {cx : Cx} {F : Nat → Prop} {ρ : Nat → Value} {e : Env} {σ : Obs} {a : Act} {w : World} (h : R0 cx F ρ e σ a w) {id dst : Nat} {ty : TypeId} {cs : List Value} {ss : List S} (hid : ∀ p ∈ σ, p.1 ≠ id) (hd : dst < cx.N) (hl : cs.length = ss.length) (hr : ∀ j (h1 : j < cs.length) (h2 : j < ss.length), cs[j].oneCell' = true ∧ RepS F ρ w cs[j] ss[j]) (hfx : cx.free id = true) :
    ∃ ρ', R0 cx F ρ' ((e.kill id).put (some dst) (.ptr id 0)) ((id, .cells (ss.map (S.kill id))) :: Obs.kill id σ) (a.put (some dst) (.pointer (some ⟨w.heap.size, 0, none⟩))) (w.alloc (.cells cs.toArray ty)) := by
  refine ⟨fun j => if j = id then .pointer (some ⟨w.heap.size, 0, none⟩) else ρ j, ?_⟩
  have hE : Ext F w F (w.alloc (.cells cs.toArray ty)) := Ext.of_below h.lt ((Below.refl _ _).alloc (Nat.le_refl _) _)
  have h2 := h.turn (ρ' := fun j => if j = id then .pointer (some ⟨w.heap.size, 0, none⟩) else ρ j) (id := id) (ob := .cells (ss.map (S.kill id))) (row := none) (w' := w.alloc (.cells cs.toArray ty)) (F' := F) (fun j hj => by simp [hj])
    ⟨hE.below.os, hE.below.tape, hE.below.output, hE.below.size, fun k hk _ => hE.below.block k hk⟩ hfx (fun g hg => by simp at hg) (fun b hb => hb) (fun b hb => .inl hb) hE.lt
    ⟨w.heap.size, ty, cs, by simp, h.hB, fun hf => by have := h.lt _ hf; omega, by simpa using heap_alloc_new w _, by simpa using hl, fun j hj hj' => by
      rw [List.getElem_map]
      have hj2 : j < ss.length := by simpa using hj'
      exact ⟨(hr j hj hj2).1, ((hr j hj hj2).2.ext h.lt hE).kill id (fun i hi => by simp [hi])⟩⟩
    (fun g hg => by simp [blk] at hg; exact .inr (by omega)) ((id, .cells (ss.map (S.kill id))) :: Obs.kill id σ) (fun p hp => by
      cases hp with
      | head => exact .inl rfl
      | tail _ hp => obtain ⟨q, hq, rfl⟩ := Obs.mem_kill hp; exact .inr ⟨q, hq, hid q hq, rfl⟩)
  have h3 := h2.put (o := ⟨some dst, .ready 0, 0, "", #[], none⟩) (v := .pointer (some ⟨w.heap.size, 0, none⟩)) (s := .ptr id 0) (Ext.refl h2.lt) (.ptr id 0 w.heap.size (by simp [blk])) (by simpa [DstOk, Nat.blt_eq] using hd)
  exact h3
section
variable {cx : Cx} {ops : Array Oper} {o : Oper} {rest : List Oper} {e : Env} {σ : Obs} {Q : Post}
theorem val_at {B : Nat} {F : Nat → Prop} {ρ : Nat → Value} {w : World} {vid : Nat} {ss : List S} {v : Value} (hσ : ObsOk B F ρ w σ) (hm : (vid, Ob.val ss) ∈ σ) (h : RepS F ρ w v (.own vid)) : ∃ cs : List Value, v = .agg cs.toArray ∧ cs.length = ss.length ∧ ∀ j (h1 : j < cs.length) (h2 : j < ss.length), cs[j].oneCell' = true ∧ RepS F ρ w cs[j] ss[j] := by
  obtain ⟨cs, h1, h2, h3⟩ := hσ.ok _ hm
  dsimp only at h1
  refine ⟨cs, ?_, h2, h3⟩
  cases h
  exact h1
/-- A parameter with own parts, boxed. -/
theorem AOps.boxVal {t dst vid : Nat} {x : Operand} {ss : List S} (id : Nat) (hg : o.guard = none) (ht : o.dst = some dst) (hdn : Nat.blt dst cx.N = true) (ho : o.op = .box t x) (hx : e.ev x = .own vid) (hm : (vid, Ob.val ss) ∈ σ) (hid : Obs.fresh id σ = true)
    (k : AOps cx ops rest ((e.kill id).put (some dst) (.ptr id 0)) ((id, .cells (ss.map (S.kill id))) :: Obs.kill id σ) Q) (hfx : cx.free id = true := by rfl) : AOps cx ops (o :: rest) e σ Q := by
  intro a w ⟨F, ρ, hr⟩
  have h2 := ev_rep (e := e) (x := x) (a := a) (fun t _ => hr.env t)
  rw [hx] at h2
  obtain ⟨cs, hv, hl, hc⟩ := val_at hr.obs hm h2
  obtain ⟨ρ', h5⟩ := hr.newCellsS (ty := t) (Obs.fresh_spec hid) (by simpa [Nat.blt_eq] using hdn) hl hc hfx
  refine wpList_plain hg fun K hK => ?_
  unfold Oper.wp execOp
  simp only [ho, Instr.box, newVar, newRow, hv, Value.cells]
  have := k _ _ ⟨F, ρ', h5⟩
  rw [← ht] at this
  exact hK _ _ this
theorem set_mid {α : Type} (cs vs : List α) (off size j : Nat) (hv : vs.length = size) (hle : off + size ≤ cs.length) (hj : j < (cs.take off ++ vs ++ cs.drop (off + size)).length) : (cs.take off ++ vs ++ cs.drop (off + size))[j] = if h : off ≤ j ∧ j < off + size then vs[j - off]'(by omega) else cs[j]'(by simp at hj; omega) := by
  by_cases j1 : j < off
  · rw [dif_neg (by omega), List.getElem_append_left (by simp; omega), List.getElem_append_left (by simp; omega), List.getElem_take]
  · by_cases j2 : j < off + size
    · rw [dif_pos ⟨by omega, j2⟩, List.getElem_append_left (by simp; omega), List.getElem_append_right (by simp; omega)]
      have e1 : (List.take off cs).length = off := by simp; omega
      simp only [e1]
    · rw [dif_neg (by omega), List.getElem_append_right (by simp; omega), List.getElem_drop]
      have e1 : (List.take off cs ++ vs).length = off + size := by simp; omega
      have e2 : off + size + (j - (off + size)) = j := by omega
      simp only [e1, e2]
/-- A struct with own parts, stored. -/
theorem EOp.storeVal {t id off size vid : Nat} {x y : Operand} {ss ss' : List S} (ht : o.dst = none) (ho : o.op = .store t x y) (hs : ∀ w, (sizeOf t).run cx.P w = .ok size w) (hx : e.ev x = .ptr id off) (hm : (id, Ob.cells ss) ∈ σ) (hy : e.ev y = .own vid) (hmv : (vid, Ob.val ss') ∈ σ) (hl' : ss'.length = size)
    (hle : off + size ≤ ss.length) : EOp cx ops o e σ (Obs.upd id (.cells (ss.take off ++ ss' ++ ss.drop (off + size))) σ) := by
  intro F ρ a w e0 hr ha
  have hop : ∀ y ∈ o.op.operands.toList, RepS F ρ w (a.eval y) (e.ev y) := fun y hy => ev_rep fun t ht => ha t (looks_op (by rw [← ht]; exact hy))
  have r1 := hop x (by rw [ho]; simp [Op.operands])
  have r2 := hop y (by rw [ho]; simp [Op.operands])
  rw [hx] at r1
  rw [hy] at r2
  obtain ⟨cs, hv, hl, hc⟩ := val_at hr.obs hmv r2
  obtain ⟨g, ty, cs0, hρ, hB, hF, hh, hcl, hcs⟩ := hr.obs.ok _ hm
  dsimp only at hρ
  have hxv := ptr_at r1 (g := g) (by rw [hρ]; rfl)
  have h4 : ∀ u ∈ (a.eval y).cells.toList, u.oneCell' = true := fun u hu => by
    rw [hv] at hu
    simp only [Value.cells] at hu
    obtain ⟨j, hj, rfl⟩ := List.getElem_of_mem hu
    have hj' : j < cs.length := by simpa using hj
    simpa using (hc j hj' (by omega)).1
  have hsz : (a.eval y).cells.size = size := by rw [hv]; simp [Value.cells]; omega
  obtain ⟨w', h5, h6, h7⟩ := storeVar_run (P := cx.P) (off := off) hs hsz hh (by omega) h4
  unfold Oper.wp execOp
  simp only [ho, Instr.storeAt, hxv, Instr.sureAddr, Sem.run_bind, Sem.run_pure, Result.andThen_ok, h5]
  refine ⟨by rw [ht]; rfl, fun e2 hr2 => ⟨F, ρ, ?_⟩⟩
  have hcl2 : (a.eval y).cells.toList = cs := by rw [hv]; simp [Value.cells]
  rw [hcl2] at h7
  refine hr2.write hρ hm hB hF h6 h7 (by simp; omega) (fun j hj hj' => ?_)
  rw [set_mid cs0 cs off size j (by omega) (by omega) hj, set_mid ss ss' off size j hl' hle hj']
  by_cases hjj : off ≤ j ∧ j < off + size
  · rw [dif_pos hjj, dif_pos hjj]
    exact hc _ _ _
  · rw [dif_neg hjj, dif_neg hjj]
    exact hcs _ _ _
end
/-! One object takes another's place. -/
def S.ren (i j : Nat) : S → S
  | .own k => match Nat.beq k i with | true => .own j | false => match Nat.beq k j with | true => .d .any | false => .own k
  | .ptr k off => match Nat.beq k i with | true => .ptr j off | false => match Nat.beq k j with | true => .d .any | false => .ptr k off
  | .d x => .d x
  | .clo f caps => .d .any
def Ob.ren (i j : Nat) : Ob → Ob
  | .row e size els => .row e size els
  | .cells ss => .cells (ss.map (S.ren i j))
  | .cellsT e ss => .cellsT e (ss.map (S.ren i j))
  | .map M => .map M
  | .rowS e size els => .rowS e size (els.map fun ss => ss.map (S.ren i j))
  | .bts l => .bts l
  | .val ss => .val (ss.map (S.ren i j))
  | .iter M done => .iter M done
section
variable {cx : Cx} {ops : Array Oper} {rest : List Oper} {e : Env} {σ : Obs} {Q : Post}
end

/-- f returns a struct whose parts are as ss', some of them own objects; the object vid is that struct. -/
def XSCall (P : Program) (f : FuncId) (ss : List S) (σ σ' : Obs) (chg : Nat → Bool) (s : S) : Prop := Enters P f ∧
  ∀ (F : Nat → Prop) (ρ : Nat → Value) (B : Nat) (w : World) (vs : List Value), (∀ b, F b → b < w.heap.size) → B ≤ w.heap.size → ObsOk B F ρ w σ → RepSL F ρ w vs ss →
    Calls P f vs.toArray w fun e w' => ∃ v F' ρ', e = .returned v ∧ RepS F' ρ' w' v s ∧ XEnd B F ρ w σ F' ρ' w' σ' chg

theorem args_R {P : Program} {n : Nat} {ss : List S} {σ : Obs} {chg : Nat → Bool} {F : Nat → Prop} {ρ : Nat → Value} {B : Nat} {w : World} {vs : List Value} {m : Nat} (hN : m = n) (hle : ss.length ≤ n) (hF : ∀ b, F b → b < w.heap.size) (hB : B ≤ w.heap.size) (hσ : ObsOk B F ρ w σ) (hv : RepSL F ρ w vs ss) :
    R ⟨P, n, B, w, F, (fun b => w.heap.size ≤ b ∨ ownB σ ρ b), fun i => !(chg i), ρ⟩ (Env.argsS 0 ss) σ { tmps := vs.toArray ++ Array.replicate (m - vs.toArray.size) undef, defers := [] } w := by
  refine ⟨F, ρ, ?_, rfl, hF, fun b hb => hb, fun b hb => .inl hb, Kept.refl _ _, hB, fun t => ?_, hσ, fun b hb => .inl hb, fun p hp g hg => .inr ⟨p, hp, hg⟩, fun i _ => rfl⟩
  · simp [hN, hv.1]; omega
  · by_cases ht : t < ss.length
    · have := Env.argsS_get ss 0 t ht
      rw [Nat.zero_add] at this
      rw [this]
      have hvt : t < vs.length := by rw [hv.1]; exact ht
      have : (vs.toArray ++ Array.replicate (m - vs.toArray.size) undef).getD t undef = vs[t] := by
        rw [Array.getD_eq_getD_getElem?, Array.getElem?_append_left (by simpa using hvt)]
        simp [hvt]
      rw [this]
      exact hv.2 t hvt ht
    · have := Env.argsS_out ss 0 t (by omega)
      rw [Nat.zero_add] at this
      rw [this]
      exact .d (.any _)
/-- What a result in a cell comes to. -/
theorem res_cell {cx : Cx} {F : Nat → Prop} {ρ : Nat → Value} {e : Env} {σ : Obs} {a : Act} {w : World} {fn : Func} {b t size cid : Nat} {ss : List S} (h : R0 cx F ρ e σ a w) (hr : fn.results = #[.cell b t]) (hT : AggT cx.P t size) (he : e b = .ptr cid 0) (hm : (cid, Ob.cells ss) ∈ σ) (hl : ss.length = size) :
    ∃ cs : List Value, (results fn a.tmps).run cx.P w = .ok (.agg cs.toArray) w ∧ cs.length = ss.length ∧ ∀ j (h1 : j < cs.length) (h2 : j < ss.length), cs[j].oneCell' = true ∧ RepS F ρ w cs[j] ss[j] := by
  obtain ⟨g, ty, cs, k1, k2, k3, k4, k5, k6⟩ := h.obs.ok _ hm
  dsimp only at k1
  have hv : a.tmps.getD b undef = .pointer (some ⟨g, 0, none⟩) := by
    have := h.env b
    rw [he] at this
    exact ptr_at this (by rw [k1]; rfl)
  have hcells : (loadCells ⟨g, 0, none⟩ cs.length).run cx.P w = .ok cs.toArray w := run_loadCells_list w _ cs (fun j v hj => by
    rw [addr_add, cell_of_row w g (0 + j) cs.toArray ty (0, 0) k4]
    simpa using hj)
  have hn : cs.length = size := by omega
  rw [hn] at hcells
  refine ⟨cs, ?_, k5, k6⟩
  have h1 : (List.mapM (resSem a.tmps) [ResultVar.cell b t] : Sem (List Value)).run cx.P w = .ok [.agg cs.toArray] w := by
    rw [List.mapM_cons, Sem.run_bind]
    have h2 : (resSem a.tmps (.cell b t)).run cx.P w = .ok (.agg cs.toArray) w := by
      simp only [resSem, hv, asAddr, Sem.run_bind, Sem.run_pure, Result.andThen_ok, loadVar, hT.agg w, if_true, hT.size w, hcells]
    rw [h2]
    rfl
  unfold results
  rw [hr, Sem.run_bind]
  have h2 : (Array.mapM (fun r => match r with | ResultVar.tmp t => pure (a.tmps.getD t undef) | ResultVar.cell b t => do loadVar t (← asAddr (a.tmps.getD b undef))) [ResultVar.cell b t].toArray : Sem (Array Value)).run cx.P w = .ok [Value.agg cs.toArray].toArray w := by
    rw [List.mapM_toArray, Sem.run_map]
    have h4 : (List.mapM (fun r => match r with | ResultVar.tmp t => pure (a.tmps.getD t undef) | ResultVar.cell b t => do loadVar t (← asAddr (a.tmps.getD b undef))) [ResultVar.cell b t] : Sem (List Value)).run cx.P w = .ok [.agg cs.toArray] w := h1
    rw [h4]
    rfl
  exact (congrArg (fun r => Result.andThen r _) h2).trans rfl
def RetXC (b : Nat) (ds : List D) (σ' : Obs) : Post := fun ex e σ => match ex with
  | .ret => (∃ cid, e b = .ptr cid 0 ∧ (cid, Ob.cells (ds.map S.d)) ∈ σ) ∧ AllIn σ σ'
  | .normal => (∃ cid, e b = .ptr cid 0 ∧ (cid, Ob.cells (ds.map S.d)) ∈ σ) ∧ AllIn σ σ'
  | _ => False
def RetXV (b vid : Nat) (ss' : List S) (σr : Obs) : Post := fun ex e σ => match ex with
  | .ret => (∃ cid ssr, e b = .ptr cid 0 ∧ (cid, Ob.cells ssr) ∈ σ ∧ ssr.map (S.kill vid) = ss' ∧ Obs.fresh vid σr = true ∧ Obs.kill vid σr = σr) ∧ AllIn σ σr
  | .normal => (∃ cid ssr, e b = .ptr cid 0 ∧ (cid, Ob.cells ssr) ∈ σ ∧ ssr.map (S.kill vid) = ss' ∧ Obs.fresh vid σr = true ∧ Obs.kill vid σr = σr) ∧ AllIn σ σr
  | _ => False
/-- Its result: a struct with own parts, out of a cell. -/
theorem xval_of {P : Program} {f : FuncId} {fn : Func} {c : Code} {n b t size vid : Nat} {ss ss' : List S} {σ σr : Obs} {chg : Nat → Bool} (hf : P.funcs[f]? = some fn) (hb : fn.body = some c) (hn : (fn.name == "runtime.NumGoroutine") = false) (hN : fn.ntmps = n)
    (hr : fn.results = #[.cell b t]) (hT : AggT P t size) (hl : ss'.length = size) (hle' : Nat.ble ss.length n = true) (hvid : chg vid = true)
    (h : ∀ B w0 F0 fr ρ0, AWP ⟨P, n, B, w0, F0, fr, fun i => !(chg i), ρ0⟩ c (Env.argsS 0 ss) σ (RetXV b vid ss' σr)) : XSCall P f ss σ ((vid, .val ss') :: σr) chg (.own vid) := by
  have hle : ss.length ≤ n := Nat.le_of_ble_eq_true hle'
  refine ⟨Enters.of hf hn (by rw [hb]; rfl), fun F ρ B w vs hF hB hσ hv => ?_⟩
  refine calls_of_wp hf hb ?_
  refine wp_mono (h _ _ _ _ _ _ _ (args_R hN hle hF hB hσ hv)) ?_
  rintro ex a w' ⟨e', σe, hq, F', ρ', hr'⟩
  have hends : (∃ cid ssr, e' b = .ptr cid 0 ∧ (cid, Ob.cells ssr) ∈ σe ∧ ssr.map (S.kill vid) = ss' ∧ Obs.fresh vid σr = true ∧ Obs.kill vid σr = σr) ∧ AllIn σe σr →
      bodyPost P fn (fun e w' => ∃ v F' ρ', e = .returned v ∧ RepS F' ρ' w' v (.own vid) ∧ XEnd B F ρ w σ F' ρ' w' ((vid, .val ss') :: σr) chg) .ret a w' := by
    rintro ⟨⟨cid, ssr, h1, h2, h3, h4, h5⟩, hin⟩
    have hin := hin.mem
    have hls : ssr.length = size := by rw [← hl, ← h3]; simp
    obtain ⟨cs, k1, k2, k3⟩ := res_cell hr' hr hT h1 h2 hls
    have hT := hr'.turn (ρ' := fun j => if j = vid then .agg cs.toArray else ρ' j) (id := vid) (ob := .val ss') (row := none) (w' := w') (F' := F') (fun j hj => by simp [hj])
      ⟨rfl, rfl, rfl, Nat.le_refl _, fun _ _ _ => rfl⟩ (by unfold Cx.free; dsimp only; rw [hvid]; rfl) (fun g hg => by simp at hg) (fun b hb => hb) (fun b hb => .inl hb) hr'.lt
      ⟨cs, by simp, by rw [← h3]; simpa using k2, fun j hj hj' => by
        subst h3
        rw [List.getElem_map]
        have hj2 : j < ssr.length := by simpa using hj'
        exact ⟨(k3 j hj hj2).1, (k3 j hj hj2).2.kill vid (fun i hi => by simp [hi])⟩⟩ (fun g hg => by simp [blk] at hg) ((vid, .val ss') :: σr) (fun p hp => by
        rcases List.mem_cons.1 hp with rfl | hp
        · exact .inl rfl
        · rw [← h5] at hp
          obtain ⟨q, hq, rfl⟩ := Obs.mem_kill hp
          exact .inr ⟨q, hin q hq, Obs.fresh_spec h4 q hq, rfl⟩)
    refine ⟨hr'.defers, _, k1, _, F', _, rfl, ?_, hT.base, hT.new, hT.lt, hT.below, hT.obs, hT.kown, fun i hi => hT.fixed i (by show (!(chg i)) = true; rw [hi]; rfl)⟩
    have := RepS.own (F := F') (ρ := fun j => if j = vid then Value.agg cs.toArray else ρ' j) (w := w') vid
    simpa using this
  cases ex with
  | ret => exact hends hq
  | normal => exact hends hq
  | exit id => exact hq.elim
  | goto l => exact hq.elim
  | panic c => exact hq.elim
  | outgrown => exact hq.elim
section
variable {cx : Cx} {ops : Array Oper} {o : Oper} {rest : List Oper} {e : Env} {σ : Obs} {Q : Post}
theorem AOps.callXS {f : FuncId} {xs : List Operand} {ts : Array TypeId} {ss : List S} {σc σ' : Obs} {chg : Nat → Bool} {s : S} (hg : o.guard = none) (hd : DstOk cx.N o)
    (ho : o.op = .call { callee := .value (.func f), args := xs.toArray, argTypes := ts }) (ha : ArgsS e xs ss) (h : XSCall cx.P f ss σc σ' chg s) (hin : AllIn σ σc)
    (h1 : Obs.allIds (fun i => !(chg i)) (Obs.dels σc σ) = true) (h2 : Obs.allIds (fun i => Obs.allIds (fun j => !(Nat.beq i j)) (Obs.dels σc σ)) σ' = true) (h3 : ∀ i, chg i = true → cx.fixp i = false)
    (k : AOps cx ops rest ((e.killP chg).put o.dst s) (Obs.join σ' (Obs.killP chg (Obs.dels σc σ))) Q) : AOps cx ops (o :: rest) e σ Q := by
  intro a w ⟨F, ρ, hr⟩
  have h4 := h.2 F ρ cx.B w _ hr.lt hr.hB (hr.obs.sub hin.mem) (ArgsS.rep hr.env ha)
  have h5 := h.1 (xs.map a.eval).toArray w
  have hx : (execOp a.eval o).run cx.P w = .ok (.enter f (xs.map a.eval).toArray) w := by
    unfold execOp
    simp only [ho, resolve, Deferred.ofValue, Act.eval, invoke, Sem.run_bind, Sem.run_pure, Result.andThen_ok]
    simpa using h5
  refine wpList_plain hg fun K hK => ?_
  unfold Oper.wp
  rw [hx]
  refine h4.mono fun _ w' ⟨v, F', ρ', he, hv, hE⟩ => ?_
  subst he
  exact hK _ _ (k _ _ ⟨F', ρ', (hr.after hin.mem hE h1 h2 h3).put (Ext.refl hE.lt) hv hd⟩)
end
end Go.Proofs.YtgldfnkbpopanaaGreatDoor

namespace Go.Proofs.YtgldfnkbpopanaaGreatDoor
open Go.RowKit Go.MapKept
set_option linter.unusedVariables false
set_option linter.unusedSimpArgs false
section
variable {cx : Cx} {ops : Array Oper} {o : Oper} {rest : List Oper} {e : Env} {σ : Obs} {Q : Post}
/-- range m, where m is data: its entries in some order. -/
theorem AOps.rangeF {t k et dst : Nat} {m : Operand} {M : List (Value × D)} (id : Nat) (hg : o.guard = none) (ht : o.dst = some dst) (hdn : Nat.blt dst cx.N = true) (ho : o.op = .range t m) (hu : cx.P.underlying t = some (.map k et)) (hm : e.ev m = .d (.fm M)) (hid : Obs.fresh id σ = true)
    (kk : ∀ M0 : List (Value × D), M0.Perm M → AOps cx ops rest ((e.kill id).put (some dst) (.ptr id 0)) ((id, .iter M0 []) :: Obs.kill id σ) Q) (hfx : cx.free id = true := by rfl) : AOps cx ops (o :: rest) e σ Q := by
  intro a w ⟨F, ρ, hr⟩
  have r1 := ev_rep (e := e) (x := m) (a := a) (fun t _ => hr.env t)
  rw [hm] at r1
  obtain ⟨M0, hpm, b, clock, es, hv, hFb, hh, hMC, hall⟩ := rep_fmC (repS_d r1)
  have hblt : b < w.heap.size := (Array.getElem?_eq_some_iff.1 hh).1
  have hE : Ext F w F (w.alloc (.mapIter (some b) clock #[] clock)) := Ext.of_below hr.lt ((Below.refl _ _).alloc (Nat.le_refl _) _)
  have h2 := hr.turn (ρ' := fun j => if j = id then .pointer (some ⟨w.heap.size, 0, none⟩) else ρ j) (id := id) (ob := .iter M0 []) (row := none) (w' := w.alloc (.mapIter (some b) clock #[] clock)) (F' := F) (fun j hj => by simp [hj])
    ⟨hE.below.os, hE.below.tape, hE.below.output, hE.below.size, fun k hk _ => hE.below.block k hk⟩ hfx (fun g hg => by simp at hg) (fun b hb => hb) (fun b hb => .inl hb) hE.lt
    ⟨w.heap.size, b, es, clock, #[], clock, by simp, hr.hB, fun hf => by have := hr.lt _ hf; omega, by simpa using heap_alloc_new w _, hFb, by rw [hE.below.block b hblt]; exact hh, ⟨hMC, rfl, by simp, rfl⟩,
      fun i hi hi' => ⟨(hall i hi hi').1, (hall i hi hi').2.mono (fun c hc => hc) fun c hc => hE.below.block c (hr.lt c hc)⟩⟩
    (fun g hg => by simp [blk] at hg; exact .inr (by omega)) ((id, .iter M0 []) :: Obs.kill id σ) (fun p hp => by
      cases hp with
      | head => exact .inl rfl
      | tail _ hp => obtain ⟨q, hq, rfl⟩ := Obs.mem_kill hp; exact .inr ⟨q, hq, Obs.fresh_spec hid q hq, rfl⟩)
  have h3 := h2.put (o := ⟨some dst, .ready 0, 0, "", #[], none⟩) (v := .pointer (some ⟨w.heap.size, 0, none⟩)) (s := .ptr id 0) (Ext.refl h2.lt) (.ptr id 0 w.heap.size (by simp [blk])) (by simpa [DstOk, Nat.blt_eq] using hdn)
  refine wpList_plain hg fun K hK => ?_
  unfold Oper.wp execOp
  simp only [ho, hv, Sem.run_bind, run_range_map w t k et b es clock hu hh, Result.andThen_ok, Sem.run_pure]
  have := kk M0 hpm _ _ ⟨_, _, h3⟩
  rw [← ht] at this
  exact hK _ _ this
theorem own_map {F : Nat → Prop} {ρ : Nat → Value} {a : Act} {w : World} (hr : R0 cx F ρ e σ a w) {x : Operand} {i : Nat} {M : List (Value × D)} (hx : e.ev x = .own i) (hm : (i, Ob.map M) ∈ σ) : ∃ b, a.eval x = .map (some b) ∧ RepS F ρ w (a.eval x) (.own i) := by
  have r1 := ev_rep (e := e) (x := x) (a := a) (fun t _ => hr.env t)
  rw [hx] at r1
  obtain ⟨b, es, clock, hρ, _⟩ := hr.obs.ok _ hm
  dsimp only at hρ
  refine ⟨b, ?_, r1⟩
  rw [← hρ]; generalize a.eval x = u at r1; cases r1; rfl
/-- A struct of two own maps, built. -/
theorem AOps.buildMaps {t dst i j : Nat} {x y : Operand} {M N : List (Value × D)} {places : Nat → Option (Nat × Nat)} {z0 z1 : Value} (id : Nat) (hg : o.guard = none) (ht : o.dst = some dst) (hdn : Nat.blt dst cx.N = true) (ho : o.op = .build t #[(0, x), (1, y)]) (T : StructT cx.P t places [z0, z1]) (hp0 : places 0 = some (0, 1)) (hp1 : places 1 = some (1, 1))
    (hx : e.ev x = .own i) (hy : e.ev y = .own j) (hmx : (i, Ob.map M) ∈ σ) (hmy : (j, Ob.map N) ∈ σ) (hid : Obs.fresh id σ = true)
    (k : AOps cx ops rest ((e.kill id).put (some dst) (.own id)) ((id, .val ([S.own i, .own j].map (S.kill id))) :: Obs.kill id σ) Q) (hfx : cx.free id = true := by rfl) : AOps cx ops (o :: rest) e σ Q := by
  intro a w ⟨F, ρ, hr⟩
  obtain ⟨b, hb, hb2⟩ := own_map hr hx hmx
  obtain ⟨c, hc, hc2⟩ := own_map hr hy hmy
  refine wpList_plain hg fun K hK => ?_
  unfold Oper.wp execOp
  simp only [ho, Sem.run_bind]
  rw [T.run w]
  have hfill : Instr.fill places [z0, z1].toArray (Array.map (fun p => (p.1, a.eval p.2)) #[(0, x), (1, y)]).toList = some #[a.eval x, a.eval y] := by
    simp [Instr.fill, hp0, hp1, hb, hc, Value.cells]
  rw [hfill]
  simp only [Result.andThen_ok, Sem.run_pure]
  obtain ⟨ρ', h8⟩ := hr.newObF (id := id) (dst := dst) (ob := .val ([S.own i, .own j].map (S.kill id))) (v := .agg #[a.eval x, a.eval y]) (Obs.fresh_spec hid) (by simpa [Nat.blt_eq] using hdn) (Ext.refl hr.lt) (by
    refine ⟨[a.eval x, a.eval y], by simp, rfl, fun m hm hm' => ?_⟩
    match m, hm with
    | 0, _ => exact ⟨by rw [List.getElem_cons_zero, hb]; rfl, hb2.kill id (fun i hi => by simp [hi])⟩
    | 1, _ => exact ⟨by rw [List.getElem_cons_succ, List.getElem_cons_zero, hc]; rfl, hc2.kill id (fun i hi => by simp [hi])⟩) (fun g hg => by simp [blk] at hg) hfx
  have := k _ _ ⟨F, ρ', h8⟩
  rw [← ht] at this
  exact hK _ _ this
end
/-! A call that writes, whose objects behind are one of a family (a map that was written in whatever order). -/
def XCallE {ι : Type} (P : Program) (f : FuncId) (ss : List S) (σ : Obs) (σ' : ι → Obs) (ok : ι → Prop) (chg : Nat → Bool) (d : D) : Prop := Enters P f ∧
  ∀ (F : Nat → Prop) (ρ : Nat → Value) (B : Nat) (w : World) (vs : List Value), (∀ b, F b → b < w.heap.size) → B ≤ w.heap.size → ObsOk B F ρ w σ → RepSL F ρ w vs ss →
    Calls P f vs.toArray w fun e w' => ∃ i, ok i ∧ ∃ v F' ρ', e = .returned v ∧ Rep F' w' v d ∧ XEnd B F ρ w σ F' ρ' w' (σ' i) chg
def RetXE {ι : Type} (ts : List Nat) (ds : List D) (σ' : ι → Obs) (ok : ι → Prop) : Post := fun ex e σ => match ex with
  | .ret => ∃ i, ok i ∧ RetLX e σ (σ' i) ts ds ∧ AllIn σ (σ' i)
  | .normal => ∃ i, ok i ∧ RetLX e σ (σ' i) ts ds ∧ AllIn σ (σ' i)
  | _ => False
theorem xcallE_of {ι : Type} {P : Program} {f : FuncId} {fn : Func} {c : Code} {n : Nat} {ss : List S} {σ : Obs} {σ' : ι → Obs} {ok : ι → Prop} {chg : Nat → Bool} {ds' : List D} (hf : P.funcs[f]? = some fn) (hb : fn.body = some c) (hn : (fn.name == "runtime.NumGoroutine") = false) (hN : fn.ntmps = n)
    (ts : List Nat) (hr : fn.results = (ts.map ResultVar.tmp).toArray) (hle' : Nat.ble ss.length n = true)
    (h : ∀ B w0 F0 fr ρ0, AWP ⟨P, n, B, w0, F0, fr, fun i => !(chg i), ρ0⟩ c (Env.argsS 0 ss) σ (RetXE ts ds' σ' ok)) : XCallE P f ss σ σ' ok chg (retOf ds') := by
  have hle : ss.length ≤ n := Nat.le_of_ble_eq_true hle'
  refine ⟨Enters.of hf hn (by rw [hb]; rfl), fun F ρ B w vs hF hB hσ hv => ?_⟩
  refine calls_of_wp hf hb ?_
  have hR : R ⟨P, n, B, w, F, (fun b => w.heap.size ≤ b ∨ ownB σ ρ b), fun i => !(chg i), ρ⟩ (Env.argsS 0 ss) σ { tmps := vs.toArray ++ Array.replicate (fn.ntmps - vs.toArray.size) undef, defers := [] } w := by
    refine ⟨F, ρ, ?_, rfl, hF, fun b hb => hb, fun b hb => .inl hb, Kept.refl _ _, hB, fun t => ?_, hσ, fun b hb => .inl hb, fun p hp g hg => .inr ⟨p, hp, hg⟩, fun i _ => rfl⟩
    · simp [hN, hv.1]; omega
    · by_cases ht : t < ss.length
      · have := Env.argsS_get ss 0 t ht
        rw [Nat.zero_add] at this
        rw [this]
        have hvt : t < vs.length := by rw [hv.1]; exact ht
        have : (vs.toArray ++ Array.replicate (fn.ntmps - vs.toArray.size) undef).getD t undef = vs[t] := by
          rw [Array.getD_eq_getD_getElem?, Array.getElem?_append_left (by simpa using hvt)]
          simp [hvt]
        rw [this]
        exact hv.2 t hvt ht
      · have := Env.argsS_out ss 0 t (by omega)
        rw [Nat.zero_add] at this
        rw [this]
        exact .d (.any _)
  refine wp_mono (h _ _ _ _ _ _ _ hR) ?_
  rintro ex a w' ⟨e', σe, hq, F', ρ', hr'⟩
  have hres : (results fn a.tmps).run P w' = .ok (match ts.map fun t => a.tmps.getD t undef with | [x] => x | l => .tuple l.toArray) w' := by
    have key : ∀ (ts : List Nat), (List.mapM (fun r => match r with | .tmp t => pure (a.tmps.getD t undef) | .cell b t => do loadVar t (← asAddr (a.tmps.getD b undef))) (ts.map ResultVar.tmp) : Sem (List Value)).run P w' = .ok (ts.map fun t => a.tmps.getD t undef) w' := by
      intro ts
      induction ts with
      | nil => rfl
      | cons t ts ih =>
        rw [List.map_cons, List.mapM_cons, Sem.run_bind]
        simp only [Sem.run_pure, Result.andThen_ok, Sem.run_bind, ih, List.map_cons]
    unfold results
    rw [hr, Sem.run_bind]
    have h2 : (Array.mapM (fun r => match r with | ResultVar.tmp t => pure (a.tmps.getD t undef) | ResultVar.cell b t => do loadVar t (← asAddr (a.tmps.getD b undef))) (ts.map ResultVar.tmp).toArray : Sem (Array Value)).run P w' = .ok (ts.map fun t => a.tmps.getD t undef).toArray w' := by
      rw [List.mapM_toArray, Sem.run_map, key]
      rfl
    have h3 := h2
    refine (congrArg (fun r => Result.andThen r _) h3).trans ?_
    simp only [Result.andThen_ok]
    rcases ts with _ | ⟨t, _ | ⟨t2, ts⟩⟩ <;> rfl
  have hends : (∃ i, ok i ∧ RetLX e' σe (σ' i) ts ds' ∧ AllIn σe (σ' i)) → bodyPost P fn (fun e w' => ∃ i, ok i ∧ ∃ v F' ρ', e = .returned v ∧ Rep F' w' v (retOf ds') ∧ XEnd B F ρ w σ F' ρ' w' (σ' i) chg) .ret a w' := by
    rintro ⟨i, hok, hq, hin⟩
    have hl := hq.rep hr'
    have hin := hin.mem
    refine ⟨hr'.defers, _, hres, i, hok, _, endFX F' ρ' σe (σ' i), ρ', rfl, ?_, ?_⟩
    · generalize (ts.map fun t => a.tmps.getD t undef) = vs' at hl
      obtain ⟨h1, h2⟩ := hl
      rcases ds' with _ | ⟨d, _ | ⟨d2, ds'⟩⟩
      · have : vs' = [] := List.eq_nil_of_length_eq_zero h1
        subst this
        exact .tup [] [] rfl (fun i h1 => absurd h1 (by simp))
      · rcases vs' with _ | ⟨x, _ | ⟨y, vs'⟩⟩ <;> simp at h1
        exact h2 0 (by simp) (by simp)
      · rcases vs' with _ | ⟨x, _ | ⟨y, vs'⟩⟩
        · simp at h1
        · simp at h1
        · exact .tup _ _ h1 h2
    · have hlt : ∀ b, endFX F' ρ' σe (σ' i) b → b < w'.heap.size := by
        rintro b (hb | ⟨p, hp, _, hb⟩)
        · exact hr'.lt b hb
        · exact ((hr'.obs.ok p hp).blk_lt hb).2
      refine ⟨fun b hb => .inl (hr'.base b hb), ?_, hlt, hr'.below, ⟨fun p hp => ?_, fun p hp q hq => hr'.obs.apart p (hin p hp) q (hin q hq), fun p hp q hq => hr'.obs.uniq p (hin p hp) q (hin q hq)⟩, fun p hp => hr'.kown p (hin p hp), fun i hi => hr'.fixed i (by show (!(chg i)) = true; rw [hi]; rfl)⟩
      · rintro b (hb | ⟨p, hp, _, hb⟩)
        · exact hr'.new b hb
        · exact .inr (hr'.kown p hp b hb)
      · refine (hr'.obs.ok p (hin p hp)).more hr'.lt (fun b hb => .inl hb) ?_
        rintro g hg (hf | ⟨q, hq, hne, hb⟩)
        · exact (hr'.obs.ok p (hin p hp)).nF hg hf
        · exact hr'.obs.apart p (hin p hp) q hq (hne p hp) g hg hb
  cases ex with
  | ret => exact hends hq
  | normal => exact hends hq
  | exit id => exact hq.elim
  | goto l => exact hq.elim
  | panic c => exact hq.elim
  | outgrown => exact hq.elim
section
variable {cx : Cx} {ops : Array Oper} {o : Oper} {rest : List Oper} {e : Env} {σ : Obs} {Q : Post}
theorem AOps.callXE {ι : Type} {f : FuncId} {xs : List Operand} {ts : Array TypeId} {ss : List S} {σc : Obs} {σ' : ι → Obs} {ok : ι → Prop} {chg : Nat → Bool} {d : D} (hg : o.guard = none) (hd : DstOk cx.N o)
    (ho : o.op = .call { callee := .value (.func f), args := xs.toArray, argTypes := ts }) (ha : ArgsS e xs ss) (h : XCallE cx.P f ss σc σ' ok chg d) (hin : AllIn σ σc)
    (h1 : Obs.allIds (fun i => !(chg i)) (Obs.dels σc σ) = true) (h2 : ∀ i, Obs.allIds (fun i => Obs.allIds (fun j => !(Nat.beq i j)) (Obs.dels σc σ)) (σ' i) = true) (h3 : ∀ i, chg i = true → cx.fixp i = false)
    (k : ∀ i, ok i → AOps cx ops rest ((e.killP chg).put o.dst (.d d)) (Obs.join (σ' i) (Obs.killP chg (Obs.dels σc σ))) Q) : AOps cx ops (o :: rest) e σ Q := by
  intro a w ⟨F, ρ, hr⟩
  have h4 := h.2 F ρ cx.B w _ hr.lt hr.hB (hr.obs.sub hin.mem) (ArgsS.rep hr.env ha)
  have h5 := h.1 (xs.map a.eval).toArray w
  have hx : (execOp a.eval o).run cx.P w = .ok (.enter f (xs.map a.eval).toArray) w := by
    unfold execOp
    simp only [ho, resolve, Deferred.ofValue, Act.eval, invoke, Sem.run_bind, Sem.run_pure, Result.andThen_ok]
    simpa using h5
  refine wpList_plain hg fun K hK => ?_
  unfold Oper.wp
  rw [hx]
  refine h4.mono fun _ w' ⟨i, hok, v, F', ρ', he, hv, hE⟩ => ?_
  subst he
  exact hK _ _ (k i hok _ _ ⟨F', ρ', (hr.after hin.mem hE h1 (h2 i) h3).put (Ext.refl hE.lt) (.d hv) hd⟩)
end
end Go.Proofs.YtgldfnkbpopanaaGreatDoor

namespace Go.Proofs.YtgldfnkbpopanaaGreatDoor
open Go.RowKit
set_option linter.unusedVariables false
set_option linter.unusedSimpArgs false

/-- f, called with what reads as ds, returns a new struct of two new maps that nobody else has. -/
def SCall (P : Program) (f : FuncId) (ds : List D) (T M : List (Value × D)) : Prop := Enters P f ∧
  ∀ (F : Nat → Prop) (w : World) (vs : List Value), (∀ b, F b → b < w.heap.size) → RepL F w vs ds →
    Calls P f vs.toArray w fun r w' => ∃ b1 b2 F', r = .returned (.agg #[.map (some b1), .map (some b2)]) ∧ b1 ≠ b2 ∧ Ext F w F' w' ∧ ObOk w.heap.size F' (fun _ => .map (some b1)) w' 0 (.map T) ∧ ObOk w.heap.size F' (fun _ => .map (some b2)) w' 0 (.map M)
theorem obOk_map {B B' : Nat} {F : Nat → Prop} {ρ ρ' : Nat → Value} {w : World} {id id' : Nat} {M : List (Value × D)} (h : ObOk B F ρ w id (.map M)) (hB : B' ≤ B) (he : ρ id = ρ' id') : ObOk B' F ρ' w id' (.map M) := by
  obtain ⟨b, es, clock, h1, h2, h3⟩ := h
  exact ⟨b, es, clock, by rw [← he]; exact h1, Nat.le_trans hB h2, h3⟩
theorem map_fm {B : Nat} {F F2 : Nat → Prop} {ρ : Nat → Value} {w : World} {id b : Nat} {M : List (Value × D)} (h : ObOk B F ρ w id (.map M)) (hρ : ρ id = .map (some b)) (hb : F2 b) (hu : ∀ b, F b → F2 b) : Rep F2 w (.map (some b)) (.fm M) := by
  obtain ⟨b', es, clock, h1, h2, h3, h4, h5, h6⟩ := h
  rw [hρ] at h1
  cases h1
  exact .fm b clock es M M (.refl _) hb h4 h5 (fun i h1 h2 => (h6 i h1 h2).1) fun i h1 h2 => (h6 i h1 h2).2.mono hu fun _ _ => rfl
/-- Nobody writes them any more: they are data. -/
theorem SCall.toA {P : Program} {f : FuncId} {ds : List D} {T M : List (Value × D)} (h : SCall P f ds T M) : ACall P f ds (.agg [.fm T, .fm M]) :=
  ⟨h.1, fun F w vs hF hv => (h.2 F w vs hF hv).mono fun r w' ⟨b1, b2, F', h1, h2, h3, h4, h5⟩ => by
    have g1 := h4.blk_lt (g := b1) rfl
    have g2 := h5.blk_lt (g := b2) rfl
    refine ⟨_, fun b => F' b ∨ b = b1 ∨ b = b2, h1, ?_, fun b hb => .inl (h3.up b hb), ?_, ?_, h3.below⟩
    · refine .agg [.map (some b1), .map (some b2)] [.fm T, .fm M] rfl (fun i hi => ?_) fun i hi _ => ?_
      · match i, hi with
        | 0, _ => rfl
        | 1, _ => rfl
      · match i, hi with
        | 0, _ => exact map_fm h4 rfl (.inr (.inl rfl)) fun b hb => .inl hb
        | 1, _ => exact map_fm h5 rfl (.inr (.inr rfl)) fun b hb => .inl hb
    · rintro b (hb | rfl | rfl)
      · exact h3.new b hb
      · exact .inr g1.1
      · exact .inr g2.1
    · rintro b (hb | rfl | rfl)
      · exact h3.lt b hb
      · exact g1.2
      · exact g2.2⟩
/-- Under any three names. -/
theorem SCall.toX {P : Program} {f : FuncId} {ds : List D} {T M : List (Value × D)} (h : SCall P f ds T M) (v j k : Nat) (h1 : v ≠ j) (h2 : v ≠ k) (h3 : j ≠ k) :
    XSCall P f (ds.map S.d) [] [(v, .val [.own j, .own k]), (j, .map T), (k, .map M)] (fun i => Nat.beq i v || Nat.beq i j || Nat.beq i k) (.own v) :=
  ⟨h.1, fun F ρ B w vs hF hB _ hv => by
    refine (h.2 F w vs hF ⟨by simpa using hv.1, fun i h1 h2 => ?_⟩).mono fun e w' ⟨b1, b2, F', he, hne, hE, o1, o2⟩ => ?_
    · have := hv.2 i h1 (by simpa using h2)
      rw [List.getElem_map] at this
      exact repS_d this
    have g1 := o1.blk_lt (g := b1) rfl
    have g2 := o2.blk_lt (g := b2) rfl
    refine ⟨_, F', fun i => if i = v then .agg #[.map (some b1), .map (some b2)] else if i = j then .map (some b1) else if i = k then .map (some b2) else ρ i, he, ?_, hE.up, fun b hb => (hE.new b hb).imp (fun h => h) .inl, hE.lt, ⟨hE.below.os, hE.below.tape, hE.below.output, hE.below.size, fun q hq _ => hE.below.block q hq⟩, ?_, ?_, ?_⟩
    · have := RepS.own (F := F') (ρ := fun i => if i = v then Value.agg #[.map (some b1), .map (some b2)] else if i = j then .map (some b1) else if i = k then .map (some b2) else ρ i) (w := w') v
      simpa using this
    · have ev : (fun i => if i = v then Value.agg #[.map (some b1), .map (some b2)] else if i = j then .map (some b1) else if i = k then .map (some b2) else ρ i) v = .agg #[.map (some b1), .map (some b2)] := if_pos rfl
      have ej : (fun i => if i = v then Value.agg #[.map (some b1), .map (some b2)] else if i = j then .map (some b1) else if i = k then .map (some b2) else ρ i) j = .map (some b1) := by dsimp only; rw [if_neg (Ne.symm h1), if_pos rfl]
      have ek : (fun i => if i = v then Value.agg #[.map (some b1), .map (some b2)] else if i = j then .map (some b1) else if i = k then .map (some b2) else ρ i) k = .map (some b2) := by dsimp only; rw [if_neg (Ne.symm h2), if_neg (Ne.symm h3), if_pos rfl]
      generalize (fun i => if i = v then Value.agg #[.map (some b1), .map (some b2)] else if i = j then .map (some b1) else if i = k then .map (some b2) else ρ i) = ρ' at ev ej ek ⊢
      refine ⟨fun p hp => ?_, fun p hp q hq hn g hg => ?_, fun p hp q hq hn => ?_⟩
      · simp only [List.mem_cons, List.not_mem_nil, or_false] at hp
        rcases hp with rfl | rfl | rfl
        · refine ⟨[.map (some b1), .map (some b2)], ev, rfl, fun m hm hm' => ?_⟩
          match m, hm with
          | 0, _ => exact ⟨rfl, by have := RepS.own (F := F') (ρ := ρ') (w := w') j; rw [ej] at this; exact this⟩
          | 1, _ => exact ⟨rfl, by have := RepS.own (F := F') (ρ := ρ') (w := w') k; rw [ek] at this; exact this⟩
        · exact obOk_map o1 hB ej.symm
        · exact obOk_map o2 hB ek.symm
      · simp only [List.mem_cons, List.not_mem_nil, or_false] at hp hq
        rcases hp with rfl | rfl | rfl <;> rcases hq with rfl | rfl | rfl <;> first | exact absurd rfl hn | skip
        all_goals (simp only [ev, ej, ek, blk, Option.some.injEq, reduceCtorEq, not_false_eq_true, ne_eq] at hg ⊢; try omega)
      · simp only [List.mem_cons, List.not_mem_nil, or_false] at hp hq
        rcases hp with rfl | rfl | rfl <;> rcases hq with rfl | rfl | rfl <;> first | rfl | (exfalso; dsimp only at hn; omega)
    · intro p hp g hg
      simp only [List.mem_cons, List.not_mem_nil, or_false] at hp
      rcases hp with rfl | rfl | rfl
      · simp [blk] at hg
      · simp only [Ne.symm h1, if_false, if_true, blk, Option.some.injEq] at hg; subst hg; exact .inl g1.1
      · simp only [Ne.symm h2, Ne.symm h3, if_false, if_true, blk, Option.some.injEq] at hg; subst hg; exact .inl g2.1
    · intro i hi
      simp only [Bool.or_eq_false_iff] at hi
      have n1 : i ≠ v := fun e => by subst e; simp at hi
      have n2 : i ≠ j := fun e => by subst e; simp at hi
      have n3 : i ≠ k := fun e => by subst e; simp at hi
      simp [n1, n2, n3]⟩
def RetS (b : Nat) (T M : List (Value × D)) : Post := fun ex e σ => match ex with
  | .ret => ∃ cid j k, e b = .ptr cid 0 ∧ (cid, Ob.cells [.own j, .own k]) ∈ σ ∧ (j, Ob.map T) ∈ σ ∧ (k, Ob.map M) ∈ σ ∧ j ≠ k
  | .normal => ∃ cid j k, e b = .ptr cid 0 ∧ (cid, Ob.cells [.own j, .own k]) ∈ σ ∧ (j, Ob.map T) ∈ σ ∧ (k, Ob.map M) ∈ σ ∧ j ≠ k
  | _ => False
theorem scall_of {P : Program} {f : FuncId} {fn : Func} {c : Code} {n b t : Nat} {ds : List D} {T M : List (Value × D)} (hf : P.funcs[f]? = some fn) (hb : fn.body = some c) (hn : (fn.name == "runtime.NumGoroutine") = false) (hN : fn.ntmps = n)
    (hr : fn.results = #[.cell b t]) (hT : AggT P t 2) (hle' : Nat.ble ds.length n = true)
    (h : ∀ B w0 F0 fr, AWP ⟨P, n, B, w0, F0, fr, fun _ => false, fun _ => undef⟩ c (Env.args 0 ds) [] (RetS b T M)) : SCall P f ds T M := by
  have hle : ds.length ≤ n := Nat.le_of_ble_eq_true hle'
  refine ⟨Enters.of hf hn (by rw [hb]; rfl), fun F w vs hF hv => ?_⟩
  refine calls_of_wp hf hb ?_
  have hR : R ⟨P, n, w.heap.size, w, F, (fun b => w.heap.size ≤ b), fun _ => false, fun _ => undef⟩ (Env.args 0 ds) [] { tmps := vs.toArray ++ Array.replicate (fn.ntmps - vs.toArray.size) undef, defers := [] } w := by
    refine ⟨F, fun _ => undef, ?_, rfl, hF, fun b hb => hb, fun b hb => .inl hb, Kept.refl _ _, Nat.le_refl _, fun t => ?_, ⟨fun p hp => by simp at hp, fun p hp => by simp at hp, fun p hp => by simp at hp⟩, fun b hb => hb, fun p hp => by simp at hp, fun i hi => by simp at hi⟩
    · simp [hN, hv.1]; omega
    · by_cases ht : t < ds.length
      · have := Env.args_get ds 0 t ht
        rw [Nat.zero_add] at this
        rw [this]
        have hvt : t < vs.length := by rw [hv.1]; exact ht
        have : (vs.toArray ++ Array.replicate (fn.ntmps - vs.toArray.size) undef).getD t undef = vs[t] := by
          rw [Array.getD_eq_getD_getElem?, Array.getElem?_append_left (by simpa using hvt)]
          simp [hvt]
        rw [this]
        exact .d (hv.2 t hvt ht)
      · have := Env.args_out ds 0 t (by omega)
        rw [Nat.zero_add] at this
        rw [this]
        exact .d (.any _)
  refine wp_mono (h _ _ _ _ _ _ hR) ?_
  rintro ex a w' ⟨e', σe, hq, F', ρ', hr'⟩
  have hends : (∃ cid j k, e' b = .ptr cid 0 ∧ (cid, Ob.cells [.own j, .own k]) ∈ σe ∧ (j, Ob.map T) ∈ σe ∧ (k, Ob.map M) ∈ σe ∧ j ≠ k) →
      bodyPost P fn (fun r w' => ∃ b1 b2 F', r = .returned (.agg #[.map (some b1), .map (some b2)]) ∧ b1 ≠ b2 ∧ Ext F w F' w' ∧ ObOk w.heap.size F' (fun _ => .map (some b1)) w' 0 (.map T) ∧ ObOk w.heap.size F' (fun _ => .map (some b2)) w' 0 (.map M)) .ret a w' := by
    rintro ⟨cid, j, k, h1, h2, h3, h4, h5⟩
    obtain ⟨cs, k1, k2, k3⟩ := res_cell hr' hr hT h1 h2 rfl
    obtain ⟨x, y, rfl⟩ : ∃ x y, cs = [x, y] := by
      match cs, k2 with
      | [x, y], _ => exact ⟨x, y, rfl⟩
    have o1 := hr'.obs.ok _ h3
    have o2 := hr'.obs.ok _ h4
    obtain ⟨b1, es1, c1, q1, _⟩ := o1
    obtain ⟨b2, es2, c2, q2, _⟩ := o2
    dsimp only at q1 q2
    have r1 := (k3 0 (by simp) (by simp)).2
    have r2 := (k3 1 (by simp) (by simp)).2
    simp only [List.getElem_cons_zero, List.getElem_cons_succ] at r1 r2
    have hx : x = .map (some b1) := by rw [← q1]; cases r1; rfl
    have hy : y = .map (some b2) := by rw [← q2]; cases r2; rfl
    subst hx hy
    refine ⟨hr'.defers, _, k1, b1, b2, F', rfl, fun e => ?_, ⟨hr'.base, fun b hb => (hr'.new b hb).imp (fun x => x) fun x => x, hr'.lt, ⟨hr'.below.os, hr'.below.tape, hr'.below.output, hr'.below.size, fun k hk => hr'.below.block k hk (fun hf => by have h5 : w.heap.size ≤ k := hf; omega)⟩⟩, obOk_map (hr'.obs.ok _ h3) (Nat.le_refl _) q1, obOk_map (hr'.obs.ok _ h4) (Nat.le_refl _) q2⟩
    exact hr'.obs.apart _ h3 _ h4 h5 b1 (by rw [q1]; rfl) (by rw [q2, e]; rfl)
  cases ex with
  | ret => exact hends hq
  | normal => exact hends hq
  | exit id => exact hq.elim
  | goto l => exact hq.elim
  | panic c => exact hq.elim
  | outgrown => exact hq.elim

/-! Types. -/
namespace TyLG
theorem ag_64 : AggT Tryz.prog 64 2 := .of (by kernel_rfl)
theorem bu_64 : StructT Tryz.prog 64 (fun i => (#[(0, 1), (1, 1)] : Array (Nat × Nat))[i]?) [(.map none), (.map none)] := .of (by kernel_rfl) (by kernel_rfl) (by decide)
theorem sz_64 : ∀ w, (sizeOf 64).run Tryz.prog w = .ok 2 w := SizeT.of (by kernel_rfl)
theorem zt_64 : (Tryz.prog.info? 64).bind (·.zero) = some (.agg #[(.map none), (.map none)]) := by kernel_rfl
end TyLG
open TyH3 TyH5 TyJ3 TyJ4 TyJ5 TyKA TyKB TyKC TyKD TyKE TyKF TyKG TyLA TyLB TyLC TyLD TyLE TyLF TyLG

set_option maxRecDepth 100000 in
set_option maxHeartbeats 1000000 in
theorem c_new  : SCall Tryz.prog 28 [] ([]) ([]) := by
 refine scall_of (n := 4) (b := 0) (t := 64) Tryz.func28 rfl (by kernel_rfl) rfl rfl ag_64 rfl ?_
 intro B w0 F0 fr
 refine .sr ?_
 refine .alloc 101 rfl rfl rfl rfl zt_64 rfl rfl rfl (.nil ?_)
 refine .sr ?_
 refine .makeMap 91 rfl rfl rfl rfl rfl ?_
 refine .makeMap 92 rfl rfl rfl rfl rfl ?_
 refine .buildMaps 100 rfl rfl rfl rfl bu_64 rfl rfl rfl rfl (.tail _ (.head _)) (.head _) rfl ?_
 refine .eff rfl rfl (.storeVal (ss' := [.own 91, .own 92]) rfl rfl sz_64 rfl (.tail _ (.tail _ (.tail _ (.head _)))) rfl (.head _) rfl (Nat.le_refl 2)) (.nil ?_)
 refine .ret ?_
 exact ⟨101, 91, 92, rfl, (.tail _ (.tail _ (.tail _ (.head _)))), (.tail _ (.tail _ (.head _))), (.tail _ (.head _)), by decide⟩


/-! Types. -/
namespace TyLH
end TyLH
open TyH3 TyH5 TyJ3 TyJ4 TyJ5 TyKA TyKB TyKC TyKD TyKE TyKF TyKG TyLA TyLB TyLC TyLD TyLE TyLF TyLG TyLH

set_option linter.unusedSimpArgs false
set_option linter.unusedSectionVars false
/-! ## Lists of numbers -/
def ksort (l : List Int) : List Int := l.mergeSort fun x y => decide (x ≤ y)
theorem ksort_perm (l : List Int) : (ksort l).Perm l := List.mergeSort_perm _ _
theorem ksort_le (l : List Int) : (ksort l).Pairwise fun x y => x ≤ y := by
  have h := List.pairwise_mergeSort (le := fun a b : Int => decide (a ≤ b)) (fun a b c hab hbc => by simp only [decide_eq_true_eq] at *; omega) (fun a b => by simp only [Bool.or_eq_true, decide_eq_true_eq]; omega) l
  exact h.imp fun h => by simpa using h
theorem ksort_eq {l l' : List Int} (h : l.Perm l') : ksort l = ksort l' :=
  List.Perm.eq_of_pairwise (le := fun (x y : Int) => x ≤ y) (fun a b _ _ h1 h2 => Int.le_antisymm h1 h2) (ksort_le l) (ksort_le l') (((ksort_perm l).trans h).trans (ksort_perm l').symm)
theorem sub_len {α : Type} [DecidableEq α] : ∀ {l l' : List α}, l.Nodup → (∀ x ∈ l, x ∈ l') → l.length ≤ l'.length
  | [], _, _, _ => Nat.zero_le _
  | x :: l, l', hn, hs => by
    obtain ⟨h1, h2⟩ := List.nodup_cons.1 hn
    have h3 : x ∈ l' := hs x List.mem_cons_self
    have h4 := sub_len h2 (l' := l'.erase x) fun y hy => (List.mem_erase_of_ne (fun e => h1 (by rw [← e]; exact hy))).2 (hs y (List.mem_cons_of_mem _ hy))
    rw [List.length_erase_of_mem h3] at h4
    have := List.length_pos_of_mem h3
    rw [List.length_cons]; omega
section
variable {β : Type}
/-! ## Lists by numbers -/
abbrev GL (β : Type) := List (Int × β)
def keysG (L : GL β) : List Int := ksort (L.map (·.1))
theorem NkG.nodup {L : GL β} (h : NkG L) : (L.map (·.1)).Nodup := List.pairwise_map.2 h
theorem hasG_find {L : GL β} {k : Int} : hasG L k = (findG L k).isSome := by
  cases h : findG L k with
  | none => exact findG_none.1 h
  | some v =>
    cases h2 : hasG L k with
    | true => rfl
    | false => rw [findG_none.2 h2] at h; cases h
theorem keysG_mem {L : GL β} {k : Int} : k ∈ keysG L ↔ (findG L k).isSome = true := by
  unfold keysG
  rw [(ksort_perm _).mem_iff, ← hasG_find, hasG_iff, List.mem_map]
theorem keysG_up {L : GL β} (h : NkG L) : (keysG L).Pairwise fun x y => x < y := by
  have h1 := ksort_le (L.map (·.1))
  have h2 : (keysG L).Nodup := (ksort_perm _).nodup_iff.2 h.nodup
  exact (h1.and h2).imp fun ⟨h, h'⟩ => Int.lt_iff_le_and_ne.2 ⟨h, h'⟩
theorem keysG_len (L : GL β) : (keysG L).length = L.length := by unfold keysG ksort; rw [List.length_mergeSort, List.length_map]
theorem mem_find {L : GL β} (h : NkG L) {p : Int × β} : p ∈ L ↔ findG L p.1 = some p.2 := findG_mem h p
theorem find_mem {L : GL β} {k : Int} {v : β} (h : findG L k = some v) : (k, v) ∈ L := by
  induction L with
  | nil => cases h
  | cons p L ih =>
    rw [findG_cons] at h
    by_cases hp : p.1 = k
    · rw [if_pos hp] at h
      obtain rfl := Option.some.inj h
      subst hp; exact List.mem_cons_self
    · rw [if_neg hp] at h; exact List.mem_cons_of_mem _ (ih h)
theorem perm_find {L L' : GL β} (h : NkG L) (h' : NkG L') (he : ∀ k, findG L k = findG L' k) : L.Perm L' := by
  have nd : ∀ {l : GL β}, NkG l → l.Nodup := fun h => h.imp fun hab e => hab (by rw [e])
  exact (List.perm_ext_iff_of_nodup (nd h) (nd h')).2 fun p => by rw [mem_find h, mem_find h', he]
/-! ### Numbers that rise -/
def RiK (L : GL β) : Prop := L.Pairwise fun p q => p.1 < q.1
theorem RiK.nk {L : GL β} (h : RiK L) : NkG L := h.imp fun h e => by rw [e] at h; exact absurd h (Int.lt_irrefl _)
theorem rik_ext : ∀ {L L' : GL β}, RiK L → RiK L' → (∀ k, findG L k = findG L' k) → L = L' := fun {L L'} h h' he =>
  List.Perm.eq_of_pairwise (le := fun (p q : Int × β) => p.1 < q.1) (fun a b _ _ h1 h2 => absurd (Int.lt_trans h1 h2) (Int.lt_irrefl _)) h h' (perm_find h.nk h'.nk he)
theorem up_ext {l l' : List Int} (h : l.Pairwise fun x y => x < y) (h' : l'.Pairwise fun x y => x < y) (he : ∀ k, k ∈ l ↔ k ∈ l') : l = l' := by
  have nd : ∀ {l : List Int}, (l.Pairwise fun x y => x < y) → l.Nodup := fun h => h.imp fun hab e => by rw [e] at hab; exact absurd hab (Int.lt_irrefl _)
  exact List.Perm.eq_of_pairwise (le := fun (p q : Int) => p < q) (fun a b _ _ h1 h2 => absurd (Int.lt_trans h1 h2) (Int.lt_irrefl _)) h h' ((List.perm_ext_iff_of_nodup (nd h) (nd h')).2 he)
/-! ### Put over one another -/
def putAll (L E : GL β) : GL β := E.foldl (fun L p => putG L p.1 p.2) L
theorem putAll_cons (L : GL β) (p : Int × β) (E : GL β) : putAll L (p :: E) = putAll (putG L p.1 p.2) E := rfl
theorem putAll_append (L E E' : GL β) : putAll L (E ++ E') = putAll (putAll L E) E' := List.foldl_append
theorem putAll_take {L E : GL β} {k : Nat} (h : k < E.length) : putAll L (E.take (k + 1)) = putG (putAll L (E.take k)) E[k].1 E[k].2 := by
  rw [List.take_add_one, List.getElem?_eq_getElem h, Option.toList_some, putAll_append]; rfl
theorem putAll_nk : ∀ {E L : GL β}, NkG L → NkG (putAll L E)
  | [], _, h => h
  | p :: E, L, h => putAll_nk (E := E) (putG_nk h p.1 p.2)
theorem putAll_find : ∀ {E : GL β} (_ : NkG E) (L : GL β) (k : Int), findG (putAll L E) k = match findG E k with | some v => some v | none => findG L k
  | [], _, L, k => rfl
  | p :: E, h, L, k => by
    obtain ⟨h1, h2⟩ := List.pairwise_cons.1 h
    rw [putAll_cons, putAll_find h2, findG_cons, findG_put]
    by_cases hp : p.1 = k
    · subst hp
      have : findG E p.1 = none := findG_none.2 (by
        cases hh : hasG E p.1 with
        | false => rfl
        | true => obtain ⟨q, hq, he⟩ := hasG_iff.1 hh; exact absurd he.symm (h1 q hq))
      rw [this]; simp
    · rw [if_neg hp, if_neg (fun e => hp e.symm)]
theorem putAll_len (E L : GL β) : (putAll L E).length ≤ L.length + E.length := by
  induction E generalizing L with
  | nil => exact Nat.le_refl _
  | cons p E ih =>
    have := ih (putG L p.1 p.2)
    have := putG_len L p.1 p.2
    rw [putAll_cons, List.length_cons]; omega
theorem putAll_mem : ∀ {E L : GL β} {p : Int × β}, p ∈ putAll L E → p ∈ E ∨ p ∈ L
  | [], _, _, h => .inr h
  | q :: E, L, p, h => by
    rcases putAll_mem (E := E) h with h | h
    · exact .inl (List.mem_cons_of_mem _ h)
    · rcases putG_mem h with rfl | h
      · exact .inl List.mem_cons_self
      · exact .inr h
/-- What is there; what is not. -/
def lookE (E : GL β) : GL (Option β) := E.map fun p => (p.1, some p.2)
def goneE (l : List Int) : GL (Option β) := l.map fun n => (n, none)
theorem lookE_find (E : GL β) (k : Int) : findG (lookE E) k = (findG E k).map some := by
  induction E with
  | nil => rfl
  | cons p E ih =>
    show findG ((p.1, some p.2) :: lookE E) k = _
    rw [findG_cons, findG_cons, ih]
    by_cases h : p.1 = k <;> simp [h]
theorem lookE_nk {E : GL β} (h : NkG E) : NkG (lookE E) := List.pairwise_map.2 h
theorem goneE_find (l : List Int) (k : Int) : findG (goneE l : GL (Option β)) k = if k ∈ l then some none else none := by
  induction l with
  | nil => rfl
  | cons n l ih =>
    show findG ((n, none) :: goneE l) k = _
    rw [findG_cons, ih]
    by_cases h : n = k
    · subst h; simp
    · have : ¬ k = n := fun e => h e.symm
      simp [h, this]
theorem goneE_nk {l : List Int} (h : l.Pairwise fun x y => x < y) : NkG (goneE l : GL (Option β)) := List.pairwise_map.2 (h.imp fun h e => by dsimp only at e; rw [e] at h; exact absurd h (Int.lt_irrefl _))
/-- A catalogue's half and a change's half by their numbers. -/
def ofE (E : GL β) : GL (Option β) := putAll [] (lookE E)
def xE (E : GL β) (gone : List Int) : GL (Option β) := putAll (ofE E) (goneE gone)
theorem ofE_nk (E : GL β) : NkG (ofE E) := putAll_nk List.Pairwise.nil
theorem xE_nk (E : GL β) (l : List Int) : NkG (xE E l) := putAll_nk (ofE_nk E)
theorem ofE_find {E : GL β} (h : NkG E) (k : Int) : findG (ofE E) k = (findG E k).map some := by
  unfold ofE
  rw [putAll_find (lookE_nk h), lookE_find]
  cases findG E k <;> rfl
theorem xE_find {E : GL β} (h : NkG E) {l : List Int} (hl : l.Pairwise fun x y => x < y) (k : Int) : findG (xE E l) k = if k ∈ l then some none else (findG E k).map some := by
  unfold xE
  rw [putAll_find (goneE_nk hl), goneE_find, ofE_find h]
  by_cases hk : k ∈ l <;> simp [hk]
/-- Written out: what is there, by rising numbers; the numbers of what is not. -/
def valsG (T : GL (Option β)) : GL β := (keysG T).filterMap fun k => (findG T k).join.map fun v => (k, v)
def noneG (T : GL (Option β)) : List Int := (keysG T).filter fun k => (findG T k).join.isNone
theorem vals_aux (T : GL (Option β)) : ∀ {l : List Int}, (l.Pairwise fun x y => x < y) → RiK (l.filterMap fun k => (findG T k).join.map fun v => (k, v)) ∧ ∀ k, findG (l.filterMap fun k => (findG T k).join.map fun v => (k, v)) k = if k ∈ l then (findG T k).join else none
  | [], _ => ⟨List.Pairwise.nil, fun _ => rfl⟩
  | n :: l, h => by
    obtain ⟨h1, h2⟩ := List.pairwise_cons.1 h
    obtain ⟨i1, i2⟩ := vals_aux T h2
    cases hn : (findG T n).join with
    | none =>
      rw [List.filterMap_cons_none (by rw [hn]; rfl)]
      refine ⟨i1, fun k => ?_⟩
      rw [i2]
      by_cases hk : k = n
      · subst hk; simp [hn]
      · simp [hk]
    | some v =>
      rw [List.filterMap_cons_some (by rw [hn]; rfl)]
      refine ⟨List.pairwise_cons.2 ⟨fun p hp => ?_, i1⟩, fun k => ?_⟩
      · obtain ⟨m, hm, he⟩ := List.mem_filterMap.1 hp
        obtain ⟨u, _, rfl⟩ := Option.map_eq_some_iff.1 he
        exact h1 m hm
      · rw [findG_cons, i2]
        by_cases hk : n = k
        · subst hk; simp [hn]
        · have : ¬ k = n := fun e => hk e.symm
          simp [hk, this]
theorem valsG_ri {T : GL (Option β)} (h : NkG T) : RiK (valsG T) := (vals_aux T (keysG_up h)).1
theorem valsG_find {T : GL (Option β)} (h : NkG T) (k : Int) : findG (valsG T) k = (findG T k).join := by
  unfold valsG
  rw [(vals_aux T (keysG_up h)).2 k]
  by_cases hk : k ∈ keysG T
  · rw [if_pos hk]
  · rw [if_neg hk]
    rw [keysG_mem] at hk
    cases hf : findG T k with
    | none => rfl
    | some v => rw [hf] at hk; simp at hk
theorem noneG_up {T : GL (Option β)} (h : NkG T) : (noneG T).Pairwise fun x y => x < y := (keysG_up h).sublist List.filter_sublist
theorem noneG_mem {T : GL (Option β)} {k : Int} : k ∈ noneG T ↔ findG T k = some none := by
  unfold noneG
  rw [List.mem_filter, keysG_mem]
  cases h : findG T k with
  | none => simp
  | some o => cases o <;> simp
/-! ### What leads from one to the other, told for some numbers -/
variable [DecidableEq β]
def fromE (A B : GL (Option β)) (ids : List Int) : GL (Option β) := ids.foldl (fun L k => if (findG A k).join = (findG B k).join then L else putG L k (findG A k).join) []
def fromTo (A B : GL (Option β)) (ids : List Int) (n : Nat) : GL (Option β) := fromE A B (ids.take n)
theorem fromTo_next {A B : GL (Option β)} {ids : List Int} {n : Nat} (h : n < ids.length) : fromTo A B ids (n + 1) = if (findG A ids[n]).join = (findG B ids[n]).join then fromTo A B ids n else putG (fromTo A B ids n) ids[n] (findG A ids[n]).join := by
  unfold fromTo fromE
  rw [List.take_add_one, List.getElem?_eq_getElem h, Option.toList_some, List.foldl_append]; rfl
theorem fromTo_all (A B : GL (Option β)) (ids : List Int) : fromTo A B ids ids.length = fromE A B ids := by unfold fromTo; rw [List.take_length]
theorem from_aux (A B : GL (Option β)) : ∀ (ids : List Int) (L : GL (Option β)), NkG L → (∀ k, findG L k = none ∨ (findG L k = some (findG A k).join ∧ (findG A k).join ≠ (findG B k).join)) →
    NkG (ids.foldl (fun L k => if (findG A k).join = (findG B k).join then L else putG L k (findG A k).join) L) ∧
    ∀ k, findG (ids.foldl (fun L k => if (findG A k).join = (findG B k).join then L else putG L k (findG A k).join) L) k = if k ∈ ids ∧ (findG A k).join ≠ (findG B k).join then some (findG A k).join else findG L k
  | [], L, h, _ => ⟨h, fun k => by simp⟩
  | n :: ids, L, h, hL => by
    rw [List.foldl_cons]
    by_cases hn : (findG A n).join = (findG B n).join
    · rw [if_pos hn]
      obtain ⟨i1, i2⟩ := from_aux A B ids L h hL
      refine ⟨i1, fun k => ?_⟩
      rw [i2]
      by_cases hk : k = n
      · subst hk; simp [hn]
      · simp [hk]
    · rw [if_neg hn]
      obtain ⟨i1, i2⟩ := from_aux A B ids (putG L n (findG A n).join) (putG_nk h _ _) fun k => by
        rw [findG_put]
        by_cases hk : k = n
        · subst hk; rw [if_pos rfl]; exact .inr ⟨rfl, hn⟩
        · rw [if_neg hk]; exact hL k
      refine ⟨i1, fun k => ?_⟩
      rw [i2, findG_put]
      by_cases hk : k = n
      · subst hk; simp [hn]
      · simp [hk]
theorem fromE_nk (A B : GL (Option β)) (ids : List Int) : NkG (fromE A B ids) := (from_aux A B ids [] List.Pairwise.nil fun _ => .inl rfl).1
theorem fromE_find (A B : GL (Option β)) (ids : List Int) (k : Int) : findG (fromE A B ids) k = if k ∈ ids ∧ (findG A k).join ≠ (findG B k).join then some (findG A k).join else none := (from_aux A B ids [] List.Pairwise.nil fun _ => .inl rfl).2 k
theorem fromE_len (A B : GL (Option β)) : ∀ (ids : List Int), (fromE A B ids).length ≤ ids.length := by
  have : ∀ (ids : List Int) (L : GL (Option β)), (ids.foldl (fun L k => if (findG A k).join = (findG B k).join then L else putG L k (findG A k).join) L).length ≤ L.length + ids.length := by
    intro ids
    induction ids with
    | nil => exact fun L => Nat.le_refl _
    | cons n ids ih =>
      intro L
      rw [List.foldl_cons, List.length_cons]
      split
      · have := ih L; omega
      · have := ih (putG L n (findG A n).join)
        have := putG_len L n (findG A n).join
        omega
  intro ids
  have h := this ids []
  simpa [fromE] using h
end


theorem killP_one (id : Nat) (s : S) : s.killP (fun i => Nat.beq i id) = s.kill id := by
  cases s with
  | d x => rfl
  | own i => rfl
  | ptr i off => rfl
  | clo f caps => rfl
theorem killPE_one (id : Nat) (e : Env) : e.killP (fun i => Nat.beq i id) = e.kill id := by funext t; exact killP_one id (e t)
theorem mapS_one (id : Nat) (l : List S) : l.map (S.killP fun i => Nat.beq i id) = l.map (S.kill id) := List.map_congr_left fun s _ => killP_one id s
theorem killPOb_one (id : Nat) (o : Ob) : o.killP (fun i => Nat.beq i id) = o.kill id := by
  cases o with
  | row e n els => rfl
  | cells ss => show Ob.cells _ = Ob.cells _; rw [mapS_one]
  | cellsT e ss => show Ob.cellsT _ _ = Ob.cellsT _ _; rw [mapS_one]
  | map M => rfl
  | rowS e n els => show Ob.rowS _ _ _ = Ob.rowS _ _ _; rw [List.map_congr_left fun ss _ => mapS_one id ss]
  | bts l => rfl
  | val ss => show Ob.val _ = Ob.val _; rw [mapS_one]
  | iter M d => rfl
theorem killPObs_one (id : Nat) : ∀ (σ : Obs), Obs.killP (fun i => Nat.beq i id) σ = Obs.kill id σ
  | [] => rfl
  | p :: l => by show (p.1, _) :: Obs.killP _ l = _; rw [killPObs_one id l, killPOb_one]; rfl
theorem killP_killP (c : Nat → Bool) (s : S) : (s.killP c).killP c = s.killP c := by
  cases s with
  | d x => rfl
  | own i => cases h : c i <;> simp only [S.killP, h]
  | ptr i off => cases h : c i <;> simp only [S.killP, h]
  | clo f caps => cases h : Cap.anyP c caps <;> simp only [S.killP, h]
theorem killP_comm (a b : Nat → Bool) (s : S) : (s.killP a).killP b = (s.killP b).killP a := by
  cases s with
  | d x => rfl
  | own k => cases h1 : a k <;> cases h2 : b k <;> simp only [S.killP, h1, h2]
  | ptr k off => cases h1 : a k <;> cases h2 : b k <;> simp only [S.killP, h1, h2]
  | clo f caps => cases h1 : Cap.anyP a caps <;> cases h2 : Cap.anyP b caps <;> simp only [S.killP, h1, h2]
theorem RepS.killP {F : Nat → Prop} {ρ : Nat → Value} {w : World} {x : Value} {s : S} (h : RepS F ρ w x s) (c : Nat → Bool) : RepS F ρ w x (s.killP c) := h.over (fun _ h => h) (fun _ _ => rfl) fun _ _ => rfl
theorem R0.killPEnv {cx : Cx} {F : Nat → Prop} {ρ : Nat → Value} {e : Env} {σ : Obs} {a : Act} {w : World} (h : R0 cx F ρ e σ a w) (c : Nat → Bool) : R0 cx F ρ (e.killP c) σ a w :=
  ⟨h.size, h.defers, h.lt, h.base, h.new, h.below, h.hB, fun t => (h.env t).killP c, h.obs, h.up, h.kown, h.fixed⟩
theorem Obs.killP_append (c : Nat → Bool) : ∀ (a b : Obs), Obs.killP c (a ++ b) = Obs.killP c a ++ Obs.killP c b
  | [], _ => rfl
  | p :: a, b => by show (p.1, p.2.killP c) :: Obs.killP c (a ++ b) = _; rw [Obs.killP_append c a b]; rfl

/-- The operation that makes the group. -/
def QG (dst : Nat) (chg : Nat → Bool) (s0 : S) (obs : Obs) (e0 : Env) (σ : Obs) : Post := fun ex e' σ' => match ex with
  | .normal => e' = (e0.killP chg).put (some dst) s0 ∧ σ' = obs ++ Obs.killP chg σ
  | _ => False
/-- What a region makes: the slot, how the slot reads, what the objects are, who may have turned. -/
structure Fg where
  dst : Nat
  s0 : S
  obs : Obs
  chg : Nat → Bool
def fgObs (Φ : List Fg) : Obs := Φ.flatMap fun f => f.obs
structure FgOk (cx : Cx) (Φ : List Fg) (σ : Obs) : Prop where
  udst : ∀ f ∈ Φ, ∀ g ∈ Φ, f.dst = g.dst → f = g
  own : ∀ f ∈ Φ, f.s0.killP f.chg = .d .any ∧ f.s0 ≠ .d .any
  other : ∀ f ∈ Φ, ∀ g ∈ Φ, g.dst ≠ f.dst → g.s0.killP f.chg = g.s0 ∧ ∀ p ∈ g.obs, f.chg p.1 = false
  fresh : ∀ f ∈ Φ, ∀ p ∈ σ, f.chg p.1 = false
  kill : ∀ f ∈ Φ, Obs.killP f.chg σ = σ
def FreshOpG (cx : Cx) (ops : Array Oper) (τ : Obs) (Φ : List Fg) (f : Fg) (o : Oper) (e : Env) : Prop :=
  o.dst = some f.dst ∧ ∀ (e0 : Env) (σ : Obs), (∀ p ∈ τ, p ∈ σ) → (∀ g ∈ Φ, (∃ t, t ∈ o.looksAt ops ∧ (e t).killP g.chg ≠ e t) → ∀ p ∈ g.obs, p ∈ σ) → (∀ t, t ∈ o.looksAt ops → e0 t = e t) → (∀ p ∈ σ, f.chg p.1 = false) → AOps cx ops [o] e0 σ (QG f.dst f.chg f.s0 f.obs e0 σ)
theorem FreshOpG.same {cx : Cx} {ops : Array Oper} {τ : Obs} {Φ : List Fg} {f : Fg} {o : Oper} {e e' : Env} (h : FreshOpG cx ops τ Φ f o e) (he : ∀ t, t ∈ o.looksAt ops → e' t = e t) : FreshOpG cx ops τ Φ f o e' :=
  ⟨h.1, fun e0 σ hτ hΦ h0 hf => h.2 e0 σ hτ (fun g hg ⟨t, ht, hk⟩ => hΦ g hg ⟨t, ht, by rw [he t ht]; exact hk⟩) (fun t ht => (h0 t ht).trans (he t ht)) hf⟩
def notDstG (Φ : List Fg) (o : Oper) : Prop := ∀ f ∈ Φ, o.dst ≠ some f.dst
def YStep (cx : Cx) (ops : Array Oper) (σ : Obs) (Φ : List Fg) (o : Oper) (e : Env) (s : S) : Prop :=
  (GW ops o e true ∧ ((∃ f ∈ Φ, FreshOpG cx ops σ Φ f o e ∧ s = f.s0 ∧ ∀ f' ∈ Φ, f'.dst ≠ f.dst → Obs.killP f'.chg f.obs = f.obs ∨ ∃ t, t ∈ o.looksAt ops ∧ (e t).killP f'.chg ≠ e t) ∨ (AOp cx.P cx.B ops o e σ s ∧ notDstG Φ o ∧ ∀ f ∈ Φ, s.killP f.chg = s ∨ ∃ t, t ∈ o.looksAt ops ∧ (e t).killP f.chg ≠ e t))) ∨ (GW ops o e false ∧ s = .d (.v undef) ∧ notDstG Φ o)
theorem YStep.same {cx : Cx} {ops : Array Oper} {σ : Obs} {Φ : List Fg} {o : Oper} {e e' : Env} {s : S} (h : YStep cx ops σ Φ o e s) (he : ∀ t, t ∈ o.looksAt ops → e' t = e t) : YStep cx ops σ Φ o e' s := by
  rcases h with ⟨h1, h2⟩ | ⟨h1, h2⟩
  · exact .inl ⟨h1.same he, h2.imp (fun ⟨f, hf, h, h', h''⟩ => ⟨f, hf, h.same he, h', fun f' hf' hn => (h'' f' hf' hn).imp (fun h => h) fun ⟨t, ht, hk⟩ => ⟨t, ht, by rw [he t ht]; exact hk⟩⟩) fun h => ⟨h.1.same he, h.2.1, fun f hf => (h.2.2 f hf).imp (fun h => h) fun ⟨t, ht, hn⟩ => ⟨t, ht, by rw [he t ht]; exact hn⟩⟩⟩
  · exact .inr ⟨h1.same he, h2⟩
def YRun (cx : Cx) (ops : Array Oper) (σ : Obs) (Φ : List Fg) : List Oper → Env → (Env → Prop) → Prop
  | [], e, Qe => (∀ f ∈ Φ, e f.dst = f.s0) ∧ Qe e
  | o :: l, e, Qe => DstOk cx.N o ∧ ∃ s, YStep cx ops σ Φ o e s ∧ YRun cx ops σ Φ l (e.put o.dst s) Qe
def anyY (cx : Cx) (ops : Array Oper) (σ : Obs) (Φ : List Fg) (Qe : Env → Prop) : Nat → Array Bool → Env → Prop
  | 0, listed, e => Region.ready .any ops listed = [] ∧ Qe e
  | fuel + 1, listed, e => (Region.ready .any ops listed = [] → Qe e) ∧
      ∀ i ∈ Region.ready .any ops listed, ∀ o, ops[i]? = some o → ∃ s, YStep cx ops σ Φ o e s ∧ anyY cx ops σ Φ Qe fuel (listed.setIfInBounds i true) (e.put o.dst s)
theorem anyY_first {cx : Cx} {ops : Array Oper} {σ : Obs} {Φ : List Fg} {Qe : Env → Prop} {i : Nat} {oi : Oper} {s : S} (hi : ops[i]? = some oi) :
    ∀ (fuel : Nat) (listed : Array Bool) (e : Env),
      (∀ j oj, ops[j]? = some oj → j ≠ i → listed.getD j true = false → (∀ e ∈ oj.after, Region.binds .any e = true → e.on ≠ i) → oi.apart ops oj = true) →
      i ∈ Region.ready .any ops listed → YStep cx ops σ Φ oi e s → anyY cx ops σ Φ Qe fuel (listed.setIfInBounds i true) (e.put oi.dst s) → anyY cx ops σ Φ Qe (fuel + 1) listed e := by
  intro fuel
  induction fuel with
  | zero =>
    intro listed e _ hr hy H
    refine ⟨fun h => (by rw [h] at hr; cases hr), fun j hj o ho => ?_⟩
    by_cases hji : j = i
    · subst hji
      rw [hi] at ho; cases ho
      exact ⟨s, hy, H⟩
    · have := ready_mono hj hji
      rw [H.1] at this
      cases this
  | succ fuel ih =>
    intro listed e hfree hr hy H
    refine ⟨fun h => (by rw [h] at hr; cases hr), fun j hj oj hoj => ?_⟩
    by_cases hji : j = i
    · subst hji
      rw [hi] at hoj; cases hoj
      exact ⟨s, hy, H⟩
    · obtain ⟨sj, h1, h2⟩ := H.2 j (ready_mono hj hji) oj hoj
      obtain ⟨hjun, oj', hoj', hall⟩ := mem_ready.1 hj
      rw [hoj] at hoj'; cases hoj'
      have hnot : ∀ e ∈ oj.after, Region.binds .any e = true → e.on ≠ i := fun e he hb heq => by
        have h1 := hall e he hb
        have h0 := (mem_ready.1 hr).1
        rw [heq] at h1
        rcases Nat.lt_or_ge i listed.size with h' | h'
        · simp [h'] at h0 h1; rw [h0] at h1; cases h1
        · simp [Array.getElem?_eq_none h'] at h1
      obtain ⟨a1, a2, a3⟩ := Oper.apart_spec (hfree j oj hoj hji hjun hnot)
      refine ⟨sj, h1.same (fun t ht => (put_looks a1 t ht).symm), ?_⟩
      refine ih (listed.setIfInBounds j true) (e.put oj.dst sj) (fun k ok hk hki hun hno => ?_) (ready_mono hr (Ne.symm hji)) (hy.same (put_looks a3)) ?_
      · refine hfree k ok hk hki ?_ hno
        by_cases hjk : j = k
        · subst hjk; exact hjun
        · rw [getD_set_ne true hjk] at hun; exact hun
      · rw [Array.setIfInBounds_comm _ _ hji, ← Env.put_comm e oi.dst oj.dst s sj a2]
        exact h2
theorem anyY_lex {cx : Cx} {ops : Array Oper} {σ : Obs} {Φ : List Fg} {Qe : Env → Prop} : ∀ (l : List Oper) (k : Nat) (listed : Array Bool) (e : Env), (∀ j, l[j]? = ops[k + j]?) →
    Region.lexFrom .any ops l.length k listed = true → YRun cx ops σ Φ l e Qe → anyY cx ops σ Φ (fun e => (∀ f ∈ Φ, e f.dst = f.s0) ∧ Qe e) l.length listed e
  | [], _, _, _, _, hB, h => ⟨by simpa [Region.lexFrom] using hB, h⟩
  | o :: l, k, listed, e, hl, hB, h => by
    have h0 : ops[k]? = some o := by simpa using (hl 0).symm
    simp only [List.length_cons, Region.lexFrom, Bool.and_eq_true] at hB
    obtain ⟨⟨hr, hf⟩, hB'⟩ := hB
    have hl' : ∀ j, l[j]? = ops[k + 1 + j]? := fun j => by have := hl (j + 1); simpa [Nat.add_assoc, Nat.add_comm 1 j] using this
    obtain ⟨_, s, hs, hK⟩ := h
    exact anyY_first h0 l.length listed e (Region.free_spec h0 hf) (by simpa using hr) hs (anyY_lex l (k + 1) _ _ hl' hB' hK)
theorem YRun.dsts {cx : Cx} {ops : Array Oper} {σ : Obs} {Φ : List Fg} {Qe : Env → Prop} : ∀ (l : List Oper) (e : Env), YRun cx ops σ Φ l e Qe → ∀ o ∈ l, DstOk cx.N o
  | [], _, _, o, ho => by cases ho
  | x :: l, e, h, o, ho => by
    obtain ⟨h1, s, _, h2⟩ := h
    cases ho with
    | head => exact h1
    | tail _ ho => exact YRun.dsts l _ h2 o ho
def RelY (cx : Cx) (ops : Array Oper) (σ : Obs) (Φ : List Fg) (listed : Array Bool) (e : Env) (a : Act) (w : World) : Prop :=
  ∃ Δ : List Fg, (∀ g ∈ Δ, g ∈ Φ) ∧ (∀ g ∈ Δ, ∃ i o, ops[i]? = some o ∧ listed.getD i false = true ∧ o.dst = some g.dst) ∧ (∀ g ∈ Δ, e g.dst = g.s0) ∧ (∀ f ∈ Φ, ¬ f ∈ Δ → ∀ t, (e t).killP f.chg = e t) ∧ (∀ f ∈ Φ, ¬ f ∈ Δ → Obs.killP f.chg (fgObs Δ) = fgObs Δ) ∧ R cx e (fgObs Δ ++ σ) a w
theorem wpAny_of_Y {cx : Cx} {ops : Array Oper} {σ : Obs} {Φ : List Fg} {Q : Post} (hd : ∀ o ∈ ops.toList, DstOk cx.N o) (hone : ∀ f ∈ Φ, ∀ (i j : Nat) (o o' : Oper), ops[i]? = some o → ops[j]? = some o' → o.dst = some f.dst → o'.dst = some f.dst → i = j) (ok : FgOk cx Φ σ) :
    ∀ (fuel : Nat) (listed : Array Bool) (e : Env) (a : Act) (w : World), RelY cx ops σ Φ listed e a w →
    anyY cx ops σ Φ (fun e => (∀ f ∈ Φ, e f.dst = f.s0) ∧ Q .normal e (fgObs Φ ++ σ)) fuel listed e → wpAny cx.P .any ops (lift cx Q) fuel listed a w := by
  have fin : ∀ (listed : Array Bool) (e : Env) (a : Act) (w : World), RelY cx ops σ Φ listed e a w → ((∀ f ∈ Φ, e f.dst = f.s0) ∧ Q .normal e (fgObs Φ ++ σ)) → lift cx Q .normal a w := by
    rintro listed e a w ⟨Δ, h1, _, h2, h3, _, h4⟩ ⟨h5, h6⟩
    have hall : ∀ f ∈ Φ, f ∈ Δ := fun f hf => Classical.byContradiction fun hn => by
      have h7 := h3 f hf hn f.dst
      rw [h5 f hf, (ok.own f hf).1] at h7
      exact (ok.own f hf).2 h7.symm
    refine ⟨e, _, h6, h4.sub fun p hp => ?_⟩
    rcases List.mem_append.1 hp with hp | hp
    · obtain ⟨f, hf, hp⟩ := List.mem_flatMap.1 hp
      exact List.mem_append.2 (.inl (List.mem_flatMap.2 ⟨f, hall f hf, hp⟩))
    · exact List.mem_append.2 (.inr hp)
  have pure : ∀ {e : Env} {o : Oper} {s : S} {Δ : List Fg}, (∀ g ∈ Δ, g ∈ Φ) → (∀ g ∈ Δ, e g.dst = g.s0) → (∀ f ∈ Φ, ¬ f ∈ Δ → ∀ t, (e t).killP f.chg = e t) → notDstG Φ o → (∀ f ∈ Φ, ¬ f ∈ Δ → s.killP f.chg = s) →
      (∀ g ∈ Δ, (e.put o.dst s) g.dst = g.s0) ∧ (∀ f ∈ Φ, ¬ f ∈ Δ → ∀ t, ((e.put o.dst s) t).killP f.chg = (e.put o.dst s) t) := by
    intro e o s Δ h1 h2 h3 hn hs
    cases ho : o.dst with
    | none => exact ⟨h2, h3⟩
    | some u =>
      refine ⟨fun g hg => ?_, fun f hf hfn t => ?_⟩
      · rw [Env.put_other _ _ _ _ (fun he => hn g (h1 g hg) (by rw [ho, he]))]; exact h2 g hg
      · by_cases hu : t = u
        · subst hu; rw [Env.put_same]; exact hs f hf hfn
        · rw [Env.put_other _ _ _ _ hu]; exact h3 f hf hfn t
  intro fuel
  induction fuel with
  | zero => exact fun listed e a w hr h => ⟨h.1, fin listed e a w hr h.2⟩
  | succ fuel ih =>
    intro listed e a w hr h
    refine ⟨fun h0 => fin listed e a w hr (h.1 h0), fun i hi => ?_⟩
    obtain ⟨hui, o, ho, _⟩ := mem_ready.1 hi
    obtain ⟨s, hs, hkk⟩ := h.2 i hi o ho
    have hdo : DstOk cx.N o := hd o (Array.mem_toList_iff.2 (Array.mem_of_getElem? ho))
    have hil : i < listed.size := Nat.lt_of_not_le fun hle => by simp [Array.getD_eq_getD_getElem?, Array.getElem?_eq_none hle] at hui
    obtain ⟨Δ, h1, hL, h2, h3, hKO, hR⟩ := hr
    have hL' : ∀ g ∈ Δ, ∃ j o, ops[j]? = some o ∧ (listed.setIfInBounds i true).getD j false = true ∧ o.dst = some g.dst := fun g hg => by
      obtain ⟨j, o', q1, q2, q3⟩ := hL g hg
      exact ⟨j, o', q1, getD_set_true q2, q3⟩
    have hR' := hR
    obtain ⟨F, ρ, hr⟩ := hR'
    unfold wpOp
    simp only [ho]
    rcases hs with ⟨hg, ⟨f, hf, ⟨hdst, hop⟩, rfl, hobk⟩ | ⟨hop, hne, hsk⟩⟩ | ⟨hg, rfl, hne⟩
    · rw [if_pos (hg.wanted (fun t _ => hr.env t))]
      have hfn : ¬ f ∈ Δ := fun hfd => by
        obtain ⟨j, o', q1, q2, q3⟩ := hL f hfd
        have := hone f hf i j o o' ho q1 hdst q3
        subst this
        rw [getD_tf hil false true, hui] at q2
        simp at q2
      have hgi : ∀ g ∈ Δ, g.dst ≠ f.dst := fun g hg he => hfn (by rw [← ok.udst g (h1 g hg) f hf he]; exact hg)
      have hek : e.killP f.chg = e := funext fun t => h3 f hf hfn t
      have hok : Obs.killP f.chg (fgObs Δ ++ σ) = fgObs Δ ++ σ := by
        rw [Obs.killP_append, ok.kill f hf, hKO f hf hfn]
      have hfr : ∀ p ∈ fgObs Δ ++ σ, f.chg p.1 = false := fun p hp => by
        rcases List.mem_append.1 hp with hp | hp
        · obtain ⟨g, hg, hp⟩ := List.mem_flatMap.1 hp
          exact (ok.other f hf g (h1 g hg) (hgi g hg)).2 p hp
        · exact ok.fresh f hf p hp
      have h4 := hop e (fgObs Δ ++ σ) (fun p hp => List.mem_append.2 (.inr hp)) (fun g hg ⟨t, _, hk⟩ p hp => List.mem_append.2 (.inl (List.mem_flatMap.2 ⟨g, Classical.byContradiction fun hn => hk (h3 g hg hn t), hp⟩))) (fun _ _ => rfl) hfr a w hR
      unfold wpList at h4
      have hw : Region.wanted o (yielded ops a.tmps) = true := hg.wanted (fun t _ => hr.env t)
      rw [if_pos hw] at h4
      rw [hdst] at hkk
      refine h4.imp (wp_to2 ?_ ?_) fun h => ⟨h.1, ?_⟩
      · rintro a' w' ⟨e', σ', ⟨rfl, rfl⟩, hr'⟩
        rw [hok, hek, ← List.append_assoc] at hr'
        refine ih _ _ _ _ ⟨f :: Δ, fun g hg => ?_, fun g hg => ?_, fun g hg => ?_, fun k hk hkn t => ?_, fun k hk hkn => ?_, hr'⟩ hkk
        · rcases List.mem_cons.1 hg with rfl | hg
          · exact hf
          · exact h1 g hg
        · rcases List.mem_cons.1 hg with rfl | hg
          · exact ⟨i, o, ho, by simp [Array.getD_eq_getD_getElem?, hil], hdst⟩
          · exact hL' g hg
        · rcases List.mem_cons.1 hg with rfl | hg
          · rw [Env.put_same]
          · rw [Env.put_other _ _ _ _ (hgi g hg)]
            exact h2 g hg
        · have hkf : f.dst ≠ k.dst := fun he => hkn (by rw [← ok.udst f hf k hk he]; exact List.mem_cons_self)
          by_cases ht : t = f.dst
          · subst ht; rw [Env.put_same]; exact (ok.other k hk f hf hkf).1
          · rw [Env.put_other _ _ _ _ ht]; exact h3 k hk (fun hh => hkn (List.mem_cons_of_mem _ hh)) t
        · have hkf : k.dst ≠ f.dst := fun he => hkn (by rw [ok.udst k hk f hf he]; exact List.mem_cons_self)
          have hkΔ : ¬ k ∈ Δ := fun hh => hkn (List.mem_cons_of_mem _ hh)
          show Obs.killP k.chg (f.obs ++ fgObs Δ) = f.obs ++ fgObs Δ
          rw [Obs.killP_append, hKO k hk hkΔ]
          rcases hobk k hk hkf with h7 | ⟨t, _, h7⟩
          · rw [h7]
          · exact absurd (h3 k hk hkΔ t) h7
      · rintro ex a' w' hne ⟨e', σ', hq, _⟩
        cases ex <;> first | exact absurd rfl hne | exact hq.elim
      · obtain ⟨a', w', e', σ', hq, _⟩ := h.2
        exact hq.elim
    · rw [if_pos (hg.wanted (fun t _ => hr.env t))]
      refine .inl (wp_to ?_ (fun _ _ _ => False.elim) (hop F ρ w a hr.lt (fun t _ => hr.env t) (hr.obs.sub fun q hq => List.mem_append.2 (.inr hq))))
      rintro a' w' ⟨v, F', rfl, hv, hE⟩
      obtain ⟨p1, p2⟩ := pure (o := o) (s := s) h1 h2 h3 hne fun f hf hfn => by
        rcases hsk f hf with hh | ⟨t, _, hh⟩
        · exact hh
        · exact absurd (h3 f hf hfn t) hh
      exact ih _ _ _ _ ⟨Δ, h1, hL', p1, p2, hKO, F', ρ, hr.put hE hv hdo⟩ hkk
    · rw [if_neg (by rw [hg.wanted (fun t _ => hr.env t)]; simp)]
      obtain ⟨p1, p2⟩ := pure (o := o) (s := .d (.v undef)) h1 h2 h3 hne (fun _ _ _ => rfl)
      exact ih _ _ _ _ ⟨Δ, h1, hL', p1, p2, hKO, F, ρ, hr.put (Ext.refl hr.lt) repS_undef hdo⟩ hkk
section
variable {cx : Cx} {ops : Array Oper} {σ : Obs} {Φ : List Fg} {e : Env} {Qe : Env → Prop} {o : Oper} {l : List Oper}
def HoldsG (p : Fg → Prop) : List Fg → Prop
  | [] => True
  | f :: l => p f ∧ HoldsG p l
theorem HoldsG.all {p : Fg → Prop} : ∀ {l : List Fg}, HoldsG p l → ∀ f ∈ l, p f
  | [], _, f, hf => by cases hf
  | g :: l, h, f, hf => by
    cases hf with
    | head => exact h.1
    | tail _ hf => exact HoldsG.all h.2 f hf
theorem YRun.nil (hd : HoldsG (fun f => e f.dst = f.s0) Φ) (h : Qe e) : YRun cx ops σ Φ [] e Qe := ⟨hd.all, h⟩
def neAllG (Φ : List Fg) (o : Oper) : Bool := Φ.all fun f => neDst o f.dst
theorem neAllG_spec (h : neAllG Φ o = true) : notDstG Φ o := fun f hf => neDst_spec (List.all_eq_true.1 h f hf)
theorem YRun.step {s : S} {t : Nat} (hg : GW ops o e true) (ht : o.dst = some t) (hd : Nat.blt t cx.N = true) (h : AOp cx.P cx.B ops o e σ s) (k : YRun cx ops σ Φ l (e.put (some t) s) Qe) (hne : neAllG Φ o = true := by rfl) (hs : HoldsG (fun f => s.killP f.chg = s ∨ ∃ t, t ∈ o.looksAt ops ∧ (e t).killP f.chg ≠ e t) Φ := by first | exact ⟨.inl rfl, trivial⟩ | exact ⟨.inl rfl, .inl rfl, trivial⟩ | exact ⟨.inr ⟨_, .head _, S.noConfusion⟩, trivial⟩ | exact ⟨.inr ⟨_, .head _, S.noConfusion⟩, .inl rfl, trivial⟩ | exact ⟨.inl rfl, .inr ⟨_, .head _, S.noConfusion⟩, trivial⟩) : YRun cx ops σ Φ (o :: l) e Qe :=
  ⟨by unfold DstOk; rw [ht]; exact hd, s, .inl ⟨hg, .inr ⟨h, neAllG_spec hne, hs.all⟩⟩, by rw [ht]; exact k⟩
theorem argsS_of {e : Env} : ∀ {xs : List Operand} {ds : List D}, ArgsOk e xs ds → ArgsS e xs (ds.map S.d)
  | [], [], _ => trivial
  | x :: xs, d :: ds, h => by
    obtain ⟨⟨d0, h1, h2⟩, h3⟩ := h
    exact ⟨by rw [h1]; exact .d h2, argsS_of h3⟩
  | [], _ :: _, h => h.elim
  | _ :: _, [], h => h.elim
theorem argsOk_same {e e0 : Env} : ∀ {xs : List Operand} {ds : List D}, (∀ x ∈ xs, e0.ev x = e.ev x) → ArgsOk e xs ds → ArgsOk e0 xs ds
  | [], [], _, _ => trivial
  | x :: xs, d :: ds, hx, h => by
    obtain ⟨⟨d0, h1, h2⟩, h3⟩ := h
    exact ⟨⟨d0, (hx x List.mem_cons_self).trans h1, h2⟩, argsOk_same (fun y hy => hx y (List.mem_cons_of_mem _ hy)) h3⟩
  | [], _ :: _, _, h => h.elim
  | _ :: _, [], _, h => h.elim
theorem allIds_of {c : Nat → Bool} : ∀ {σ : Obs}, (∀ p ∈ σ, c p.1 = true) → Obs.allIds c σ = true
  | [], _ => rfl
  | p :: l, h => by
    show (c p.1 && Obs.allIds c l) = true
    rw [h p List.mem_cons_self, allIds_of fun q hq => h q (List.mem_cons_of_mem _ hq)]; rfl
theorem fresh_ids {id : Nat} : ∀ {σ : Obs}, (∀ p ∈ σ, Nat.beq p.1 id = false) → Obs.fresh id σ = true
  | [], _ => rfl
  | p :: l, h => by
    show (!(Nat.beq p.1 id) && Obs.fresh id l) = true
    rw [h p List.mem_cons_self, fresh_ids fun q hq => h q (List.mem_cons_of_mem _ hq)]; rfl
/-- A call whose result is a new struct of two new maps. -/
theorem YRun.callS {g : FuncId} {xs : List Operand} {ts : Array TypeId} {ds : List D} {T M : List (Value × D)} (v i j : Nat) (f : Fg) (hf : f ∈ Φ) (hg : GW ops o e true) (hgn : o.guard = none) (ht : o.dst = some f.dst) (hd : Nat.blt f.dst cx.N = true)
    (ho : o.op = .call { callee := .value (.func g), args := xs.toArray, argTypes := ts }) (ha : ArgsOk e xs ds) (h : SCall cx.P g ds T M) (n1 : v ≠ i) (n2 : v ≠ j) (n3 : i ≠ j) (hob : f.obs = [(v, .val [.own i, .own j]), (i, .map T), (j, .map M)]) (hs : f.s0 = .own v) (hc : f.chg = fun n => Nat.beq n v || Nat.beq n i || Nat.beq n j)
    (k : YRun cx ops σ Φ l (e.put (some f.dst) f.s0) Qe) (h3 : ∀ n, cx.fixp n = false := by exact fun _ => rfl) (hob2 : HoldsG (fun f' => f'.dst ≠ f.dst → Obs.killP f'.chg f.obs = f.obs ∨ ∃ t, t ∈ o.looksAt ops ∧ (e t).killP f'.chg ≠ e t) Φ := by (repeat' first | exact trivial | refine ⟨?_, ?_⟩) <;> first | exact fun h => absurd rfl h | exact fun _ => .inl rfl) : YRun cx ops σ Φ (o :: l) e Qe :=
  ⟨by unfold DstOk; rw [ht]; exact hd, _, .inl ⟨hg, .inl ⟨f, hf, ⟨ht, fun e0 σ _ _ he hfr => by
    have hev : ∀ x ∈ xs, e0.ev x = e.ev x := fun x hx => ev_same fun t hxt => he t (looks_op (by rw [ho, ← hxt]; simp [Op.operands, Call.operands, hx]))
    have hfr' : ∀ p ∈ σ, (Nat.beq p.1 v || Nat.beq p.1 i || Nat.beq p.1 j) = false := fun p hp => by have := hfr p hp; rw [hc] at this; exact this
    refine AOps.callXS hgn (by unfold DstOk; rw [ht]; exact hd) ho (argsS_of (argsOk_same hev ha)) (h.toX v i j n1 n2 n3) trivial (allIds_of fun p hp => by rw [hfr' p hp]; rfl) ?_ (fun n _ => h3 n) (.nil ⟨by rw [ht, hs, hc], by rw [hob, hc]; rfl⟩)
    refine allIds_of fun p hp => allIds_of fun q hq => ?_
    have h4 := hfr' q hq
    simp only [Bool.or_eq_false_iff] at h4
    have h5 : ∀ a b : Nat, Nat.beq a b = false → (!(Nat.beq b a)) = true := fun a b h => by
      cases h6 : Nat.beq b a with
      | false => rfl
      | true => rw [Nat.eq_of_beq_eq_true h6] at h; simp at h
    simp only [List.mem_cons, List.not_mem_nil, or_false] at hp
    rcases hp with rfl | rfl | rfl
    · exact h5 _ _ h4.1.1
    · exact h5 _ _ h4.1.2
    · exact h5 _ _ h4.2⟩, rfl, hob2.all⟩⟩, by rw [ht]; exact k⟩
theorem YRun.alloc {t : Nat} {z : Value} {zs : List Value} (id : Nat) (f : Fg) (hf : f ∈ Φ) (hg : GW ops o e true) (hgn : o.guard = none) (ht : o.dst = some f.dst) (hd : Nat.blt f.dst cx.N = true) (ho : o.op = .alloc t) (hz : (cx.P.info? t).bind (·.zero) = some z) (hzc : z.cells.toList = zs) (h1 : zs.all (·.oneCell') = true) (hob : f.obs = [(id, .cells ((zs.map D.v).map S.d))]) (hs : f.s0 = .ptr id 0) (hc : f.chg = fun i => Nat.beq i id)
    (k : YRun cx ops σ Φ l (e.put (some f.dst) f.s0) Qe) (hfx : cx.free id = true := by rfl) (hob2 : HoldsG (fun f' => f'.dst ≠ f.dst → Obs.killP f'.chg f.obs = f.obs ∨ ∃ t, t ∈ o.looksAt ops ∧ (e t).killP f'.chg ≠ e t) Φ := by (repeat' first | exact trivial | refine ⟨?_, ?_⟩) <;> first | exact fun h => absurd rfl h | exact fun _ => .inl rfl) : YRun cx ops σ Φ (o :: l) e Qe :=
  ⟨by unfold DstOk; rw [ht]; exact hd, _, .inl ⟨hg, .inl ⟨f, hf, ⟨ht, fun e0 σ _ _ _ hfr => by
    have hfr' : Obs.fresh id σ = true := fresh_ids fun p hp => by have := hfr p hp; rw [hc] at this; exact this
    exact AOps.alloc id hgn ht hd ho hz hzc h1 hfr' (.nil ⟨by rw [hs, hc, killPE_one], by rw [hob, hc, killPObs_one]; rfl⟩) hfx⟩, rfl, hob2.all⟩⟩, by rw [ht]; exact k⟩
end
def Env.killAllG : List Fg → Env → Env
  | [], e => e
  | f :: l, e => Env.killAllG l (e.killP f.chg)
theorem killAllG_kill (c : Nat → Bool) : ∀ (Φ : List Fg) (e : Env), (∀ t, (e t).killP c = e t) → ∀ t, (Env.killAllG Φ e t).killP c = Env.killAllG Φ e t
  | [], _, h => h
  | f :: l, e, h => killAllG_kill c l (e.killP f.chg) fun t => by unfold Env.killP; rw [killP_comm, h t]
theorem killAllG_all : ∀ (Φ : List Fg) (e : Env), ∀ f ∈ Φ, ∀ t, (Env.killAllG Φ e t).killP f.chg = Env.killAllG Φ e t
  | g :: l, e, f, hf, t => by
    rcases List.mem_cons.1 hf with rfl | hf
    · exact killAllG_kill f.chg l (e.killP f.chg) (fun t => killP_killP f.chg (e t)) t
    · exact killAllG_all l (e.killP g.chg) f hf t
theorem R.killAllG {cx : Cx} {σ : Obs} {a : Act} {w : World} : ∀ (Φ : List Fg) {e : Env}, R cx e σ a w → R cx (Env.killAllG Φ e) σ a w
  | [], _, h => h
  | f :: l, _, ⟨F, ρ, h⟩ => R.killAllG l ⟨F, ρ, h.killPEnv f.chg⟩
/-- A region that draws its order; some of its first k operations make own objects; those from k on wait for all before them. -/
theorem AWP.drawGroups {cx : Cx} {rid : Nat} {l : List Oper} {e : Env} {σ : Obs} {Q : Post} (k : Nat) (Φ : List Fg) (ok : FgOk cx Φ σ) (hm : cx.P.follows .mixedOrders = true) (hB : Region.lexB .any (l.take k).toArray = true) (hC : Region.chainB l.toArray k = true) (hlk : (Φ.all fun f => (List.range (l.take k).length).all fun i => (List.range (l.take k).length).all fun j => Nat.beq i j || (((l.take k)[i]?).map fun o => neDst o f.dst).getD true || (((l.take k)[j]?).map fun o => neDst o f.dst).getD true) = true)
    (h : YRun cx (l.take k).toArray σ Φ (l.take k) (Env.killAllG Φ e) (fun e => AOps cx l.toArray (l.drop k) e (fgObs Φ ++ σ) Q)) : AWP cx (.region rid l.toArray true) e σ Q := by
  intro a w ⟨F, ρ, hr⟩
  simp only [Region.lexB, Bool.and_eq_true] at hB
  have hch := Chain.of hC
  have hkl : k ≤ l.length := by simpa using hch.le
  have h1 := anyY_lex (l.take k) 0 (Array.replicate (l.take k).toArray.size false) (Env.killAllG Φ e) (by simp) (by simpa using hB.2) h
  have hone : ∀ f ∈ Φ, ∀ (i j : Nat) (o o' : Oper), (l.take k).toArray[i]? = some o → (l.take k).toArray[j]? = some o' → o.dst = some f.dst → o'.dst = some f.dst → i = j := fun f hf i j o o' hi hj ho ho' => by
    rw [List.getElem?_toArray] at hi hj
    have h3 := List.all_eq_true.1 (List.all_eq_true.1 (List.all_eq_true.1 hlk f hf) i (List.mem_range.2 (List.getElem?_eq_some_iff.1 hi).1)) j (List.mem_range.2 (List.getElem?_eq_some_iff.1 hj).1)
    rw [hi, hj] at h3
    simp only [Option.map_some, Option.getD_some, Bool.or_eq_true] at h3
    rcases h3 with (h3 | h3) | h3
    · exact Nat.eq_of_beq_eq_true h3
    · exact absurd ho (neDst_spec h3)
    · exact absurd ho' (neDst_spec h3)
  have h2 := wpAny_of_Y (cx := cx) (ops := (l.take k).toArray) (Q := fun ex e σ => match ex with | .normal => AOps cx l.toArray (l.drop k) e σ Q | _ => False) (by simpa using YRun.dsts _ _ h) hone ok _ _ (Env.killAllG Φ e) a _
    ⟨[], fun g hg => (nomatch hg), fun g hg => (nomatch hg), fun g hg => (nomatch hg), fun f hf _ t => killAllG_all Φ e f hf t, fun f hf _ => rfl, R.killAllG Φ ⟨F, ρ, hr.drew⟩⟩ h1
  refine wp_region_any hm (wpAny_split hch (ops0 := (l.take k).toArray) (by simp; omega) (fun j hj => by simp [hj]) ?_ ?_ (l.take k).length _ _ _ _ _ (by simp; omega) (by simp) ?_ ?_ ?_ (by simp; omega) h2)
  · rintro a w ⟨e, σ, h3, h4⟩
    have := h3 a w h4
    simpa using this
  · rintro ex a w hne ⟨e, σ, h3, _⟩
    cases ex <;> first | exact absurd rfl hne | exact h3.elim
  · intro j hj d
    have h5 : j < l.length := by omega
    have h6 : j < min k l.length := by omega
    simp [Array.getD_eq_getD_getElem?, h5, h6]
  · intro j hj hj2
    have : j < l.length := by simpa using hj2
    simp [Array.getD_eq_getD_getElem?, this]
  · intro i o ho hi
    have : i < l.length := by simpa using (Array.getElem?_eq_some_iff.1 ho).1
    simp [Array.getD_eq_getD_getElem?, this] at hi

/-! Types. -/
namespace TyLI
theorem fo_64_0 : fieldOff Tryz.prog 64 0 = some 0 := by kernel_rfl
theorem fo_64_1 : fieldOff Tryz.prog 64 1 = some 1 := by kernel_rfl
theorem sc_61 : Scal Tryz.prog 61 := .of (by kernel_rfl)
theorem sc_62 : Scal Tryz.prog 62 := .of (by kernel_rfl)
end TyLI
open TyH3 TyH5 TyJ3 TyJ4 TyJ5 TyKA TyKB TyKC TyKD TyKE TyKF TyKG TyLA TyLB TyLC TyLD TyLE TyLF TyLG TyLH TyLI

set_option linter.unusedSimpArgs false
abbrev TL := GL (Option Thg)
abbrev ML := GL (Option Int)
def encT (T : TL) : List (Value × D) := encG kI (fun p => ptD p.2) T
def encM (M : ML) : List (Value × D) := encG kI (fun p => pmD p.2) M
theorem mt_T : Tryz.prog.underlying 61 = some (.map 3 70) := by kernel_rfl
theorem mt_M : Tryz.prog.underlying 62 = some (.map 3 75) := by kernel_rfl
theorem zt_pT : (Tryz.prog.info? 70).bind (·.zero) = some (.pointer none) := by kernel_rfl
theorem zt_pM : (Tryz.prog.info? 75).bind (·.zero) = some (.pointer none) := by kernel_rfl
theorem zd_p (F : Nat → Prop) (w : World) : Rep F w (.pointer none) (.v (.pointer none)) := .v _
def KeysOk {β : Type} (L : GL β) : Prop := ∀ p ∈ L, i64 p.1
theorem enc_keys {β : Type} {f : Int × β → D} {L : GL β} (h : KeysOk L) : ∀ p ∈ encG kI f L, ∃ q, keyOf Tryz.prog 3 p.1 = some q := fun p hp => by
  unfold encG at hp
  obtain ⟨t, ht, rfl⟩ := List.mem_map.1 hp
  exact kI_ok (h t ht)
theorem mput_T {L : TL} (h : NkG L) (k : Int) (v : Option Thg) : MPut (encT L) (kI k) (ptD v) (encT (putG L k v)) := mputG (kv := kI) (dv := fun p => ptD p.2) kI_inj h k v
theorem mput_M {L : ML} (h : NkG L) (k : Int) (v : Option Int) : MPut (encM L) (kI k) (pmD v) (encM (putG L k v)) := mputG (kv := kI) (dv := fun p => pmD p.2) kI_inj h k v
theorem mget_T {L : TL} (h : NkG L) (k : Int) : MGet (encT L) (kI k) (.v (.pointer none)) (ptD (findG L k).join) := mgetG (kv := kI) (dv := fun p => ptD p.2) kI_inj h k _ _ (by cases findG L k <;> rfl)
theorem mget_M {L : ML} (h : NkG L) (k : Int) : MGet (encM L) (kI k) (.v (.pointer none)) (pmD (findG L k).join) := mgetG (kv := kI) (dv := fun p => pmD p.2) kI_inj h k _ _ (by cases findG L k <;> rfl)
theorem putAll_keys {β : Type} {L E : GL β} (h : KeysOk L) (hE : KeysOk E) : KeysOk (putAll L E) := fun p hp => (putAll_mem hp).elim (hE p) (h p)
theorem keys_nil {β : Type} : KeysOk ([] : GL β) := fun p hp => by cases hp
theorem keys_take {β : Type} {E : GL β} (h : KeysOk E) (n : Nat) : KeysOk (E.take n) := fun p hp => h p (List.mem_of_mem_take hp)
/-! Things and ids, as entries. -/
abbrev tE (l : List Thg) : TL := lookE (idxL l)
abbrev mE (l : List Mvd) : ML := lookE (mvL l)
theorem tE_len (l : List Thg) : (tE l).length = l.length := by simp [lookE, idxL]
theorem mE_len (l : List Mvd) : (mE l).length = l.length := by simp [lookE, mvL]
theorem tE_keys {l : List Thg} (h : ∀ t ∈ l, ThgOk t) : KeysOk (tE l) := fun p hp => by
  simp only [tE, lookE, idxL, List.map_map, List.mem_map] at hp
  obtain ⟨t, ht, rfl⟩ := hp
  exact (h t ht).id
theorem mE_keys {l : List Mvd} (h : ∀ m ∈ l, i64 m.src ∧ i64 m.dst) : KeysOk (mE l) := fun p hp => by
  simp only [mE, lookE, mvL, List.map_map, List.mem_map] at hp
  obtain ⟨t, ht, rfl⟩ := hp
  exact (h t ht).1
theorem goneE_keys {β : Type} {l : List Int} (h : ∀ n ∈ l, i64 n) : KeysOk (goneE l : GL (Option β)) := fun p hp => by
  simp only [goneE, List.mem_map] at hp
  obtain ⟨t, ht, rfl⟩ := hp
  exact h t ht
theorem tE_next {L : TL} {l : List Thg} {k : Nat} (h : k < l.length) : putAll L ((tE l).take (k + 1)) = putG (putAll L ((tE l).take k)) l[k].id (some l[k]) := by
  rw [putAll_take (by rw [tE_len]; exact h)]
  simp [tE, lookE, idxL]
theorem mE_next {L : ML} {l : List Mvd} {k : Nat} (h : k < l.length) : putAll L ((mE l).take (k + 1)) = putG (putAll L ((mE l).take k)) l[k].src (some l[k].dst) := by
  rw [putAll_take (by rw [mE_len]; exact h)]
  simp [mE, lookE, mvL]
theorem gE_next {β : Type} {L : GL (Option β)} {l : List Int} {k : Nat} (h : k < l.length) : putAll L ((goneE l).take (k + 1)) = putG (putAll L ((goneE l).take k)) l[k] none := by
  rw [putAll_take (by simpa [goneE] using h)]
  simp [goneE]
theorem tE_all (l : List Thg) : (tE l).take l.length = tE l := List.take_of_length_le (Nat.le_of_eq (tE_len l))
theorem mE_all (l : List Mvd) : (mE l).take l.length = mE l := List.take_of_length_le (Nat.le_of_eq (mE_len l))
theorem gE_all {β : Type} (l : List Int) : (goneE l : GL (Option β)).take l.length = goneE l := List.take_of_length_le (by simp [goneE])
def LimX (x : Chg) : Prop := x.put.length ≤ 300 ∧ x.drop.length ≤ 300 ∧ x.add.length ≤ 300 ∧ x.back.length ≤ 300
theorem in4 {σ : Obs} {a b c d : Nat × Ob} (h1 : a ∈ σ) (h2 : b ∈ σ) (h3 : c ∈ σ) (h4 : d ∈ σ) : ∀ p ∈ [a, b, c, d], p ∈ σ := fun p hp => by
  simp only [List.mem_cons, List.not_mem_nil, or_false] at hp
  rcases hp with rfl | rfl | rfl | rfl <;> assumption
theorem obs_e {σ σ' : Obs} (h : σ = σ') : ∀ p ∈ σ', p ∈ σ := h ▸ fun _ h => h

set_option maxRecDepth 100000 in
set_option maxHeartbeats 1000000 in
theorem c_put (l : List Thg) (m : List Mvd) (T : TL) (M : ML) (hll : l.length ≤ 1048576) (hml : m.length ≤ 1048576) (hl : ∀ t ∈ l, ThgOk t) (hp : ∀ t ∈ l, t.parts.length ≤ 1048576) (hm : ∀ x ∈ m, i64 x.src ∧ i64 x.dst) (hT : NkG T) (hM : NkG M) (kT : KeysOk T) (kM : KeysOk M) : XCall Tryz.prog 72 [.own 100, .d (.sl (l.map Thg.ds)), .d (.sl (m.map Mvd.ds))] [(100, .val [.own 91, .own 92]), (91, .map (encT T)), (92, .map (encM M))] [(100, .val [.own 91, .own 92]), (91, .map (encT (putAll T (tE l)))), (92, .map (encM (putAll M (mE m))))] (fun i => Nat.ble 1000 i) (.tup []) := by
 refine xcall_of (n := 36) (ds' := []) Tryz.func72 rfl (by kernel_rfl) rfl [] rfl rfl ?_
 intro B w0 F0 fr ρ0
 refine .sr ?_
 refine .boxVal 1001 rfl rfl rfl rfl rfl (.head _) rfl ?_
 refine .nil ?_
 refine .seq ?_
 refine .sr ?_
 refine .mA ?_
 refine .sA (.lenSl rfl et_22.ht rfl) ?_
 refine .mA (.nil ?_)
 refine .block ?_
 refine .loop (G := Nat) (fun k => Env.of [(13, .d (.v (.int .i64 (k : Int)))), (11, .d (.sl (l.map Thg.ds))), (12, .d (.v (.int .i64 ((l.map Thg.ds).length : Int)))), (3, .ptr 1001 0), (2, .d (.sl (m.map Mvd.ds)))]) (fun k => [(1001, .cells [.own 91, .own 92]), (100, .val [.own 91, .own 92]), (91, .map (encT (putAll T ((tE l).take k)))), (92, .map (encM M))]) (fun k => k ≤ l.length) (fun k => l.length - k) 0 (Nat.zero_le _) (Sub.less ⟨(SLe.of_eq rfl), SLe.refl _, SLe.refl _, SLe.refl _, SLe.refl _, trivial⟩ (obs_e rfl)) ?_
 intro k hk
 refine .sr ?_
 refine .sA (.lss rfl rfl rfl) (.nil ?_)
 refine .seq ?_
 refine .cond rfl (fun h1 => ?_) (fun h1 => ?_)
 ·replace h1 := of_decide_eq_true h1
  rw [List.length_map] at h1
  have hlt : k < l.length := by omega
  have hbk := hl _ (List.getElem_mem hlt)
  have hpk := hp _ (List.getElem_mem hlt)
  have HN := tE_next (L := T) hlt
  refine .skip ?_
  refine .seq ?_
  refine .block ?_
  refine .sr ?_
  refine .sA (.indexAddr rfl et_22 rfl rfl k rfl (at_lst hlt) rfl) ?_
  refine .sA (.loadAgg rfl ag_41 rfl rfl) ?_
  refine .alloc 1101 rfl rfl rfl rfl zt_41 rfl rfl rfl ?_
  refine .store rfl rfl rfl sz_41 rfl (.head _) rfl rfl rfl (Nat.le_of_ble_eq_true rfl) ?_
  refine .freezeCells 7 (ds := l[k].ds) rfl (.head _) (.nil ?_)
  refine .sr ?_
  refine .sA (.loadAgg rfl ag_41 rfl rfl) ?_
  refine .sA (.call rfl (.cons (.rfl' rfl) .nil) (c_own l[k] hpk)) ?_
  refine .alloc 1102 rfl rfl rfl rfl zt_41 rfl rfl rfl ?_
  refine .store rfl rfl rfl sz_41 rfl (.head _) rfl rfl rfl (Nat.le_of_ble_eq_true rfl) ?_
  refine .freezeCells 8 (ds := l[k].ds) rfl (.head _) (.nil ?_)
  refine .region ?_
  refine .sA (.fieldAddrP rfl fo_64_0 rfl) ?_
  refine .sA (.loadP rfl sc_61 rfl (.head _) rfl) ?_
  refine .sA (.fieldAddr rfl fo_41_0 rfl) ?_
  refine .sA (.load rfl sc_3 rfl) ?_
  refine .eff rfl rfl (.mapUpdateX (key := kI l[k].id) (d := ptD (some l[k])) rfl rfl mt_T kd_int rfl (.tail _ (.tail _ (.head _))) rfl (DExact.v _) rfl (kI_ok hbk.id) (enc_keys (putAll_keys kT (keys_take (tE_keys hl) k))) (mput_T (putAll_nk hT) _ _)) (.nil ?_)
  refine .region ?_
  refine .sA (.add64 rfl rfl rfl (by omega) (by omega)) ?_
  refine .mA (.nil ?_)
  refine ⟨k + 1, (by omega), (by dsimp only; omega), Sub.less ⟨(SLe.of_eq rfl), SLe.refl _, SLe.refl _, SLe.refl _, SLe.refl _, trivial⟩ (obs_e (by rw [← HN]; rfl))⟩
 replace h1 := of_decide_eq_false h1
 rw [List.length_map] at h1
 obtain rfl : k = l.length := by omega
 rw [tE_all]
 refine .exit ?_
 refine .sr ?_
 refine .mA ?_
 refine .sA (.lenSl rfl et_23.ht rfl) ?_
 refine .mA (.nil ?_)
 refine .block ?_
 refine .loop (G := Nat) (fun j => Env.of [(26, .d (.v (.int .i64 (j : Int)))), (24, .d (.sl (m.map Mvd.ds))), (25, .d (.v (.int .i64 ((m.map Mvd.ds).length : Int)))), (3, .ptr 1001 0)]) (fun j => [(1001, .cells [.own 91, .own 92]), (100, .val [.own 91, .own 92]), (91, .map (encT (putAll T (tE l)))), (92, .map (encM (putAll M ((mE m).take j))))]) (fun j => j ≤ m.length) (fun j => m.length - j) 0 (Nat.zero_le _) (Sub.less ⟨(SLe.of_eq rfl), SLe.refl _, SLe.refl _, SLe.refl _, trivial⟩ (obs_e rfl)) ?_
 intro j hj
 refine .sr ?_
 refine .sA (.lss rfl rfl rfl) (.nil ?_)
 refine .seq ?_
 refine .cond rfl (fun h2 => ?_) (fun h2 => ?_)
 ·replace h2 := of_decide_eq_true h2
  rw [List.length_map] at h2
  have hjt : j < m.length := by omega
  have hbj := hm _ (List.getElem_mem hjt)
  have HJ := mE_next (L := M) hjt
  refine .skip ?_
  refine .seq ?_
  refine .block ?_
  refine .sr ?_
  refine .sA (.indexAddr rfl et_23 rfl rfl j rfl (at_lst hjt) rfl) ?_
  refine .sA (.loadAgg rfl ag_85 rfl rfl) ?_
  refine .alloc 1103 rfl rfl rfl rfl zt_85 rfl rfl rfl ?_
  refine .store rfl rfl rfl sz_85 rfl (.head _) rfl rfl rfl (Nat.le_of_ble_eq_true rfl) ?_
  refine .freezeCells 10 (ds := m[j].ds) rfl (.head _) (.nil ?_)
  refine .region ?_
  refine .sA (.fieldAddrP rfl fo_64_1 rfl) ?_
  refine .sA (.loadP rfl sc_62 rfl (.head _) rfl) ?_
  refine .sA (.fieldAddr rfl fo_85_0 rfl) ?_
  refine .sA (.load rfl sc_3 rfl) ?_
  refine .sA (.fieldAddr rfl fo_85_1 rfl) ?_
  refine .eff rfl rfl (.mapUpdateX (key := kI m[j].src) (d := pmD (some m[j].dst)) rfl rfl mt_M kd_int rfl (.tail _ (.tail _ (.tail _ (.head _)))) rfl (DExact.v _) rfl (kI_ok hbj.1) (enc_keys (putAll_keys kM (keys_take (mE_keys hm) j))) (mput_M (putAll_nk hM) _ _)) (.nil ?_)
  refine .region ?_
  refine .sA (.add64 rfl rfl rfl (by omega) (by omega)) ?_
  refine .mA (.nil ?_)
  refine ⟨j + 1, (by dsimp only; omega), (by dsimp only; omega), Sub.less ⟨(SLe.of_eq rfl), SLe.refl _, SLe.refl _, SLe.refl _, trivial⟩ (obs_e (by rw [← HJ]; rfl))⟩
 replace h2 := of_decide_eq_false h2
 rw [List.length_map] at h2
 obtain rfl : j = m.length := by omega
 rw [mE_all]
 refine .exit ?_
 refine ⟨trivial, ⟨mem_ob_eq (.tail _ (.head _)) ?_, mem_ob_eq (.tail _ (.tail _ (.head _))) ?_, mem_ob_eq (.tail _ (.tail _ (.tail _ (.head _)))) ?_, trivial⟩⟩
 all_goals (rfl)

set_option maxRecDepth 100000 in
set_option maxHeartbeats 1000000 in
theorem c_ofC (c : Ctl) (hlc : Lim c) (hc : CtlOk c) (hp : ∀ t ∈ c.things, t.parts.length ≤ 1048576) : SCall Tryz.prog 27 [.agg c.ds] (encT (ofE (idxL c.things))) (encM (ofE (mvL c.moved))) := by
 refine scall_of (n := 12) (b := 2) (t := 64) Tryz.func27 rfl (by kernel_rfl) rfl rfl ag_64 rfl ?_
 intro B w0 F0 fr
 refine .sr ?_
 refine .sA (.box rfl rfl rfl) ?_
 refine .alloc 101 rfl rfl rfl rfl zt_64 rfl rfl rfl (.nil ?_)
 refine .sr ?_
 refine .callXS rfl rfl rfl ArgsS.nil (c_new.toX 99 91 92 (by decide) (by decide) (by decide)) trivial rfl rfl (fun _ _ => rfl) ?_
 refine .alloc 102 rfl rfl rfl rfl zt_64 rfl rfl rfl ?_
 refine .eff rfl rfl (.storeVal (ss' := [.own 91, .own 92]) rfl rfl sz_64 rfl (.head _) rfl (.tail _ (.head _)) rfl (Nat.le_refl 2)) (.nil ?_)
 refine .sr ?_
 refine .loadVal 100 rfl rfl rfl rfl ag_64 rfl (.head _) (Nat.le_refl 2) rfl ?_
 refine .sA (.fieldAddr rfl fo_25_0 rfl) ?_
 refine .sA (.load rfl sc_22 rfl) ?_
 refine .sA (.fieldAddr rfl fo_25_1 rfl) ?_
 refine .sA (.load rfl sc_23 rfl) ?_
 -- writes 100 91 92
 refine .callX rfl rfl rfl (.cons (SLe.refl _) (.cons (SLe.refl _) (.cons (SLe.refl _) .nil))) (c_put c.things c.moved [] [] (Nat.le_trans hlc.1 (by decide)) (Nat.le_trans hlc.2 (by decide)) hc.things hp hc.moved List.Pairwise.nil List.Pairwise.nil keys_nil keys_nil) ⟨(.head _), (.tail _ (.tail _ (.tail _ (.head _)))), (.tail _ (.tail _ (.tail _ (.tail _ (.head _))))), trivial⟩ rfl rfl (fun _ h => rfl) ?_
 refine .nil ?_
 refine .sr ?_
 refine .loadVal 103 rfl rfl rfl rfl ag_64 rfl (.tail _ (.tail _ (.tail _ (.head _)))) (Nat.le_refl 2) rfl ?_
 refine .eff rfl rfl (.storeVal (ss' := [.own 91, .own 92]) rfl rfl sz_64 rfl (.tail _ (.tail _ (.tail _ (.tail _ (.tail _ (.tail _ (.head _))))))) rfl (.head _) rfl (Nat.le_refl 2)) (.nil ?_)
 refine .ret ?_
 exact ⟨101, 91, 92, rfl, (.tail _ (.tail _ (.tail _ (.tail _ (.tail _ (.tail _ (.head _))))))), (.tail _ (.tail _ (.head _))), (.tail _ (.tail _ (.tail _ (.head _)))), by decide⟩

set_option maxRecDepth 100000 in
set_option maxHeartbeats 1000000 in
theorem c_ofX (x : Chg) (hlx : LimX x) (hx : ChgOk x) (hp : ∀ t ∈ x.put, t.parts.length ≤ 1048576) : SCall Tryz.prog 89 [.agg x.ds] (encT (xE (idxL x.put) x.drop)) (encM (xE (mvL x.add) x.back)) := by
 refine scall_of (n := 38) (b := 2) (t := 64) Tryz.func89 rfl (by kernel_rfl) rfl rfl ag_64 rfl ?_
 intro B w0 F0 fr
 obtain ⟨hl1, hl2, hl3, hl4⟩ := hlx
 refine .sr ?_
 refine .sA (.box rfl rfl rfl) ?_
 refine .alloc 101 rfl rfl rfl rfl zt_64 rfl rfl rfl (.nil ?_)
 refine .sr ?_
 refine .callXS rfl rfl rfl ArgsS.nil (c_new.toX 99 91 92 (by decide) (by decide) (by decide)) trivial rfl rfl (fun _ _ => rfl) ?_
 refine .alloc 102 rfl rfl rfl rfl zt_64 rfl rfl rfl ?_
 refine .eff rfl rfl (.storeVal (ss' := [.own 91, .own 92]) rfl rfl sz_64 rfl (.head _) rfl (.tail _ (.head _)) rfl (Nat.le_refl 2)) (.nil ?_)
 refine .sr ?_
 refine .loadVal 100 rfl rfl rfl rfl ag_64 rfl (.head _) (Nat.le_refl 2) rfl ?_
 refine .sA (.fieldAddr rfl fo_35_0 rfl) ?_
 refine .sA (.load rfl sc_22 rfl) ?_
 refine .sA (.fieldAddr rfl fo_35_2 rfl) ?_
 refine .sA (.load rfl sc_23 rfl) ?_
 -- writes 100 91 92
 refine .callX rfl rfl rfl (.cons (SLe.refl _) (.cons (SLe.refl _) (.cons (SLe.refl _) .nil))) (c_put x.put x.add [] [] (Nat.le_trans hl1 (by decide)) (Nat.le_trans hl3 (by decide)) hx.put hp hx.add List.Pairwise.nil List.Pairwise.nil keys_nil keys_nil) ⟨(.head _), (.tail _ (.tail _ (.tail _ (.head _)))), (.tail _ (.tail _ (.tail _ (.tail _ (.head _))))), trivial⟩ rfl rfl (fun _ h => rfl) ?_
 refine .nil ?_
 refine .seq ?_
 refine .sr ?_
 refine .sA (.fieldAddr rfl fo_35_1 rfl) ?_
 refine .sA (.load rfl sc_33 rfl) ?_
 refine .sA (.lenSl rfl et_33.ht rfl) ?_
 refine .mA (.nil ?_)
 refine .block ?_
 refine .loop (G := Nat) (fun k => Env.of [(18, .d (.v (.int .i64 (k : Int)))), (16, .d (.sl (x.drop.map intD))), (17, .d (.v (.int .i64 ((x.drop.map intD).length : Int)))), (1, .d (.fp x.ds)), (2, .ptr 101 0), (3, .ptr 102 0)]) (fun k => [(102, .cells [.own 91, .own 92]), (101, .cells [.d (.v (.map none)), .d (.v (.map none))]), (91, .map (encT (putAll (ofE (idxL x.put)) ((goneE x.drop).take k)))), (92, .map (encM (ofE (mvL x.add))))]) (fun k => k ≤ x.drop.length) (fun k => x.drop.length - k) 0 (Nat.zero_le _) (Sub.less ⟨(SLe.of_eq rfl), SLe.refl _, SLe.refl _, SLe.refl _, SLe.refl _, SLe.refl _, trivial⟩ (in4 (.tail _ (.tail _ (.tail _ (.head _)))) (.tail _ (.tail _ (.tail _ (.tail _ (.tail _ (.head _)))))) (.tail _ (.head _)) (.tail _ (.tail _ (.head _))))) ?_
 intro k hk
 refine .sr ?_
 refine .sA (.lss rfl rfl rfl) (.nil ?_)
 refine .seq ?_
 refine .cond rfl (fun h1 => ?_) (fun h1 => ?_)
 ·replace h1 := of_decide_eq_true h1
  rw [List.length_map] at h1
  have hlt : k < x.drop.length := by omega
  have hbk := hx.drop _ (List.getElem_mem hlt)
  have HN := gE_next (L := (ofE (idxL x.put))) hlt
  refine .skip ?_
  refine .seq ?_
  refine .block ?_
  refine .sr ?_
  refine .sA (.indexAddr rfl et_33 rfl rfl k rfl (at_lst hlt) rfl) ?_
  refine .sA (.load rfl sc_3 rfl) ?_
  refine .aA (.nil ?_)
  refine .region ?_
  refine .sA (.fieldAddrP rfl fo_64_0 rfl) ?_
  refine .sA (.loadP rfl sc_61 rfl (.head _) rfl) ?_
  refine .mA ?_
  refine .eff rfl rfl (.mapUpdateX (key := kI x.drop[k]) (d := ptD none) rfl rfl mt_T kd_int rfl (.tail _ (.tail _ (.head _))) rfl (DExact.v _) rfl (kI_ok hbk) (enc_keys (putAll_keys (putAll_keys keys_nil (tE_keys hx.put)) (keys_take (goneE_keys hx.drop) k))) (mput_T (putAll_nk (ofE_nk _)) _ _)) (.nil ?_)
  refine .region ?_
  refine .sA (.add64 rfl rfl rfl (by omega) (by omega)) ?_
  refine .mA (.nil ?_)
  refine ⟨k + 1, (by omega), (by dsimp only; omega), Sub.less ⟨(SLe.of_eq rfl), SLe.refl _, SLe.refl _, SLe.refl _, SLe.refl _, SLe.refl _, trivial⟩ (obs_e (by rw [← HN]; rfl))⟩
 replace h1 := of_decide_eq_false h1
 rw [List.length_map] at h1
 obtain rfl : k = x.drop.length := by omega
 rw [gE_all]
 refine .exit ?_
 refine .seq ?_
 refine .sr ?_
 refine .sA (.fieldAddr rfl fo_35_3 rfl) ?_
 refine .sA (.load rfl sc_33 rfl) ?_
 refine .sA (.lenSl rfl et_33.ht rfl) ?_
 refine .mA (.nil ?_)
 refine .block ?_
 refine .loop (G := Nat) (fun j => Env.of [(29, .d (.v (.int .i64 (j : Int)))), (27, .d (.sl (x.back.map intD))), (28, .d (.v (.int .i64 ((x.back.map intD).length : Int)))), (2, .ptr 101 0), (3, .ptr 102 0)]) (fun j => [(102, .cells [.own 91, .own 92]), (101, .cells [.d (.v (.map none)), .d (.v (.map none))]), (91, .map (encT (xE (idxL x.put) x.drop))), (92, .map (encM (putAll (ofE (mvL x.add)) ((goneE x.back).take j))))]) (fun j => j ≤ x.back.length) (fun j => x.back.length - j) 0 (Nat.zero_le _) (Sub.less ⟨(SLe.of_eq rfl), SLe.refl _, SLe.refl _, SLe.refl _, SLe.refl _, trivial⟩ (obs_e rfl)) ?_
 intro j hj
 refine .sr ?_
 refine .sA (.lss rfl rfl rfl) (.nil ?_)
 refine .seq ?_
 refine .cond rfl (fun h2 => ?_) (fun h2 => ?_)
 ·replace h2 := of_decide_eq_true h2
  rw [List.length_map] at h2
  have hjt : j < x.back.length := by omega
  have hbj := hx.back _ (List.getElem_mem hjt)
  have HJ := gE_next (L := (ofE (mvL x.add))) hjt
  refine .skip ?_
  refine .seq ?_
  refine .block ?_
  refine .sr ?_
  refine .sA (.indexAddr rfl et_33 rfl rfl j rfl (at_lst hjt) rfl) ?_
  refine .sA (.load rfl sc_3 rfl) ?_
  refine .aA (.nil ?_)
  refine .region ?_
  refine .sA (.fieldAddrP rfl fo_64_1 rfl) ?_
  refine .sA (.loadP rfl sc_62 rfl (.head _) rfl) ?_
  refine .mA ?_
  refine .eff rfl rfl (.mapUpdateX (key := kI x.back[j]) (d := pmD none) rfl rfl mt_M kd_int rfl (.tail _ (.tail _ (.tail _ (.head _)))) rfl (DExact.v _) rfl (kI_ok hbj) (enc_keys (putAll_keys (putAll_keys keys_nil (mE_keys hx.add)) (keys_take (goneE_keys hx.back) j))) (mput_M (putAll_nk (ofE_nk _)) _ _)) (.nil ?_)
  refine .region ?_
  refine .sA (.add64 rfl rfl rfl (by omega) (by omega)) ?_
  refine .mA (.nil ?_)
  refine ⟨j + 1, (by dsimp only; omega), (by dsimp only; omega), Sub.less ⟨(SLe.of_eq rfl), SLe.refl _, SLe.refl _, SLe.refl _, SLe.refl _, trivial⟩ (obs_e (by rw [← HJ]; rfl))⟩
 replace h2 := of_decide_eq_false h2
 rw [List.length_map] at h2
 obtain rfl : j = x.back.length := by omega
 rw [gE_all]
 refine .exit ?_
 refine .sr ?_
 refine .loadVal 103 rfl rfl rfl rfl ag_64 rfl (.head _) (Nat.le_refl 2) rfl ?_
 refine .eff rfl rfl (.storeVal (ss' := [.own 91, .own 92]) rfl rfl sz_64 rfl (.tail _ (.tail _ (.head _))) rfl (.head _) rfl (Nat.le_refl 2)) (.nil ?_)
 refine .ret ?_
 exact ⟨101, 91, 92, rfl, (.tail _ (.tail _ (.head _))), (.tail _ (.tail _ (.tail _ (.head _)))), (.tail _ (.tail _ (.tail _ (.tail _ (.head _))))), by decide⟩


/-! Types. -/
namespace TyLJ
end TyLJ
open TyH3 TyH5 TyJ3 TyJ4 TyJ5 TyKA TyKB TyKC TyKD TyKE TyKF TyKG TyLA TyLB TyLC TyLD TyLE TyLF TyLG TyLH TyLI TyLJ

open Go.Maps Go.Sort Go.Shelf
set_option linter.unusedSimpArgs false
def kInv : Value → Int
  | .int _ a => a
  | _ => 0
theorem rep_owns {β : Type} {F : Nat → Prop} {w : World} {x : Value} {f : Int × β → D} {L : GL β} (h : Rep F w x (.fm (encG kI f L))) (hN : NkG L) (hk : KeysOk L) (hl : L.length ≤ 1048576) :
    ∃ b, x = .map (some b) ∧ ∃ D0 : DataW Unit, w.ownsMap Tryz.prog 3 (fun _ => some (.nil, [])) b L.length D0 ∧ (intKeys D0).Perm (L.map (·.1)) ∧ Maps.size D0 = L.length := by
  obtain ⟨M0, hpm, b, clock, es, rfl, hF, hh, hMC, hall⟩ := rep_fmC h
  have hlen : M0.length = L.length := by rw [hpm.length_eq]; simp [encG]
  have hsz := hMC.size
  have hkey : es.toList.map (·.key) = M0.map (·.1) := by
    refine List.ext_getElem (by simp; omega) fun i h1 h2 => ?_
    simp only [List.length_map, Array.length_toList] at h1 h2
    simp only [List.getElem_map, Array.getElem_toList]
    exact (hall i h1 h2).1
  have hperm : (es.toList.map (·.key)).Perm (L.map fun p => kI p.1) := by
    rw [hkey]
    refine (hpm.map (·.1)).trans ?_
    unfold encG
    rw [List.map_map]
    exact List.Perm.refl _
  have hmem : ∀ e ∈ es.toList, ∃ n, e.key = kI n ∧ i64 n := fun e he => by
    have h1 : e.key ∈ L.map fun p => kI p.1 := hperm.mem_iff.1 (List.mem_map.2 ⟨e, he, rfl⟩)
    obtain ⟨p, hp, h2⟩ := List.mem_map.1 h1
    exact ⟨p.1, h2.symm, hk p hp⟩
  have hrd : ∀ e ∈ es.toList, ∃ n, e.key = kI n ∧ WideElems.rd Tryz.prog 3 (fun _ => some ((.nil, []) : DataW Unit × List MemPlace)) e = some (.int .i64 n, .nil) := fun e he => by
    obtain ⟨n, h1, h2⟩ := hmem e he
    refine ⟨n, h1, ?_⟩
    unfold WideElems.rd
    rw [h1]
    show (keyOf Tryz.prog 3 (.int .i64 n)).bind _ = _
    rw [Maps.keyOf_int_mk Tryz.underlying3 (wf64 h2)]
    rfl
  refine ⟨b, rfl, _, ⟨es, clock, hh, ⟨by unfold maxLen; omega, ⟨hMC.old, hMC.born, ?_⟩, fun e he => ?_⟩, by omega, rfl⟩, ?_, ?_⟩
  · refine hperm.nodup_iff.2 ?_
    exact List.pairwise_map.2 (hN.imp fun h e => h (kI_inj e))
  · obtain ⟨n, _, h2⟩ := hrd e he
    exact ⟨_, h2⟩
  · show (((es.toList.map (WideElems.rg Tryz.prog 3 (fun _ => some ((.nil, []) : DataW Unit × List MemPlace)))).foldr DataW.insert []).map fun p => Go.intOf p.1).Perm _
    have hG0 : ∀ e ∈ es.toList, ∃ n, e.key = kI n ∧ WideElems.rg Tryz.prog 3 (fun _ => some ((.nil, []) : DataW Unit × List MemPlace)) e = (.int .i64 n, .nil) := fun e he => by
      obtain ⟨n, h1, h2⟩ := hrd e he
      exact ⟨n, h1, by unfold WideElems.rg; rw [h2]; exact Option.getD_some⟩
    generalize WideElems.rg Tryz.prog 3 (fun _ => some ((.nil, []) : DataW Unit × List MemPlace)) = G at hG0
    refine ((WideShapes.sorted_perm _).map _).trans ?_
    rw [List.map_map]
    have h1 : ∀ e ∈ es.toList, ((fun p : Lit × DataW Unit => Go.intOf p.1) ∘ G) e = (kInv ∘ fun x : MapEntry => x.key) e := fun e he => by
      obtain ⟨n, h1, h2⟩ := hG0 e he
      show Go.intOf (G e).1 = kInv e.key
      rw [h2, h1]; rfl
    rw [List.map_congr_left h1, ← List.map_map]
    refine (hperm.map kInv).trans ?_
    rw [List.map_map]
    exact List.Perm.refl _
  · show ((es.toList.map (WideElems.rg Tryz.prog 3 (fun _ => some ((.nil, []) : DataW Unit × List MemPlace)))).foldr DataW.insert []).length = _
    rw [length_sorted, List.length_map, Array.length_toList]
    omega
theorem sortsI (m : Nat) : AnyZI.SortsIn Tryz.prog Tryz.sortedI_ren Fence.wide m :=
  ⟨fun blk off cap ss W hH hblk hsz => callsIn_wide.2 (AnyM.slices_Sort_int Tryz.sortMI blk off cap ss W hH hblk hsz),
   fun p cap W => callsIn_wide.2 (AnyM.slices_Sort_int_none Tryz.sortMI p cap W)⟩

set_option maxHeartbeats 4000000 in
set_option maxRecDepth 100000 in
theorem keysT_calls {H : Type} (b nn : Nat) (D0 : DataW H) (R : Value → Option (DataW H × List MemPlace)) (w : World) (hown : w.ownsMap Tryz.prog 3 R b nn D0) (hmax : Maps.size D0 ≤ maxLen) (hbytes : Maps.size D0 * 8 ≤ 140737488355328) :
    Calls Tryz.prog 30 #[.map (some b)] w fun e w' => ∃ (v : Value) (ss : List Int), e = .returned v ∧ ss.Perm (intKeys D0) ∧
      w'.ownsRow w.heap.size 3 1 v ss.length ((ss.mergeSort (fun x y => decide (x ≤ y))).map encZ) ∧ (v = .slice none 0 0 ↔ ss = []) ∧ Below w.heap.size w w' := by
  refine (callsIn_wide (n := 6)).1 ?_
  have hbl := hown.lt
  have hseq : SeqGives Fence.wide 2 Tryz.prog 114 #[.pointer (some ⟨w.heap.size, 0, none⟩)] encZ (fun ss => ss.Perm (intKeys D0)) (Maps.size D0) (w.alloc (.cells #[.map (some b)] 61)) :=
    AnyZI.keys_gives (ρ := Tryz.keysT_ren) { Tryz.keysT with } Fence.wide _ trivial rfl (by omega) w.heap.size b nn D0 _ (by simp) (by simp) (by
      obtain ⟨es, clock, hb, Ft, hs, hD⟩ := hown
      exact ⟨es, clock, (Below.heap_alloc _ _ b hbl).trans hb, Ft, hs, hD⟩)
  have cK : ∀ mb W, CallsIn Fence.wide 5 Tryz.prog 76 #[.map mb] W fun e w' => e = .returned (.func (.func 114) #[] #[.pointer (some ⟨W.heap.size, 0, none⟩)]) ∧ w' = W.alloc (.cells #[.map mb] 61) := fun mb W => AnyZI.keys_in Tryz.keysT Fence.wide 5 trivial rfl mb W
  have cS := AnyZI.sorted_in Tryz.sortedI Fence.wide 5 trivial trivial trivial trivial rfl (by omega) (sortsI _) (enters_of Tryz.func113 (by kernel_rfl) rfl) 114 #[.pointer (some ⟨w.heap.size, 0, none⟩)] trivial (enters_of Tryz.func114 (by kernel_rfl) rfl) _ _ hmax hbytes _ hseq
  change CallsIn _ _ Tryz.prog 75 _ _ _ at cS
  have hfK : Fence.wide.fn 76 := trivial
  have hfS : Fence.wide.fn 75 := trivial
  refine callsIn_of_wp Tryz.func30 rfl trivial ?_ rfl
  simp only [Tryz.ntmps30, List.size_toArray, List.length_cons, List.length_nil, Nat.reduceAdd, Nat.reduceSub, Array.replicate_succ, Array.replicate_zero, List.push_toArray, List.append_toArray, List.nil_append, List.cons_append]
  gi_wp2_with (first
    | (gi_at_call 76; refine (cK _ _).mono ?_; rintro e w' ⟨rfl, rfl⟩)
    | (gi_at_call 75; refine cS.mono ?_; rintro e w' ⟨v, ss, rfl, hS, hrow, hnil, hb⟩))
  go_ret
  exact ⟨v, ss, rfl, hS, ownsRow_base_a hrow (by simp), hnil, ((Below.refl _ w).alloc (Nat.le_refl _) _).trans (hb.mono (by simp))⟩
/-- keys: the numbers of what the map holds, rising. -/
theorem c_keysT (L : TL) (hN : NkG L) (hk : KeysOk L) (hl : L.length ≤ 1048576) : OCall Tryz.prog 30 [.fm (encT L)] 3 1 ((keysG L).map intD) := by
 refine ⟨.of Tryz.func30 (by kernel_rfl) rfl, fun F w vs hF hv => ?_⟩
 obtain ⟨x, rfl⟩ : ∃ x, vs = [x] := by
  have := hv.1
  match vs, this with
  | [x], _ => exact ⟨x, rfl⟩
 have h1 := hv.2 0 (by simp) (by simp)
 simp only [List.getElem_cons_zero] at h1
 obtain ⟨b, rfl, D0, h2, h3, h4⟩ := rep_owns h1 hN hk hl
 refine (keysT_calls b _ D0 _ w h2 (by unfold maxLen; omega) (by omega)).mono fun e w' ⟨v, ss, he, h5, h6, h7, h8⟩ => ?_
 have h9 : ss.mergeSort (fun x y => decide (x ≤ y)) = keysG L := ksort_eq (h5.trans h3)
 have h10 : ss.length = (keysG L).length := by rw [← h9, List.length_mergeSort]
 rw [h9, h10] at h6
 exact ⟨v, F, he, Ext.of_below hF h8, ints_row h6 fun g hg hf => by have := (blk_lt_row h6 hg).1; have := hF g hf; omega⟩

set_option maxHeartbeats 4000000 in
set_option maxRecDepth 100000 in
theorem keysM_calls {H : Type} (b nn : Nat) (D0 : DataW H) (R : Value → Option (DataW H × List MemPlace)) (w : World) (hown : w.ownsMap Tryz.prog 3 R b nn D0) (hmax : Maps.size D0 ≤ maxLen) (hbytes : Maps.size D0 * 8 ≤ 140737488355328) :
    Calls Tryz.prog 32 #[.map (some b)] w fun e w' => ∃ (v : Value) (ss : List Int), e = .returned v ∧ ss.Perm (intKeys D0) ∧
      w'.ownsRow w.heap.size 3 1 v ss.length ((ss.mergeSort (fun x y => decide (x ≤ y))).map encZ) ∧ (v = .slice none 0 0 ↔ ss = []) ∧ Below w.heap.size w w' := by
  refine (callsIn_wide (n := 6)).1 ?_
  have hbl := hown.lt
  have hseq : SeqGives Fence.wide 2 Tryz.prog 115 #[.pointer (some ⟨w.heap.size, 0, none⟩)] encZ (fun ss => ss.Perm (intKeys D0)) (Maps.size D0) (w.alloc (.cells #[.map (some b)] 62)) :=
    AnyZI.keys_gives (ρ := Tryz.keysM_ren) { Tryz.keysM with } Fence.wide _ trivial rfl (by omega) w.heap.size b nn D0 _ (by simp) (by simp) (by
      obtain ⟨es, clock, hb, Ft, hs, hD⟩ := hown
      exact ⟨es, clock, (Below.heap_alloc _ _ b hbl).trans hb, Ft, hs, hD⟩)
  have cK : ∀ mb W, CallsIn Fence.wide 5 Tryz.prog 77 #[.map mb] W fun e w' => e = .returned (.func (.func 115) #[] #[.pointer (some ⟨W.heap.size, 0, none⟩)]) ∧ w' = W.alloc (.cells #[.map mb] 62) := fun mb W => AnyZI.keys_in Tryz.keysM Fence.wide 5 trivial rfl mb W
  have cS := AnyZI.sorted_in Tryz.sortedI Fence.wide 5 trivial trivial trivial trivial rfl (by omega) (sortsI _) (enters_of Tryz.func113 (by kernel_rfl) rfl) 115 #[.pointer (some ⟨w.heap.size, 0, none⟩)] trivial (enters_of Tryz.func115 (by kernel_rfl) rfl) _ _ hmax hbytes _ hseq
  change CallsIn _ _ Tryz.prog 75 _ _ _ at cS
  have hfK : Fence.wide.fn 77 := trivial
  have hfS : Fence.wide.fn 75 := trivial
  refine callsIn_of_wp Tryz.func32 rfl trivial ?_ rfl
  simp only [Tryz.ntmps32, List.size_toArray, List.length_cons, List.length_nil, Nat.reduceAdd, Nat.reduceSub, Array.replicate_succ, Array.replicate_zero, List.push_toArray, List.append_toArray, List.nil_append, List.cons_append]
  gi_wp2_with (first
    | (gi_at_call 77; refine (cK _ _).mono ?_; rintro e w' ⟨rfl, rfl⟩)
    | (gi_at_call 75; refine cS.mono ?_; rintro e w' ⟨v, ss, rfl, hS, hrow, hnil, hb⟩))
  go_ret
  exact ⟨v, ss, rfl, hS, ownsRow_base_a hrow (by simp), hnil, ((Below.refl _ w).alloc (Nat.le_refl _) _).trans (hb.mono (by simp))⟩
/-- keys: the numbers of what the map holds, rising. -/
theorem c_keysM (L : ML) (hN : NkG L) (hk : KeysOk L) (hl : L.length ≤ 1048576) : OCall Tryz.prog 32 [.fm (encM L)] 3 1 ((keysG L).map intD) := by
 refine ⟨.of Tryz.func32 (by kernel_rfl) rfl, fun F w vs hF hv => ?_⟩
 obtain ⟨x, rfl⟩ : ∃ x, vs = [x] := by
  have := hv.1
  match vs, this with
  | [x], _ => exact ⟨x, rfl⟩
 have h1 := hv.2 0 (by simp) (by simp)
 simp only [List.getElem_cons_zero] at h1
 obtain ⟨b, rfl, D0, h2, h3, h4⟩ := rep_owns h1 hN hk hl
 refine (keysM_calls b _ D0 _ w h2 (by unfold maxLen; omega) (by omega)).mono fun e w' ⟨v, ss, he, h5, h6, h7, h8⟩ => ?_
 have h9 : ss.mergeSort (fun x y => decide (x ≤ y)) = keysG L := ksort_eq (h5.trans h3)
 have h10 : ss.length = (keysG L).length := by rw [← h9, List.length_mergeSort]
 rw [h9, h10] at h6
 exact ⟨v, F, he, Ext.of_below hF h8, ints_row h6 fun g hg hf => by have := (blk_lt_row h6 hg).1; have := hF g hf; omega⟩

end Go.Proofs.YtgldfnkbpopanaaGreatDoor
