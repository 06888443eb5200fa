/- Walks and laws over abstract values, merged by tools/merge.py. No statement of the seat. -/
import Derived.WalkKit
import Derived.Ground.NamesProg
import Derived.Shelf.Sort.Plain
import Derived.Shelf.Slices.In.SortNone
import Derived.Test.YtieccphckobhjaaGreatDoorProg
import Derived.Test.YtieccphckobhjaaGreatDoorXH5

namespace Go.Proofs.YtieccphckobhjaaGreatDoor
open Go.RowKit
set_option linter.unusedVariables false

/-! Types. -/
namespace TyP1
theorem et_63 : ElemTy Tryz.prog 63 3 1 8 (.int .i64 0) := ⟨by kernel_rfl, by kernel_rfl, by kernel_rfl, by decide⟩
theorem sc_3 : Scal Tryz.prog 3 := .of (by kernel_rfl)
end TyP1
open TyP1


/-- The binary search: the number to which it comes. -/
def bsr (lt : Nat → Bool) (i j : Nat) : Nat := if h : i < j then (if lt ((i + j) / 2) = true then bsr lt ((i + j) / 2 + 1) j else bsr lt i ((i + j) / 2)) else i
termination_by j - i
decreasing_by all_goals omega
theorem bsr_up {lt : Nat → Bool} {i j : Nat} (h : i < j) (h2 : lt ((i + j) / 2) = true) : bsr lt i j = bsr lt ((i + j) / 2 + 1) j := by rw [bsr, dif_pos h, if_pos h2]
theorem bsr_dn {lt : Nat → Bool} {i j : Nat} (h : i < j) (h2 : lt ((i + j) / 2) = false) : bsr lt i j = bsr lt i ((i + j) / 2) := by rw [bsr, dif_pos h, if_neg (by rw [h2]; simp)]
theorem bsr_end {lt : Nat → Bool} {i j : Nat} (h : ¬ i < j) : bsr lt i j = i := by rw [bsr, dif_neg h]
theorem bsr_le {lt : Nat → Bool} : ∀ (n i j : Nat), j - i ≤ n → i ≤ j → i ≤ bsr lt i j ∧ bsr lt i j ≤ j
  | 0, i, j, h, hij => by rw [bsr_end (by omega)]; omega
  | n + 1, i, j, h, hij => by
    by_cases hlt : i < j
    · by_cases hb : lt ((i + j) / 2) = true
      · rw [bsr_up hlt hb]
        have := bsr_le (lt := lt) n ((i + j) / 2 + 1) j (by omega) (by omega)
        omega
      · rw [bsr_dn hlt (by simpa using hb)]
        have := bsr_le (lt := lt) n i ((i + j) / 2) (by omega) (by omega)
        omega
    · rw [bsr_end hlt]; omega
def ltI (l : List Int) (x : Int) (k : Nat) : Bool := decide (l.getD k 0 < x)
def posI (l : List Int) (x : Int) : Nat := bsr (ltI l x) 0 l.length
theorem posI_le (l : List Int) (x : Int) : posI l x ≤ l.length := (bsr_le _ 0 l.length (Nat.le_refl _) (Nat.zero_le _)).2
def hasI (l : List Int) (x : Int) : Bool := decide (posI l x < l.length) && decide (l.getD (posI l x) 0 = x)
theorem ltI_t {l : List Int} {x : Int} {k : Nat} (hk : k < l.length) (h : l[k] < x) : ltI l x k = true := by unfold ltI; rw [List.getD_eq_getElem?_getD, List.getElem?_eq_getElem hk]; simpa using h
theorem ltI_f {l : List Int} {x : Int} {k : Nat} (hk : k < l.length) (h : ¬ l[k] < x) : ltI l x k = false := by unfold ltI; rw [List.getD_eq_getElem?_getD, List.getElem?_eq_getElem hk]; simpa using h
theorem hasI_t {l : List Int} {x : Int} {k : Nat} (hk : k < l.length) (hp : posI l x = k) (h : l[k] = x) : hasI l x = true := by unfold hasI; rw [hp, List.getD_eq_getElem?_getD, List.getElem?_eq_getElem hk]; simp [hk, h]
theorem hasI_f {l : List Int} {x : Int} {k : Nat} (hk : k < l.length) (hp : posI l x = k) (h : ¬ l[k] = x) : hasI l x = false := by unfold hasI; rw [hp, List.getD_eq_getElem?_getD, List.getElem?_eq_getElem hk]; simp [h]
theorem hasI_e {l : List Int} {x : Int} {k : Nat} (hk : ¬ k < l.length) (hp : posI l x = k) : hasI l x = false := by unfold hasI; rw [hp]; simp [hk]
theorem idx_int {l : List Int} {s : Int} : idxBy (fun x => decide (s = x)) l ≥ 0 ↔ s ∈ l := by
  constructor
  · intro h
    obtain ⟨k, hk, _, hp⟩ := idxBy_some h
    rw [of_decide_eq_true hp]; exact List.getElem_mem hk
  · intro h
    unfold idxBy
    rw [if_pos (List.any_eq_true.2 ⟨s, h, by simp⟩)]
    omega


set_option maxRecDepth 100000 in
set_option maxHeartbeats 1000000 in
theorem c_indexInt (l : List Int) (s : Int) : ACall Tryz.prog 126 [.sl (l.map intD), .v (.int .i64 s)] (.v (.int .i64 (idxBy (fun x => decide (s = x)) l))) := by
  refine acall_of (n := 19) (ds' := [.v (.int .i64 (idxBy (fun x => decide (s = x)) l))]) Tryz.func126 rfl (by kernel_rfl) rfl [4] rfl rfl ?_
  intro B w0 F0 fr
  refine AWP.bound 0 rfl (fun hbd0 => ?_)
  rw [List.length_map] at hbd0
  refine AWP.seq ?_
  refine AWP.region ?_
  refine AOps.step rfl rfl rfl (AOp.assignD rfl rfl) ?_
  refine AOps.nil ?_
  refine AWP.seq ?_
  refine AWP.seq ?_
  refine AWP.region ?_
  refine AOps.step rfl rfl rfl (AOp.moveD rfl rfl) ?_
  refine AOps.step rfl rfl rfl (AOp.lenSl rfl et_63.ht rfl) ?_
  refine AOps.step rfl rfl rfl (AOp.moveD rfl rfl) ?_
  refine AOps.nil ?_
  refine AWP.block ?_
  refine AWP.loop (G := Nat) (fun k => Env.of [(8, .d (.v (.int .i64 (k : Int)))), (0, .d (.sl (l.map intD))), (1, .d (.v (.int .i64 s))), (7, .d (.v (.int .i64 ((l.map intD).length : Int))))]) (fun k => []) (fun k => k ≤ l.length ∧ ∀ c ∈ l.take k, decide (s = c) = false) (fun k => l.length - k) 0 ⟨Nat.zero_le _, fun c h => by simp at h⟩ (Sub.less ⟨(SLe.of_eq rfl), SLe.refl _, SLe.refl _, SLe.refl _, trivial⟩ (fun _ h => h)) ?_
  intro k hk
  refine AWP.seq ?_
  refine AWP.region ?_
  refine AOps.step rfl rfl rfl (AOp.lss rfl rfl rfl) ?_
  refine AOps.nil ?_
  refine AWP.seq ?_
  refine AWP.cond rfl (fun h1 => ?_) (fun h1 => ?_)
  · replace h1 := of_decide_eq_true h1
    rw [List.length_map] at h1
    have hlt : k < l.length := by omega
    refine AWP.skip ?_
    refine AWP.seq ?_
    refine AWP.block ?_
    refine AWP.seq ?_
    refine AWP.region ?_
    refine AOps.step rfl rfl rfl (AOp.moveD rfl rfl) ?_
    refine AOps.step rfl rfl rfl (AOp.assignD rfl rfl) ?_
    refine AOps.nil ?_
    refine AWP.seq ?_
    refine AWP.region ?_
    refine AOps.step rfl rfl rfl (AOp.moveD rfl rfl) ?_
    refine AOps.step rfl rfl rfl (AOp.moveD rfl rfl) ?_
    refine AOps.step rfl rfl rfl (AOp.moveD rfl rfl) ?_
    refine AOps.step rfl rfl rfl (AOp.indexAddr rfl et_63 rfl rfl k rfl (at_list hlt) rfl) ?_
    refine AOps.step rfl rfl rfl (AOp.load rfl sc_3 rfl) ?_
    refine AOps.step rfl rfl rfl (AOp.eql rfl rfl rfl) ?_
    refine AOps.nil ?_
    refine AWP.cond rfl (fun h2 => ?_) (fun h2 => ?_)
    · replace h2 := of_decide_eq_true h2
      rw [idxBy_yes hlt hk.2 (decide_eq_true h2)]
      refine AWP.seq ?_
      refine AWP.region ?_
      refine AOps.step rfl rfl rfl (AOp.moveD rfl rfl) ?_
      refine AOps.step rfl rfl rfl (AOp.assignD rfl rfl) ?_
      refine AOps.nil ?_
      refine AWP.ret ?_
      refine ⟨RetD.eq rfl ?_, trivial⟩
      all_goals (rfl)
    replace h2 := of_decide_eq_false h2
    have hT := take_false' (p := fun x : Int => decide (s = x)) hlt hk.2 (decide_eq_false h2)
    refine AWP.skip ?_
    refine AWP.region ?_
    refine AOps.step rfl rfl rfl (AOp.add64 rfl rfl rfl (by omega) (by omega)) ?_
    refine AOps.step rfl rfl rfl (AOp.moveD rfl rfl) ?_
    refine AOps.nil ?_
    refine ⟨k + 1, ⟨by omega, hT⟩, (by dsimp only; omega), Sub.less ⟨(SLe.of_eq rfl), SLe.refl _, SLe.refl _, SLe.refl _, trivial⟩ (fun _ h => h)⟩
  replace h1 := of_decide_eq_false h1
  rw [List.length_map] at h1
  obtain rfl : k = l.length := by omega
  rw [idxBy_no hk.2]
  refine AWP.exit ?_
  refine AWP.seq ?_
  refine AWP.region ?_
  refine AOps.step rfl rfl rfl (AOp.assignD rfl rfl) ?_
  refine AOps.nil ?_
  refine AWP.ret ?_
  refine ⟨RetD.eq rfl ?_, trivial⟩
  all_goals (rfl)

set_option maxRecDepth 100000 in
set_option maxHeartbeats 1000000 in
theorem c_containsInt (l : List Int) (s : Int) : ACall Tryz.prog 102 [.sl (l.map intD), .v (.int .i64 s)] (.v (.bool (decide (s ∈ l)))) := by
  refine acall_of (n := 9) (ds' := [.v (.bool (decide (s ∈ l)))]) Tryz.func102 rfl (by kernel_rfl) rfl [4] rfl rfl ?_
  intro B w0 F0 fr
  refine AWP.seq ?_
  refine AWP.region ?_
  refine AOps.step rfl rfl rfl (AOp.assignD rfl rfl) ?_
  refine AOps.nil ?_
  refine AWP.seq ?_
  refine AWP.region ?_
  refine AOps.step rfl rfl rfl (AOp.moveD rfl rfl) ?_
  refine AOps.step rfl rfl rfl (AOp.moveD rfl rfl) ?_
  refine AOps.step rfl rfl rfl (AOp.call rfl (.cons (ArgOk.rfl' rfl) (.cons (ArgOk.rfl' rfl) .nil)) (c_indexInt _ _)) ?_
  refine AOps.step rfl rfl rfl (AOp.geq rfl rfl rfl) ?_
  refine AOps.step rfl rfl rfl (AOp.assignD rfl rfl) ?_
  refine AOps.nil ?_
  refine AWP.ret ?_
  refine ⟨RetD.eq rfl ?_, trivial⟩
  all_goals (rw [decide_eq_decide.2 idx_int])

set_option maxRecDepth 100000 in
set_option maxHeartbeats 1000000 in
theorem c_isNaN0 (n : Int) : ACall Tryz.prog 109 [.v (.int .i64 n)] (.v (.bool false)) := by
  refine acall_of (n := 6) (ds' := [.v (.bool false)]) Tryz.func109 rfl (by kernel_rfl) rfl [2] rfl rfl ?_
  intro B w0 F0 fr
  refine AWP.seq ?_
  refine AWP.region ?_
  refine AOps.step rfl rfl rfl (AOp.assignD rfl rfl) ?_
  refine AOps.nil ?_
  refine AWP.seq ?_
  refine AWP.region ?_
  refine AOps.step rfl rfl rfl (AOp.moveD rfl rfl) ?_
  refine AOps.step rfl rfl rfl (AOp.moveD rfl rfl) ?_
  refine AOps.step rfl rfl rfl (AOp.neq rfl rfl rfl) ?_
  refine AOps.step rfl rfl rfl (AOp.assignD rfl rfl) ?_
  refine AOps.nil ?_
  refine AWP.ret ?_
  refine ⟨RetD.eq rfl ?_, trivial⟩
  all_goals (simp)

set_option maxRecDepth 100000 in
set_option maxHeartbeats 1000000 in
theorem c_isNaN1 (n : Int) : ACall Tryz.prog 122 [.v (.int .i64 n)] (.v (.bool false)) := by
  refine acall_of (n := 6) (ds' := [.v (.bool false)]) Tryz.func122 rfl (by kernel_rfl) rfl [2] rfl rfl ?_
  intro B w0 F0 fr
  refine AWP.seq ?_
  refine AWP.region ?_
  refine AOps.step rfl rfl rfl (AOp.assignD rfl rfl) ?_
  refine AOps.nil ?_
  refine AWP.seq ?_
  refine AWP.region ?_
  refine AOps.step rfl rfl rfl (AOp.moveD rfl rfl) ?_
  refine AOps.step rfl rfl rfl (AOp.moveD rfl rfl) ?_
  refine AOps.step rfl rfl rfl (AOp.neq rfl rfl rfl) ?_
  refine AOps.step rfl rfl rfl (AOp.assignD rfl rfl) ?_
  refine AOps.nil ?_
  refine AWP.ret ?_
  refine ⟨RetD.eq rfl ?_, trivial⟩
  all_goals (simp)

set_option maxRecDepth 100000 in
set_option maxHeartbeats 1000000 in
theorem c_lessInt (a b : Int) : ACall Tryz.prog 121 [.v (.int .i64 a), .v (.int .i64 b)] (.v (.bool (decide (a < b)))) := by
  refine acall_of (n := 17) (ds' := [.v (.bool (decide (a < b)))]) Tryz.func121 rfl (by kernel_rfl) rfl [4] rfl rfl ?_
  intro B w0 F0 fr
  refine AWP.seq ?_
  refine AWP.region ?_
  refine AOps.step rfl rfl rfl (AOp.assignD rfl rfl) ?_
  refine AOps.nil ?_
  refine AWP.seq ?_
  refine AWP.region ?_
  refine AOps.step rfl rfl rfl (AOp.moveD rfl rfl) ?_
  refine AOps.step rfl rfl rfl (AOp.call rfl (.cons (ArgOk.rfl' rfl) .nil) (c_isNaN0 _)) ?_
  refine AOps.step rfl rfl rfl (AOp.moveD rfl rfl) ?_
  refine AOps.pass ⟨7, rfl, .inl ⟨_, rfl, rfl⟩⟩ rfl rfl ?_
  refine AOps.pass ⟨7, rfl, .inl ⟨_, rfl, rfl⟩⟩ rfl rfl ?_
  refine AOps.pass ⟨7, rfl, .inl ⟨_, rfl, rfl⟩⟩ rfl rfl ?_
  refine AOps.step rfl rfl rfl (AOp.pickF rfl rfl rfl) ?_
  refine AOps.step rfl rfl rfl (AOp.moveD rfl rfl) ?_
  refine AOps.step ⟨12, rfl, .inl ⟨_, rfl, rfl⟩⟩ rfl rfl (AOp.moveD rfl rfl) ?_
  refine AOps.step ⟨12, rfl, .inl ⟨_, rfl, rfl⟩⟩ rfl rfl (AOp.moveD rfl rfl) ?_
  refine AOps.step ⟨12, rfl, .inl ⟨_, rfl, rfl⟩⟩ rfl rfl (AOp.lss rfl rfl rfl) ?_
  refine AOps.step rfl rfl rfl (AOp.pickF rfl rfl rfl) ?_
  refine AOps.step rfl rfl rfl (AOp.assignD rfl rfl) ?_
  refine AOps.nil ?_
  refine AWP.ret ?_
  refine ⟨RetD.eq rfl ?_, trivial⟩
  all_goals (first | rfl | simp)

set_option maxRecDepth 100000 in
set_option maxHeartbeats 1000000 in
theorem c_bsInt (l : List Int) (x : Int) (hl : l.length ≤ 100000) : ACall Tryz.prog 98 [.sl (l.map intD), .v (.int .i64 x)] (.tup [.v (.int .i64 (posI l x : Int)), .v (.bool (hasI l x))]) := by
  refine acall_of (n := 54) (ds' := [.v (.int .i64 (posI l x : Int)), .v (.bool (hasI l x))]) Tryz.func98 rfl (by kernel_rfl) rfl [4, 5] rfl rfl ?_
  intro B w0 F0 fr
  refine AWP.seq ?_
  refine AWP.region ?_
  refine AOps.step rfl rfl rfl (AOp.assignD rfl rfl) ?_
  refine AOps.step rfl rfl rfl (AOp.assignD rfl rfl) ?_
  refine AOps.nil ?_
  refine AWP.seq ?_
  refine AWP.region ?_
  refine AOps.step rfl rfl rfl (AOp.moveD rfl rfl) ?_
  refine AOps.step rfl rfl rfl (AOp.lenSl rfl et_63.ht rfl) ?_
  refine AOps.step rfl rfl rfl (AOp.assignD rfl rfl) ?_
  refine AOps.nil ?_
  refine AWP.seq ?_
  refine AWP.region ?_
  refine AOps.step rfl rfl rfl (AOp.moveD rfl rfl) ?_
  refine AOps.step rfl rfl rfl (AOp.assignD rfl rfl) ?_
  refine AOps.step rfl rfl rfl (AOp.assignD rfl rfl) ?_
  refine AOps.nil ?_
  refine AWP.seq ?_
  refine AWP.block ?_
  refine AWP.loop (G := Nat × Nat) (fun g => Env.of [(7, .d (.v (.int .i64 (g.1 : Int)))), (8, .d (.v (.int .i64 (g.2 : Int)))), (6, .d (.v (.int .i64 (l.length : Int)))), (0, .d (.sl (l.map intD))), (1, .d (.v (.int .i64 x)))]) (fun g => []) (fun g => g.1 ≤ g.2 ∧ g.2 ≤ l.length ∧ posI l x = bsr (ltI l x) g.1 g.2) (fun g => g.2 - g.1) (0, l.length) ⟨Nat.zero_le _, Nat.le_refl _, rfl⟩ (Sub.less ⟨(SLe.i64 rfl), (SLe.i64 (by simp)), (SLe.i64 (by simp)), SLe.refl _, SLe.refl _, trivial⟩ (fun _ h => h)) ?_
  rintro ⟨i, j⟩ ⟨hij, hjl, hb⟩
  dsimp only at hij hjl hb ⊢
  refine AWP.seq ?_
  refine AWP.seq ?_
  refine AWP.region ?_
  refine AOps.step rfl rfl rfl (AOp.moveD rfl rfl) ?_
  refine AOps.step rfl rfl rfl (AOp.moveD rfl rfl) ?_
  refine AOps.step rfl rfl rfl (AOp.lss rfl rfl rfl) ?_
  refine AOps.nil ?_
  refine AWP.cond rfl (fun h1 => ?_) (fun h1 => ?_)
  · replace h1 := of_decide_eq_true h1
    have hlt : i < j := by omega
    refine AWP.skip ?_
    refine AWP.block ?_
    refine AWP.seq ?_
    refine AWP.region ?_
    refine AOps.step rfl rfl rfl (AOp.moveD rfl rfl) ?_
    refine AOps.step rfl rfl rfl (AOp.moveD rfl rfl) ?_
    refine AOps.step rfl rfl rfl (AOp.add64 rfl rfl rfl (by omega) (by omega)) ?_
    refine AOps.step rfl rfl rfl (AOp.convSame rfl (by kernel_rfl) rfl (wrapU64 (by omega) (by omega))) ?_
    refine AOps.step rfl rfl rfl (AOp.half rfl rfl rfl) ?_
    refine AOps.step rfl rfl rfl (AOp.convSame rfl (by kernel_rfl) rfl (w64 (by omega) (by omega))) ?_
    refine AOps.step rfl rfl rfl (AOp.assignD rfl rfl) ?_
    refine AOps.nil ?_
    refine AWP.seq ?_
    refine AWP.region ?_
    refine AOps.step rfl rfl rfl (AOp.moveD rfl rfl) ?_
    refine AOps.step rfl rfl rfl (AOp.moveD rfl rfl) ?_
    refine AOps.step rfl rfl rfl (AOp.indexAddr rfl et_63 rfl rfl ((i + j) / 2) (by omega) (at_list (by omega)) rfl) ?_
    refine AOps.step rfl rfl rfl (AOp.load rfl sc_3 rfl) ?_
    refine AOps.step rfl rfl rfl (AOp.moveD rfl rfl) ?_
    refine AOps.step rfl rfl rfl (AOp.call rfl (.cons (ArgOk.rfl' rfl) (.cons (ArgOk.rfl' rfl) .nil)) (c_lessInt _ _)) ?_
    refine AOps.nil ?_
    refine AWP.cond rfl (fun h2 => ?_) (fun h2 => ?_)
    · replace h2 := of_decide_eq_true h2
      have HB := bsr_up hlt (ltI_t (by omega) h2)
      refine AWP.region ?_
      refine AOps.step rfl rfl rfl (AOp.moveD rfl rfl) ?_
      refine AOps.step rfl rfl rfl (AOp.add64 rfl rfl rfl (by omega) (by omega)) ?_
      refine AOps.step rfl rfl rfl (AOp.assignD rfl rfl) ?_
      refine AOps.nil ?_
      refine ⟨((i + j) / 2 + 1, j), ⟨by dsimp only; omega, by dsimp only; omega, by dsimp only; rw [hb]; exact HB⟩, (by dsimp only; omega), Sub.less ⟨(SLe.i64 (by dsimp only; omega)), (SLe.refl _), SLe.refl _, SLe.refl _, SLe.refl _, trivial⟩ (fun _ h => h)⟩
    replace h2 := of_decide_eq_false h2
    have HB := bsr_dn hlt (ltI_f (by omega) h2)
    refine AWP.region ?_
    refine AOps.step rfl rfl rfl (AOp.moveD rfl rfl) ?_
    refine AOps.step rfl rfl rfl (AOp.assignD rfl rfl) ?_
    refine AOps.nil ?_
    refine ⟨(i, (i + j) / 2), ⟨by dsimp only; omega, by dsimp only; omega, by dsimp only; rw [hb]; exact HB⟩, (by dsimp only; omega), Sub.less ⟨(SLe.refl _), (SLe.i64 (by dsimp only; omega)), SLe.refl _, SLe.refl _, SLe.refl _, trivial⟩ (fun _ h => h)⟩
  replace h1 := of_decide_eq_false h1
  rw [bsr_end (by omega)] at hb
  refine AWP.exit ?_
  refine AWP.seq ?_
  refine AWP.region ?_
  refine AOps.step rfl rfl rfl (AOp.moveD rfl rfl) ?_
  refine AOps.step rfl rfl rfl (AOp.moveD rfl rfl) ?_
  refine AOps.step rfl rfl rfl (AOp.moveD rfl rfl) ?_
  refine AOps.step rfl rfl rfl (AOp.lss rfl rfl rfl) ?_
  refine AOps.step rfl rfl rfl (AOp.moveD rfl rfl) ?_
  refine AOps.split 35 rfl (fun g3 => ?_) (fun g3 => ?_)
  · replace g3 := of_decide_eq_true g3
    have hil : i < l.length := by omega
    refine AOps.step ⟨35, rfl, .inl ⟨_, rfl, rfl⟩⟩ rfl rfl (AOp.moveD rfl rfl) ?_
    refine AOps.step ⟨35, rfl, .inl ⟨_, rfl, rfl⟩⟩ rfl rfl (AOp.moveD rfl rfl) ?_
    refine AOps.step ⟨35, rfl, .inl ⟨_, rfl, rfl⟩⟩ rfl rfl (AOp.indexAddr rfl et_63 rfl rfl i rfl (at_list hil) rfl) ?_
    refine AOps.step ⟨35, rfl, .inl ⟨_, rfl, rfl⟩⟩ rfl rfl (AOp.load rfl sc_3 rfl) ?_
    refine AOps.step ⟨35, rfl, .inl ⟨_, rfl, rfl⟩⟩ rfl rfl (AOp.moveD rfl rfl) ?_
    refine AOps.step ⟨35, rfl, .inl ⟨_, rfl, rfl⟩⟩ rfl rfl (AOp.eql rfl rfl rfl) ?_
    refine AOps.step ⟨35, rfl, .inl ⟨_, rfl, rfl⟩⟩ rfl rfl (AOp.moveD rfl rfl) ?_
    refine AOps.split 42 rfl (fun g4 => ?_) (fun g4 => ?_)
    · replace g4 := of_decide_eq_true g4
      have HX : hasI l x = true := hasI_t hil hb g4
      refine AOps.pass ⟨42, rfl, .inl ⟨_, rfl, rfl⟩⟩ rfl rfl ?_
      refine AOps.pass ⟨42, rfl, .inl ⟨_, rfl, rfl⟩⟩ rfl rfl ?_
      refine AOps.pass ⟨42, rfl, .inl ⟨_, rfl, rfl⟩⟩ rfl rfl ?_
      refine AOps.pass ⟨42, rfl, .inl ⟨_, rfl, rfl⟩⟩ rfl rfl ?_
      refine AOps.pass ⟨42, rfl, .inl ⟨_, rfl, rfl⟩⟩ rfl rfl ?_
      refine AOps.pass ⟨42, rfl, .inl ⟨_, rfl, rfl⟩⟩ rfl rfl ?_
      refine AOps.pass ⟨48, rfl, .inr ⟨rfl, rfl⟩⟩ rfl rfl ?_
      refine AOps.pass ⟨48, rfl, .inr ⟨rfl, rfl⟩⟩ rfl rfl ?_
      refine AOps.pass ⟨42, rfl, .inl ⟨_, rfl, rfl⟩⟩ rfl rfl ?_
      refine AOps.step ⟨35, rfl, .inl ⟨_, rfl, rfl⟩⟩ rfl rfl (AOp.pickT rfl rfl rfl) ?_
      refine AOps.step rfl rfl rfl (AOp.pickT rfl rfl rfl) ?_
      refine AOps.step rfl rfl rfl (AOp.assignD rfl rfl) ?_
      refine AOps.step rfl rfl rfl (AOp.assignD rfl rfl) ?_
      refine AOps.nil ?_
      refine AWP.ret ?_
      refine ⟨RetD.eq rfl ?_, RetD.eq rfl ?_, trivial⟩
      all_goals (first | rfl | rw [hb] | rw [HX] | simp [hb])
    replace g4 := of_decide_eq_false g4
    have HX : hasI l x = false := hasI_f hil hb g4
    refine AOps.step ⟨42, rfl, .inl ⟨_, rfl, rfl⟩⟩ rfl rfl (AOp.moveD rfl rfl) ?_
    refine AOps.step ⟨42, rfl, .inl ⟨_, rfl, rfl⟩⟩ rfl rfl (AOp.moveD rfl rfl) ?_
    refine AOps.step ⟨42, rfl, .inl ⟨_, rfl, rfl⟩⟩ rfl rfl (AOp.indexAddr rfl et_63 rfl rfl i rfl (at_list hil) rfl) ?_
    refine AOps.step ⟨42, rfl, .inl ⟨_, rfl, rfl⟩⟩ rfl rfl (AOp.load rfl sc_3 rfl) ?_
    refine AOps.step ⟨42, rfl, .inl ⟨_, rfl, rfl⟩⟩ rfl rfl (AOp.call rfl (.cons (ArgOk.rfl' rfl) .nil) (c_isNaN1 _)) ?_
    refine AOps.step ⟨42, rfl, .inl ⟨_, rfl, rfl⟩⟩ rfl rfl (AOp.moveD rfl rfl) ?_
    refine AOps.pass ⟨48, rfl, .inl ⟨_, rfl, rfl⟩⟩ rfl rfl ?_
    refine AOps.pass ⟨48, rfl, .inl ⟨_, rfl, rfl⟩⟩ rfl rfl ?_
    refine AOps.step ⟨42, rfl, .inl ⟨_, rfl, rfl⟩⟩ rfl rfl (AOp.pickF rfl rfl rfl) ?_
    refine AOps.step ⟨35, rfl, .inl ⟨_, rfl, rfl⟩⟩ rfl rfl (AOp.pickF rfl rfl rfl) ?_
    refine AOps.step rfl rfl rfl (AOp.pickT rfl rfl rfl) ?_
    refine AOps.step rfl rfl rfl (AOp.assignD rfl rfl) ?_
    refine AOps.step rfl rfl rfl (AOp.assignD rfl rfl) ?_
    refine AOps.nil ?_
    refine AWP.ret ?_
    refine ⟨RetD.eq rfl ?_, RetD.eq rfl ?_, trivial⟩
    all_goals (first | rfl | rw [hb] | rw [HX] | simp [hb])
  replace g3 := of_decide_eq_false g3
  have HX : hasI l x = false := hasI_e (by omega) hb
  refine AOps.pass ⟨35, rfl, .inl ⟨_, rfl, rfl⟩⟩ rfl rfl ?_
  refine AOps.pass ⟨35, rfl, .inl ⟨_, rfl, rfl⟩⟩ rfl rfl ?_
  refine AOps.pass ⟨35, rfl, .inl ⟨_, rfl, rfl⟩⟩ rfl rfl ?_
  refine AOps.pass ⟨35, rfl, .inl ⟨_, rfl, rfl⟩⟩ rfl rfl ?_
  refine AOps.pass ⟨35, rfl, .inl ⟨_, rfl, rfl⟩⟩ rfl rfl ?_
  refine AOps.pass ⟨35, rfl, .inl ⟨_, rfl, rfl⟩⟩ rfl rfl ?_
  refine AOps.pass ⟨35, rfl, .inl ⟨_, rfl, rfl⟩⟩ rfl rfl ?_
  refine AOps.pass ⟨42, rfl, .inr ⟨rfl, rfl⟩⟩ rfl rfl ?_
  refine AOps.pass ⟨42, rfl, .inr ⟨rfl, rfl⟩⟩ rfl rfl ?_
  refine AOps.pass ⟨42, rfl, .inr ⟨rfl, rfl⟩⟩ rfl rfl ?_
  refine AOps.pass ⟨42, rfl, .inr ⟨rfl, rfl⟩⟩ rfl rfl ?_
  refine AOps.pass ⟨42, rfl, .inr ⟨rfl, rfl⟩⟩ rfl rfl ?_
  refine AOps.pass ⟨42, rfl, .inr ⟨rfl, rfl⟩⟩ rfl rfl ?_
  refine AOps.pass ⟨48, rfl, .inr ⟨rfl, rfl⟩⟩ rfl rfl ?_
  refine AOps.pass ⟨48, rfl, .inr ⟨rfl, rfl⟩⟩ rfl rfl ?_
  refine AOps.pass ⟨42, rfl, .inr ⟨rfl, rfl⟩⟩ rfl rfl ?_
  refine AOps.pass ⟨35, rfl, .inl ⟨_, rfl, rfl⟩⟩ rfl rfl ?_
  refine AOps.step rfl rfl rfl (AOp.pickF rfl rfl rfl) ?_
  refine AOps.step rfl rfl rfl (AOp.assignD rfl rfl) ?_
  refine AOps.step rfl rfl rfl (AOp.assignD rfl rfl) ?_
  refine AOps.nil ?_
  refine AWP.ret ?_
  refine ⟨RetD.eq rfl ?_, RetD.eq rfl ?_, trivial⟩
  all_goals (first | rfl | rw [hb] | rw [HX] | simp [hb])

end Go.Proofs.YtieccphckobhjaaGreatDoor


namespace Go.Proofs.YtieccphckobhjaaGreatDoor
open Go.RowKit
set_option linter.unusedVariables false

/-! Types. -/
namespace TyP2
theorem ag_65 : AggT Tryz.prog 65 7 := .of (by kernel_rfl)
theorem bu_65 : StructT Tryz.prog 65 (fun i => (#[(0, 1), (1, 1), (2, 1), (3, 1), (4, 1), (5, 1), (6, 1)] : Array (Nat × Nat))[i]?) [(.string ⟨#[]⟩), (.string ⟨#[]⟩), (.string ⟨#[]⟩), (.int .i64 0), (.int .i64 0), (.int .i64 0), (.slice none 0 0)] := .of (by kernel_rfl) (by kernel_rfl) (by decide)
theorem et_24 : ElemTy Tryz.prog 24 65 7 96 (.agg #[(.string ⟨#[]⟩), (.string ⟨#[]⟩), (.string ⟨#[]⟩), (.int .i64 0), (.int .i64 0), (.int .i64 0), (.slice none 0 0)]) := ⟨by kernel_rfl, by kernel_rfl, by kernel_rfl, by decide⟩
theorem fo_26_2 : fieldOff Tryz.prog 26 2 = some 2 := by kernel_rfl
theorem sc_24 : Scal Tryz.prog 24 := .of (by kernel_rfl)
end TyP2
open TyP2


def zC : Cpy := ⟨⟨#[]⟩, ⟨#[]⟩, ⟨#[]⟩, 0, 0, 0, []⟩
def keyC (it ca : ByteArray) : Cpy := { zC with item := it, carrier := ca }
def ltC (l : List Cpy) (t : Cpy) (k : Nat) : Bool := decide (cpyCmp (l.getD k zC) t < 0)
def posC (l : List Cpy) (t : Cpy) : Nat := bsr (ltC l t) 0 l.length
def hasC (l : List Cpy) (t : Cpy) : Bool := decide (posC l t < l.length) && decide (cpyCmp (l.getD (posC l t) zC) t = 0)
theorem ltC_t {l : List Cpy} {t : Cpy} {k : Nat} (hk : k < l.length) (h : cpyCmp l[k] t < 0) : ltC l t k = true := by unfold ltC; rw [List.getD_eq_getElem?_getD, List.getElem?_eq_getElem hk]; simpa using h
theorem ltC_f {l : List Cpy} {t : Cpy} {k : Nat} (hk : k < l.length) (h : ¬ cpyCmp l[k] t < 0) : ltC l t k = false := by unfold ltC; rw [List.getD_eq_getElem?_getD, List.getElem?_eq_getElem hk]; simpa using h
theorem hasC_eq {l : List Cpy} {t : Cpy} {k : Nat} (hk : k < l.length) (hp : posC l t = k) : hasC l t = decide (cpyCmp l[k] t = 0) := by unfold hasC; rw [hp, List.getD_eq_getElem?_getD, List.getElem?_eq_getElem hk]; simp [hk]
theorem Le.aggLast (ds : List D) : Le (.agg (ds ++ [.v (.slice none 0 0)])) (.agg (ds ++ [.sl []])) := fun F w x hx => by
  cases hx with
  | agg cs _ hl hone h =>
    refine .agg cs _ (by simpa using hl) hone fun i h1 h2 => ?_
    have h3 := h i h1 (by simpa using h2)
    by_cases hi : i < ds.length
    · rw [List.getElem_append_left hi] at h3 ⊢
      exact h3
    · have : i = ds.length := by simp at h2; omega
      subst this
      rw [List.getElem_append_right (Nat.le_refl _)] at h3 ⊢
      simp only [Nat.sub_self, List.getElem_cons_zero] at h3 ⊢
      exact Le.nil _ _ _ h3
theorem keyLe (it ca : ByteArray) : Le (.agg [.v (.string it), .v (.string ca), .v (.string ⟨#[]⟩), .v (.int .i64 0), .v (.int .i64 0), .v (.int .i64 0), .v (.slice none 0 0)]) (.agg (keyC it ca).ds) := Le.aggLast [.v (.string it), .v (.string ca), .v (.string ⟨#[]⟩), .v (.int .i64 0), .v (.int .i64 0), .v (.int .i64 0)]
theorem hasC_t {l : List Cpy} {t : Cpy} {k : Nat} (hk : k < l.length) (hp : posC l t = k) (h : cpyCmp l[k] t = 0) : hasC l t = true := by unfold hasC; rw [hp, List.getD_eq_getElem?_getD, List.getElem?_eq_getElem hk]; simp [hk, h]
theorem hasC_e {l : List Cpy} {t : Cpy} {k : Nat} (hk : ¬ k < l.length) (hp : posC l t = k) : hasC l t = false := by unfold hasC; rw [hp]; simp [hk]


set_option maxRecDepth 100000 in
set_option maxHeartbeats 1000000 in
theorem c_bsC (l : List Cpy) (x : Cpy) (hl : l.length ≤ 100000) : ACall Tryz.prog 79 [.sl (l.map Cpy.ds), .agg x.ds, .clo (.func 80) []] (.tup [.v (.int .i64 (posC l x : Int)), .v (.bool (hasC l x))]) := by
  refine acall_of (n := 49) (ds' := [.v (.int .i64 (posC l x : Int)), .v (.bool (hasC l x))]) Tryz.func79 rfl (by kernel_rfl) rfl [6, 7] rfl rfl ?_
  intro B w0 F0 fr
  refine AWP.seq ?_
  refine AWP.region ?_
  refine AOps.step rfl rfl rfl (AOp.box rfl rfl rfl) ?_
  refine AOps.step rfl rfl rfl (AOp.assignD rfl rfl) ?_
  refine AOps.step rfl rfl rfl (AOp.assignD rfl rfl) ?_
  refine AOps.nil ?_
  refine AWP.seq ?_
  refine AWP.region ?_
  refine AOps.step rfl rfl rfl (AOp.moveD rfl rfl) ?_
  refine AOps.step rfl rfl rfl (AOp.lenSl rfl et_24.ht rfl) ?_
  refine AOps.step rfl rfl rfl (AOp.assignD rfl rfl) ?_
  refine AOps.nil ?_
  refine AWP.seq ?_
  refine AWP.region ?_
  refine AOps.step rfl rfl rfl (AOp.moveD rfl rfl) ?_
  refine AOps.step rfl rfl rfl (AOp.assignD rfl rfl) ?_
  refine AOps.step rfl rfl rfl (AOp.assignD rfl rfl) ?_
  refine AOps.nil ?_
  refine AWP.seq ?_
  refine AWP.block ?_
  refine AWP.loop (G := Nat × Nat) (fun g => Env.of [(9, .d (.v (.int .i64 (g.1 : Int)))), (10, .d (.v (.int .i64 (g.2 : Int)))), (8, .d (.v (.int .i64 (l.length : Int)))), (0, .d (.sl (l.map Cpy.ds))), (4, .d (.fp x.ds)), (2, .d (.clo (.func 80) []))]) (fun g => []) (fun g => g.1 ≤ g.2 ∧ g.2 ≤ l.length ∧ posC l x = bsr (ltC l x) g.1 g.2) (fun g => g.2 - g.1) (0, l.length) ⟨Nat.zero_le _, Nat.le_refl _, rfl⟩ (Sub.less ⟨(SLe.i64 rfl), (SLe.i64 (by simp)), (SLe.i64 (by simp)), SLe.refl _, SLe.refl _, SLe.refl _, trivial⟩ (fun _ h => h)) ?_
  rintro ⟨i, j⟩ ⟨hij, hjl, hb⟩
  dsimp only at hij hjl hb ⊢
  refine AWP.seq ?_
  refine AWP.seq ?_
  refine AWP.region ?_
  refine AOps.step rfl rfl rfl (AOp.moveD rfl rfl) ?_
  refine AOps.step rfl rfl rfl (AOp.moveD rfl rfl) ?_
  refine AOps.step rfl rfl rfl (AOp.lss rfl rfl rfl) ?_
  refine AOps.nil ?_
  refine AWP.cond rfl (fun h1 => ?_) (fun h1 => ?_)
  · replace h1 := of_decide_eq_true h1
    have hlt : i < j := by omega
    refine AWP.skip ?_
    refine AWP.block ?_
    refine AWP.seq ?_
    refine AWP.region ?_
    refine AOps.step rfl rfl rfl (AOp.moveD rfl rfl) ?_
    refine AOps.step rfl rfl rfl (AOp.moveD rfl rfl) ?_
    refine AOps.step rfl rfl rfl (AOp.add64 rfl rfl rfl (by omega) (by omega)) ?_
    refine AOps.step rfl rfl rfl (AOp.convSame rfl (by kernel_rfl) rfl (wrapU64 (by omega) (by omega))) ?_
    refine AOps.step rfl rfl rfl (AOp.half rfl rfl rfl) ?_
    refine AOps.step rfl rfl rfl (AOp.convSame rfl (by kernel_rfl) rfl (w64 (by omega) (by omega))) ?_
    refine AOps.step rfl rfl rfl (AOp.assignD rfl rfl) ?_
    refine AOps.nil ?_
    refine AWP.seq ?_
    refine AWP.draw (by kernel_rfl) (by kernel_rfl) ?_
    refine DRun.step rfl rfl rfl (AOp.moveD rfl rfl) ?_
    refine DRun.step rfl rfl rfl (AOp.moveD rfl rfl) ?_
    refine DRun.step rfl rfl rfl (AOp.moveD rfl rfl) ?_
    refine DRun.step rfl rfl rfl (AOp.indexAddr rfl et_24 rfl rfl ((i + j) / 2) (by omega) (at_list (by omega)) rfl) ?_
    refine DRun.step rfl rfl rfl (AOp.loadAgg rfl ag_65 rfl rfl) ?_
    refine DRun.step rfl rfl rfl (AOp.loadAgg rfl ag_65 rfl rfl) ?_
    refine DRun.step rfl rfl rfl (AOp.callClo rfl rfl (.cons (ArgOk.rfl' rfl) (.cons (ArgOk.rfl' rfl) .nil)) (c_cmpCopies l[(i + j) / 2] x)) ?_
    refine DRun.step rfl rfl rfl (AOp.lss rfl rfl rfl) ?_
    refine DRun.nil ?_
    refine AWP.cond rfl (fun h2 => ?_) (fun h2 => ?_)
    · replace h2 := of_decide_eq_true h2
      have HB := bsr_up hlt (ltC_t (by omega) h2)
      refine AWP.region ?_
      refine AOps.step rfl rfl rfl (AOp.moveD rfl rfl) ?_
      refine AOps.step rfl rfl rfl (AOp.add64 rfl rfl rfl (by omega) (by omega)) ?_
      refine AOps.step rfl rfl rfl (AOp.assignD rfl rfl) ?_
      refine AOps.nil ?_
      refine ⟨((i + j) / 2 + 1, j), ⟨by dsimp only; omega, by dsimp only; omega, by dsimp only; rw [hb]; exact HB⟩, (by dsimp only; omega), Sub.less ⟨(SLe.i64 (by dsimp only; omega)), (SLe.refl _), SLe.refl _, SLe.refl _, SLe.refl _, SLe.refl _, trivial⟩ (fun _ h => h)⟩
    replace h2 := of_decide_eq_false h2
    have HB := bsr_dn hlt (ltC_f (by omega) h2)
    refine AWP.region ?_
    refine AOps.step rfl rfl rfl (AOp.moveD rfl rfl) ?_
    refine AOps.step rfl rfl rfl (AOp.assignD rfl rfl) ?_
    refine AOps.nil ?_
    refine ⟨(i, (i + j) / 2), ⟨by dsimp only; omega, by dsimp only; omega, by dsimp only; rw [hb]; exact HB⟩, (by dsimp only; omega), Sub.less ⟨(SLe.refl _), (SLe.i64 (by dsimp only; omega)), SLe.refl _, SLe.refl _, SLe.refl _, SLe.refl _, trivial⟩ (fun _ h => h)⟩
  replace h1 := of_decide_eq_false h1
  rw [bsr_end (by omega)] at hb
  refine AWP.exit ?_
  refine AWP.seq ?_
  refine AWP.draw (by kernel_rfl) (by kernel_rfl) ?_
  refine DRun.step rfl rfl rfl (AOp.moveD rfl rfl) ?_
  refine DRun.step rfl rfl rfl (AOp.moveD rfl rfl) ?_
  refine DRun.step rfl rfl rfl (AOp.moveD rfl rfl) ?_
  refine DRun.step rfl rfl rfl (AOp.lss rfl rfl rfl) ?_
  refine DRun.step rfl rfl rfl (AOp.moveD rfl rfl) ?_
  refine DRun.split 39 rfl (fun g3 => ?_) (fun g3 => ?_)
  · replace g3 := of_decide_eq_true g3
    have hil : i < l.length := by omega
    refine DRun.step ⟨39, rfl, .inl ⟨_, rfl, rfl⟩⟩ rfl rfl (AOp.moveD rfl rfl) ?_
    refine DRun.step ⟨39, rfl, .inl ⟨_, rfl, rfl⟩⟩ rfl rfl (AOp.moveD rfl rfl) ?_
    refine DRun.step ⟨39, rfl, .inl ⟨_, rfl, rfl⟩⟩ rfl rfl (AOp.moveD rfl rfl) ?_
    refine DRun.step ⟨39, rfl, .inl ⟨_, rfl, rfl⟩⟩ rfl rfl (AOp.indexAddr rfl et_24 rfl rfl i rfl (at_list hil) rfl) ?_
    refine DRun.step ⟨39, rfl, .inl ⟨_, rfl, rfl⟩⟩ rfl rfl (AOp.loadAgg rfl ag_65 rfl rfl) ?_
    refine DRun.step ⟨39, rfl, .inl ⟨_, rfl, rfl⟩⟩ rfl rfl (AOp.loadAgg rfl ag_65 rfl rfl) ?_
    refine DRun.step ⟨39, rfl, .inl ⟨_, rfl, rfl⟩⟩ rfl rfl (AOp.callClo rfl rfl (.cons (ArgOk.rfl' rfl) (.cons (ArgOk.rfl' rfl) .nil)) (c_cmpCopies l[i] x)) ?_
    refine DRun.step ⟨39, rfl, .inl ⟨_, rfl, rfl⟩⟩ rfl rfl (AOp.eql rfl rfl rfl) ?_
    refine DRun.step rfl rfl rfl (AOp.pickT rfl rfl rfl) ?_
    refine DRun.step rfl rfl rfl (AOp.assignD rfl rfl) ?_
    refine DRun.step rfl rfl rfl (AOp.assignD rfl rfl) ?_
    refine DRun.nil ?_
    refine AWP.ret ?_
    refine ⟨RetD.eq rfl ?_, RetD.eq rfl ?_, trivial⟩
    all_goals (first | rfl | rw [hb] | rw [HX] | rw [hasC_eq hil hb])
  replace g3 := of_decide_eq_false g3
  have HX : hasC l x = false := hasC_e (by omega) hb
  refine DRun.pass ⟨39, rfl, .inl ⟨_, rfl, rfl⟩⟩ rfl rfl ?_
  refine DRun.pass ⟨39, rfl, .inl ⟨_, rfl, rfl⟩⟩ rfl rfl ?_
  refine DRun.pass ⟨39, rfl, .inl ⟨_, rfl, rfl⟩⟩ rfl rfl ?_
  refine DRun.pass ⟨39, rfl, .inl ⟨_, rfl, rfl⟩⟩ rfl rfl ?_
  refine DRun.pass ⟨39, rfl, .inl ⟨_, rfl, rfl⟩⟩ rfl rfl ?_
  refine DRun.pass ⟨39, rfl, .inl ⟨_, rfl, rfl⟩⟩ rfl rfl ?_
  refine DRun.pass ⟨39, rfl, .inl ⟨_, rfl, rfl⟩⟩ rfl rfl ?_
  refine DRun.pass ⟨39, rfl, .inl ⟨_, rfl, rfl⟩⟩ rfl rfl ?_
  refine DRun.step rfl rfl rfl (AOp.pickF rfl rfl rfl) ?_
  refine DRun.step rfl rfl rfl (AOp.assignD rfl rfl) ?_
  refine DRun.step rfl rfl rfl (AOp.assignD rfl rfl) ?_
  refine DRun.nil ?_
  refine AWP.ret ?_
  refine ⟨RetD.eq rfl ?_, RetD.eq rfl ?_, trivial⟩
  all_goals (first | rfl | rw [hb] | rw [HX] | rw [hasC_eq hil hb])

set_option maxRecDepth 100000 in
set_option maxHeartbeats 1000000 in
theorem c_copyAt (v : Vlt) (it ca : ByteArray) (hl : v.copies.length ≤ 100000) : ACall Tryz.prog 25 [.agg v.ds, .v (.string it), .v (.string ca)] (.tup [.v (.int .i64 (posC v.copies (keyC it ca) : Int)), .v (.bool (hasC v.copies (keyC it ca)))]) := by
  refine acall_of (n := 16) (ds' := [.v (.int .i64 (posC v.copies (keyC it ca) : Int)), .v (.bool (hasC v.copies (keyC it ca)))]) Tryz.func25 rfl (by kernel_rfl) rfl [6, 7] rfl rfl ?_
  intro B w0 F0 fr
  refine AWP.seq ?_
  refine AWP.region ?_
  refine AOps.step rfl rfl rfl (AOp.box rfl rfl rfl) ?_
  refine AOps.step rfl rfl rfl (AOp.assignD rfl rfl) ?_
  refine AOps.step rfl rfl rfl (AOp.assignD rfl rfl) ?_
  refine AOps.nil ?_
  refine AWP.seq ?_
  refine AWP.region ?_
  refine AOps.step rfl rfl rfl (AOp.fieldAddr rfl fo_26_2 rfl) ?_
  refine AOps.step rfl rfl rfl (AOp.load rfl sc_24 rfl) ?_
  refine AOps.step rfl rfl rfl (AOp.moveD rfl rfl) ?_
  refine AOps.step rfl rfl rfl (AOp.moveD rfl rfl) ?_
  refine AOps.step rfl rfl rfl (AOp.build rfl bu_65 (.cons rfl rfl (.cons rfl rfl .nil)) rfl) ?_
  refine AOps.step rfl rfl rfl (AOp.call rfl (.cons (ArgOk.rfl' rfl) (.cons ⟨_, rfl, keyLe it ca⟩ (.cons (ArgOk.fn rfl) .nil))) (c_bsC v.copies (keyC it ca) hl)) ?_
  refine AOps.step rfl rfl rfl (AOp.extract rfl rfl rfl) ?_
  refine AOps.step rfl rfl rfl (AOp.extract rfl rfl rfl) ?_
  refine AOps.step rfl rfl rfl (AOp.assignD rfl rfl) ?_
  refine AOps.step rfl rfl rfl (AOp.assignD rfl rfl) ?_
  refine AOps.nil ?_
  refine AWP.ret ?_
  refine ⟨RetD.eq rfl ?_, RetD.eq rfl ?_, trivial⟩
  all_goals (rfl)

end Go.Proofs.YtieccphckobhjaaGreatDoor


namespace Go.Proofs.YtieccphckobhjaaGreatDoor
open Go.RowKit
set_option linter.unusedVariables false

/-! Types. -/
namespace TyP3
theorem ag_65 : AggT Tryz.prog 65 7 := .of (by kernel_rfl)
theorem et_24 : ElemTy Tryz.prog 24 65 7 96 (.agg #[(.string ⟨#[]⟩), (.string ⟨#[]⟩), (.string ⟨#[]⟩), (.int .i64 0), (.int .i64 0), (.int .i64 0), (.slice none 0 0)]) := ⟨by kernel_rfl, by kernel_rfl, by kernel_rfl, by decide⟩
theorem fo_65_0 : fieldOff Tryz.prog 65 0 = some 0 := by kernel_rfl
theorem fo_65_1 : fieldOff Tryz.prog 65 1 = some 1 := by kernel_rfl
theorem fo_65_6 : fieldOff Tryz.prog 65 6 = some 6 := by kernel_rfl
theorem sc_135 : Scal Tryz.prog 135 := .of (by kernel_rfl)
theorem sc_3 : Scal Tryz.prog 3 := .of (by kernel_rfl)
theorem sc_63 : Scal Tryz.prog 63 := .of (by kernel_rfl)
theorem sc_9 : Scal Tryz.prog 9 := .of (by kernel_rfl)
end TyP3
open TyP3


theorem idx_any {α : Type} {p : α → Bool} {l : List α} : decide (idxBy p l ≥ 0) = l.any p := by
  cases h : l.any p with
  | true => unfold idxBy; rw [if_pos h]; simp
  | false => unfold idxBy; rw [if_neg (by rw [h]; simp)]; decide
/-- Is the block right in another copy of the same item? -/
def whole1 (c : Cpy) (n : Int) (x : Cpy) : Bool := decide (x.item = c.item) && (decide (x.carrier ≠ c.carrier) && !decide (n ∈ x.bad))


set_option maxRecDepth 100000 in
set_option maxHeartbeats 1000000 in
theorem c_ixC (l : List Cpy) (p : Cpy → Bool) (f : Nat) (caps : List D) (hp : ∀ x : Cpy, ACall Tryz.prog f (.agg x.ds :: caps) (.v (.bool (p x)))) : ACall Tryz.prog 125 [.sl (l.map Cpy.ds), .clo (.func f) caps] (.v (.int .i64 (idxBy p l))) := by
  refine acall_of (n := 19) (ds' := [.v (.int .i64 (idxBy p l))]) Tryz.func125 rfl (by kernel_rfl) rfl [4] rfl rfl ?_
  intro B w0 F0 fr
  refine AWP.bound 0 rfl (fun hbd0 => ?_)
  rw [List.length_map] at hbd0
  refine AWP.seq ?_
  refine AWP.region ?_
  refine AOps.step rfl rfl rfl (AOp.assignD rfl rfl) ?_
  refine AOps.nil ?_
  refine AWP.seq ?_
  refine AWP.seq ?_
  refine AWP.region ?_
  refine AOps.step rfl rfl rfl (AOp.moveD rfl rfl) ?_
  refine AOps.step rfl rfl rfl (AOp.lenSl rfl et_24.ht rfl) ?_
  refine AOps.step rfl rfl rfl (AOp.moveD rfl rfl) ?_
  refine AOps.nil ?_
  refine AWP.block ?_
  refine AWP.loop (G := Nat) (fun k => Env.of [(8, .d (.v (.int .i64 (k : Int)))), (6, .d (.sl (l.map Cpy.ds))), (7, .d (.v (.int .i64 ((l.map Cpy.ds).length : Int)))), (0, .d (.sl (l.map Cpy.ds))), (1, .d (.clo (.func f) caps))]) (fun k => []) (fun k => k ≤ l.length ∧ ∀ c ∈ l.take k, p c = false) (fun k => l.length - k) 0 ⟨Nat.zero_le _, fun c h => by simp at h⟩ (Sub.less ⟨(SLe.of_eq rfl), SLe.refl _, SLe.refl _, SLe.refl _, SLe.refl _, trivial⟩ (fun _ h => h)) ?_
  intro k hk
  refine AWP.seq ?_
  refine AWP.region ?_
  refine AOps.step rfl rfl rfl (AOp.lss rfl rfl rfl) ?_
  refine AOps.nil ?_
  refine AWP.seq ?_
  refine AWP.cond rfl (fun h1 => ?_) (fun h1 => ?_)
  · replace h1 := of_decide_eq_true h1
    rw [List.length_map] at h1
    have hlt : k < l.length := by omega
    refine AWP.skip ?_
    refine AWP.seq ?_
    refine AWP.block ?_
    refine AWP.seq ?_
    refine AWP.region ?_
    refine AOps.step rfl rfl rfl (AOp.moveD rfl rfl) ?_
    refine AOps.step rfl rfl rfl (AOp.assignD rfl rfl) ?_
    refine AOps.nil ?_
    refine AWP.seq ?_
    refine AWP.region ?_
    refine AOps.step rfl rfl rfl (AOp.moveD rfl rfl) ?_
    refine AOps.step rfl rfl rfl (AOp.moveD rfl rfl) ?_
    refine AOps.step rfl rfl rfl (AOp.moveD rfl rfl) ?_
    refine AOps.step rfl rfl rfl (AOp.indexAddr rfl et_24 rfl rfl k rfl (at_list hlt) rfl) ?_
    refine AOps.step rfl rfl rfl (AOp.loadAgg rfl ag_65 rfl rfl) ?_
    refine AOps.step rfl rfl rfl (AOp.callClo rfl rfl (.cons (ArgOk.rfl' rfl) .nil) (hp l[k])) ?_
    refine AOps.nil ?_
    refine AWP.cond rfl (fun h2 => ?_) (fun h2 => ?_)
    · skip
      rw [idxBy_yes hlt hk.2 h2]
      refine AWP.seq ?_
      refine AWP.region ?_
      refine AOps.step rfl rfl rfl (AOp.moveD rfl rfl) ?_
      refine AOps.step rfl rfl rfl (AOp.assignD rfl rfl) ?_
      refine AOps.nil ?_
      refine AWP.ret ?_
      refine ⟨RetD.eq rfl ?_, trivial⟩
      all_goals (rfl)
    have hT := take_false' hlt hk.2 h2
    refine AWP.skip ?_
    refine AWP.region ?_
    refine AOps.step rfl rfl rfl (AOp.add64 rfl rfl rfl (by omega) (by omega)) ?_
    refine AOps.step rfl rfl rfl (AOp.moveD rfl rfl) ?_
    refine AOps.nil ?_
    refine ⟨k + 1, ⟨by omega, hT⟩, (by dsimp only; omega), Sub.less ⟨(SLe.of_eq rfl), SLe.refl _, SLe.refl _, SLe.refl _, SLe.refl _, trivial⟩ (fun _ h => h)⟩
  replace h1 := of_decide_eq_false h1
  rw [List.length_map] at h1
  rw [idxBy_no (fun c hc => hk.2 c (by rw [show k = l.length by omega]; exact hc))]
  refine AWP.exit ?_
  refine AWP.seq ?_
  refine AWP.region ?_
  refine AOps.step rfl rfl rfl (AOp.assignD rfl rfl) ?_
  refine AOps.nil ?_
  refine AWP.ret ?_
  refine ⟨RetD.eq rfl ?_, trivial⟩
  all_goals (rfl)

set_option maxRecDepth 100000 in
set_option maxHeartbeats 1000000 in
theorem c_containsC (l : List Cpy) (p : Cpy → Bool) (f : Nat) (caps : List D) (hp : ∀ x : Cpy, ACall Tryz.prog f (.agg x.ds :: caps) (.v (.bool (p x)))) : ACall Tryz.prog 100 [.sl (l.map Cpy.ds), .clo (.func f) caps] (.v (.bool (l.any p))) := by
  refine acall_of (n := 9) (ds' := [.v (.bool (l.any p))]) Tryz.func100 rfl (by kernel_rfl) rfl [4] rfl rfl ?_
  intro B w0 F0 fr
  refine AWP.seq ?_
  refine AWP.region ?_
  refine AOps.step rfl rfl rfl (AOp.assignD rfl rfl) ?_
  refine AOps.nil ?_
  refine AWP.seq ?_
  refine AWP.region ?_
  refine AOps.step rfl rfl rfl (AOp.moveD rfl rfl) ?_
  refine AOps.step rfl rfl rfl (AOp.moveD rfl rfl) ?_
  refine AOps.step rfl rfl rfl (AOp.call rfl (.cons (ArgOk.rfl' rfl) (.cons (ArgOk.rfl' rfl) .nil)) (c_ixC l p f caps hp)) ?_
  refine AOps.step rfl rfl rfl (AOp.geq rfl rfl rfl) ?_
  refine AOps.step rfl rfl rfl (AOp.assignD rfl rfl) ?_
  refine AOps.nil ?_
  refine AWP.ret ?_
  refine ⟨RetD.eq rfl ?_, trivial⟩
  all_goals (rw [idx_any])

set_option maxRecDepth 100000 in
set_option maxHeartbeats 1000000 in
theorem c_checked1 (x c : Cpy) (n : Int) : ACall Tryz.prog 101 [.agg x.ds, .fp [.fp c.ds], .fp [.v (.int .i64 n)]] (.v (.bool (whole1 c n x))) := by
  refine acall_of (n := 28) (ds' := [.v (.bool (whole1 c n x))]) Tryz.func101 rfl (by kernel_rfl) rfl [4] rfl rfl ?_
  intro B w0 F0 fr
  refine AWP.seq ?_
  refine AWP.region ?_
  refine AOps.step rfl rfl rfl (AOp.box rfl rfl rfl) ?_
  refine AOps.step rfl rfl rfl (AOp.assignD rfl rfl) ?_
  refine AOps.nil ?_
  refine AWP.seq ?_
  refine AWP.draw (by kernel_rfl) (by kernel_rfl) ?_
  refine DRun.step rfl rfl rfl (AOp.fieldAddr rfl fo_65_0 rfl) ?_
  refine DRun.step rfl rfl rfl (AOp.load rfl sc_9 rfl) ?_
  refine DRun.step rfl rfl rfl (AOp.load rfl sc_135 rfl) ?_
  refine DRun.step rfl rfl rfl (AOp.nilCheck rfl rfl) ?_
  refine DRun.step rfl rfl rfl (AOp.fieldAddr rfl fo_65_0 rfl) ?_
  refine DRun.step rfl rfl rfl (AOp.load rfl sc_9 rfl) ?_
  refine DRun.step rfl rfl rfl (AOp.seql rfl rfl rfl) ?_
  refine DRun.step rfl rfl rfl (AOp.moveD rfl rfl) ?_
  refine DRun.split 12 rfl (fun g1 => ?_) (fun g1 => ?_)
  · replace g1 := of_decide_eq_true g1
    refine DRun.step ⟨12, rfl, .inl ⟨_, rfl, rfl⟩⟩ rfl rfl (AOp.fieldAddr rfl fo_65_1 rfl) ?_
    refine DRun.step ⟨12, rfl, .inl ⟨_, rfl, rfl⟩⟩ rfl rfl (AOp.load rfl sc_9 rfl) ?_
    refine DRun.step ⟨12, rfl, .inl ⟨_, rfl, rfl⟩⟩ rfl rfl (AOp.load rfl sc_135 rfl) ?_
    refine DRun.step ⟨12, rfl, .inl ⟨_, rfl, rfl⟩⟩ rfl rfl (AOp.nilCheck rfl rfl) ?_
    refine DRun.step ⟨12, rfl, .inl ⟨_, rfl, rfl⟩⟩ rfl rfl (AOp.fieldAddr rfl fo_65_1 rfl) ?_
    refine DRun.step ⟨12, rfl, .inl ⟨_, rfl, rfl⟩⟩ rfl rfl (AOp.load rfl sc_9 rfl) ?_
    refine DRun.step ⟨12, rfl, .inl ⟨_, rfl, rfl⟩⟩ rfl rfl (AOp.sneq rfl rfl rfl) ?_
    refine DRun.step rfl rfl rfl (AOp.pickT rfl rfl rfl) ?_
    refine DRun.step rfl rfl rfl (AOp.moveD rfl rfl) ?_
    refine DRun.split 21 rfl (fun g2 => ?_) (fun g2 => ?_)
    · replace g2 := of_decide_eq_true g2
      refine DRun.step ⟨21, rfl, .inl ⟨_, rfl, rfl⟩⟩ rfl rfl (AOp.fieldAddr rfl fo_65_6 rfl) ?_
      refine DRun.step ⟨21, rfl, .inl ⟨_, rfl, rfl⟩⟩ rfl rfl (AOp.load rfl sc_63 rfl) ?_
      refine DRun.step ⟨21, rfl, .inl ⟨_, rfl, rfl⟩⟩ rfl rfl (AOp.load rfl sc_3 rfl) ?_
      refine DRun.step ⟨21, rfl, .inl ⟨_, rfl, rfl⟩⟩ rfl rfl (AOp.call rfl (.cons (ArgOk.rfl' rfl) (.cons (ArgOk.rfl' rfl) .nil)) (c_containsInt _ _)) ?_
      refine DRun.step ⟨21, rfl, .inl ⟨_, rfl, rfl⟩⟩ rfl rfl (AOp.not rfl rfl) ?_
      refine DRun.step rfl rfl rfl (AOp.pickT rfl rfl rfl) ?_
      refine DRun.step rfl rfl rfl (AOp.assignD rfl rfl) ?_
      refine DRun.nil ?_
      refine AWP.ret ?_
      refine ⟨RetD.eq rfl ?_, trivial⟩
      all_goals (first | rfl | (unfold whole1; simp_all))
    replace g2 := of_decide_eq_false g2
    refine DRun.pass ⟨21, rfl, .inl ⟨_, rfl, rfl⟩⟩ rfl rfl ?_
    refine DRun.pass ⟨21, rfl, .inl ⟨_, rfl, rfl⟩⟩ rfl rfl ?_
    refine DRun.pass ⟨21, rfl, .inl ⟨_, rfl, rfl⟩⟩ rfl rfl ?_
    refine DRun.pass ⟨21, rfl, .inl ⟨_, rfl, rfl⟩⟩ rfl rfl ?_
    refine DRun.pass ⟨21, rfl, .inl ⟨_, rfl, rfl⟩⟩ rfl rfl ?_
    refine DRun.step rfl rfl rfl (AOp.pickF rfl rfl rfl) ?_
    refine DRun.step rfl rfl rfl (AOp.assignD rfl rfl) ?_
    refine DRun.nil ?_
    refine AWP.ret ?_
    refine ⟨RetD.eq rfl ?_, trivial⟩
    all_goals (first | rfl | (unfold whole1; simp_all))
  replace g1 := of_decide_eq_false g1
  refine DRun.pass ⟨12, rfl, .inl ⟨_, rfl, rfl⟩⟩ rfl rfl ?_
  refine DRun.pass ⟨12, rfl, .inl ⟨_, rfl, rfl⟩⟩ rfl rfl ?_
  refine DRun.pass ⟨12, rfl, .inl ⟨_, rfl, rfl⟩⟩ rfl rfl ?_
  refine DRun.pass ⟨12, rfl, .inl ⟨_, rfl, rfl⟩⟩ rfl rfl ?_
  refine DRun.pass ⟨12, rfl, .inl ⟨_, rfl, rfl⟩⟩ rfl rfl ?_
  refine DRun.pass ⟨12, rfl, .inl ⟨_, rfl, rfl⟩⟩ rfl rfl ?_
  refine DRun.pass ⟨12, rfl, .inl ⟨_, rfl, rfl⟩⟩ rfl rfl ?_
  refine DRun.step rfl rfl rfl (AOp.pickF rfl rfl rfl) ?_
  refine DRun.step rfl rfl rfl (AOp.moveD rfl rfl) ?_
  refine DRun.pass ⟨21, rfl, .inl ⟨_, rfl, rfl⟩⟩ rfl rfl ?_
  refine DRun.pass ⟨21, rfl, .inl ⟨_, rfl, rfl⟩⟩ rfl rfl ?_
  refine DRun.pass ⟨21, rfl, .inl ⟨_, rfl, rfl⟩⟩ rfl rfl ?_
  refine DRun.pass ⟨21, rfl, .inl ⟨_, rfl, rfl⟩⟩ rfl rfl ?_
  refine DRun.pass ⟨21, rfl, .inl ⟨_, rfl, rfl⟩⟩ rfl rfl ?_
  refine DRun.step rfl rfl rfl (AOp.pickF rfl rfl rfl) ?_
  refine DRun.step rfl rfl rfl (AOp.assignD rfl rfl) ?_
  refine DRun.nil ?_
  refine AWP.ret ?_
  refine ⟨RetD.eq rfl ?_, trivial⟩
  all_goals (first | rfl | (unfold whole1; simp_all))

end Go.Proofs.YtieccphckobhjaaGreatDoor


namespace Go.Proofs.YtieccphckobhjaaGreatDoor
open Go.RowKit
set_option linter.unusedVariables false

/-! Types. -/
namespace TyP4

end TyP4
open TyP4


def cpyS (b : Nat) (c : Cpy) : List S := [.d (.v (.string c.item)), .d (.v (.string c.carrier)), .d (.v (.string c.frm)), .d (.v (.int .i64 c.day)), .d (.v (.int .i64 c.last)), .d (.v (.int .i64 c.gen)), .own b]
/-- The copies as cells: the damaged blocks of each lie in an own row, numbered from b on. -/
def cpysS : Nat → List Cpy → List (List S)
  | _, [] => []
  | b, c :: l => cpyS b c :: cpysS (b + 1) l
theorem cpysS_len : ∀ (b : Nat) (l : List Cpy), (cpysS b l).length = l.length
  | _, [] => rfl
  | b, c :: l => by simp [cpysS, cpysS_len (b + 1) l]
theorem cpysS_get : ∀ {b : Nat} {l : List Cpy} {k : Nat} {c : Cpy}, l[k]? = some c → (cpysS b l)[k]? = some (cpyS (b + k) c)
  | b, d :: l, 0, c, h => by
    have : d = c := by simpa using h
    subst this; rfl
  | b, d :: l, k + 1, c, h => by
    have := cpysS_get (b := b + 1) (l := l) (k := k) (c := c) (by simpa using h)
    rw [show b + 1 + k = b + (k + 1) by omega] at this
    simpa [cpysS] using this
theorem cpysS_at {b : Nat} {l : List Cpy} {k : Nat} (h : k < l.length) : (cpysS b l)[k]'(by rw [cpysS_len]; exact h) = cpyS (b + k) l[k] := by
  have := cpysS_get (b := b) (List.getElem?_eq_getElem h)
  rw [List.getElem?_eq_getElem (by rw [cpysS_len]; exact h)] at this
  exact Option.some.inj this
theorem cpysS_set : ∀ {b : Nat} {l : List Cpy} {k : Nat} {c : Cpy}, k < l.length → (cpysS b l).set k (cpyS (b + k) c) = cpysS b (l.set k c)
  | b, d :: l, 0, c, _ => rfl
  | b, d :: l, k + 1, c, h => by
    have := cpysS_set (b := b + 1) (l := l) (k := k) (c := c) (by simpa using h)
    rw [show b + 1 + k = b + (k + 1) by omega] at this
    simp [cpysS, this]
/-- Who does not hold it does not lose it. -/
theorem cpysS_kill {id : Nat} : ∀ {b : Nat} {l : List Cpy}, id < b → (cpysS b l).map (fun ss => ss.map (S.kill id)) = cpysS b l
  | _, [], _ => rfl
  | b, c :: l, h => by
    have hb : Nat.beq b id = false := by rw [Bool.eq_false_iff]; intro hh; have := Nat.eq_of_beq_eq_true hh; omega
    have ih := cpysS_kill (id := id) (b := b + 1) (l := l) (by omega)
    simp only [cpysS, List.map_cons, ih]
    simp [cpyS, S.kill, hb]
/-- .. and who does, of its own alone. -/
theorem cpysS_killAt : ∀ {b : Nat} {l : List Cpy} {k : Nat} (h : k < l.length), (cpysS b l).map (fun ss => ss.map (S.kill (b + k))) = (cpysS b l).set k ((cpyS (b + k) l[k]).set 6 (.d .any))
  | b, c :: l, 0, _ => by
    have ih := cpysS_kill (id := b) (b := b + 1) (l := l) (by omega)
    simp only [cpysS, List.map_cons, Nat.add_zero, ih]
    simp [cpyS, S.kill]
  | b, c :: l, k + 1, h => by
    have hk : k < l.length := by simpa using h
    have := cpysS_killAt (b := b + 1) (l := l) (k := k) hk
    rw [show b + 1 + k = b + (k + 1) by omega] at this
    have hb : Nat.beq b (b + (k + 1)) = false := by rw [Bool.eq_false_iff]; intro hh; have := Nat.eq_of_beq_eq_true hh; omega
    simp only [cpysS, List.map_cons, this]
    simp [cpyS, S.kill, hb]
def badsD (l : List Cpy) : List (List (List D)) := l.map fun c => c.bad.map intD
def famC (l : List Cpy) : Obs := fam 3 1 1000 (badsD l)
def vaultS (v : Vlt) : List S := [.d (.sl (v.items.map Item.ds)), .d (.sl (v.carrs.map Carr.ds)), .own 101]
/-- The copies of a vault of the program's own, as objects. -/
def vObs (l : List Cpy) : Obs := (101, .rowS 65 7 (cpysS 1000 l)) :: famC l
theorem badsD_get {l : List Cpy} {k : Nat} (h : k < l.length) : (badsD l)[k]? = some (l[k].bad.map intD) := by simp [badsD, h]
theorem famC_get {l : List Cpy} {k : Nat} (h : k < l.length) : (1000 + k, Ob.row 3 1 (l[k].bad.map intD)) ∈ famC l := fam_get (badsD_get h)
theorem badsD_set {l : List Cpy} {k : Nat} {c : Cpy} : (badsD l).set k (c.bad.map intD) = badsD (l.set k c) := by simp [badsD, List.map_set]
theorem snap_cpy {σ : Obs} {l : List Cpy} (h : ∀ p ∈ famC l, p ∈ σ) {k : Nat} (hk : k < l.length) : ∀ j (h1 : j < (cpyS (1000 + k) l[k]).length) (h2 : j < l[k].ds.length), Snap σ (cpyS (1000 + k) l[k])[j] l[k].ds[j] := by
  intro j h1 h2
  have hj : j < 7 := by simpa [cpyS] using h1
  match j, hj with
  | 0, _ => exact .d _
  | 1, _ => exact .d _
  | 2, _ => exact .d _
  | 3, _ => exact .d _
  | 4, _ => exact .d _
  | 5, _ => exact .d _
  | 6, _ => exact .row (h _ (famC_get hk))
/-- The copies, as data. -/
theorem snap_copies {σ : Obs} {l : List Cpy} (h : ∀ p ∈ vObs l, p ∈ σ) : Snap σ (.own 101) (.sl (l.map Cpy.ds)) := by
  refine .rowS (h _ (.head _)) (by rw [cpysS_len, List.length_map]) (fun i h1 h2 => ?_) fun i h1 h2 j h3 h4 => ?_
  · have hi : i < l.length := by simpa using h2
    rw [cpysS_at hi, List.getElem_map]; rfl
  · have hi : i < l.length := by simpa using h2
    simp only [cpysS_at hi, List.getElem_map] at h3 h4 ⊢
    exact snap_cpy (fun p hp => h p (.tail _ hp)) hi j h3 h4
/-- The vault, as data. -/
theorem snap_vault {σ : Obs} {v : Vlt} {i : Nat} (h0 : (i, Ob.val (vaultS v)) ∈ σ) (h : ∀ p ∈ vObs v.copies, p ∈ σ) : Snap σ (.own i) (.agg v.ds) := by
  refine .val h0 rfl fun j h1 h2 => ?_
  have hj : j < 3 := by simpa [vaultS] using h1
  match j, hj with
  | 0, _ => exact .d _
  | 1, _ => exact .d _
  | 2, _ => exact snap_copies h
/-- A pointer to one copy, as data. -/
theorem snap_ptr {σ : Obs} {l : List Cpy} (h : ∀ p ∈ vObs l, p ∈ σ) {k : Nat} (hk : k < l.length) : Snap σ (.ptr 101 (k * 7)) (.fp l[k].ds) := by
  refine .ptrS (h _ (.head _)) (by rw [cpysS_len]; exact hk) (by rw [cpysS_at hk]; rfl) fun j h1 h2 => ?_
  simp only [cpysS_at hk] at h1 ⊢
  exact snap_cpy (fun p hp => h p (.tail _ hp)) hk j h1 h2


end Go.Proofs.YtieccphckobhjaaGreatDoor


namespace Go.Proofs.YtieccphckobhjaaGreatDoor
open Go.RowKit
set_option linter.unusedVariables false

/-! Types. -/
namespace TyP5

end TyP5
open TyP5


structure Hrm where
  day : Int
  item : ByteArray
  carrier : ByteArray
  block : Int
def Hrm.ds (h : Hrm) : List D := [.v (.int .i64 h.day), .v (.string h.item), .v (.string h.carrier), .v (.int .i64 h.block)]
def insI (l : List Int) (x : Int) : List Int := if hasI l x = true then l else l.take (posI l x) ++ [x] ++ l.drop (posI l x)
def harmC (l : List Cpy) (h : Hrm) : List Cpy := if hasC l (keyC h.item h.carrier) = true then l.modify (posC l (keyC h.item h.carrier)) (fun c => { c with bad := insI c.bad h.block }) else l
theorem hfo_v2 : fieldOff Tryz.prog 26 2 = some 2 := by kernel_rfl
theorem hfo_h1 : fieldOff Tryz.prog 97 1 = some 1 := by kernel_rfl
theorem hfo_h2 : fieldOff Tryz.prog 97 2 = some 2 := by kernel_rfl
theorem hfo_h3 : fieldOff Tryz.prog 97 3 = some 3 := by kernel_rfl
theorem hfo_c6 : fieldOff Tryz.prog 65 6 = some 6 := by kernel_rfl
theorem hag_v : AggT Tryz.prog 26 3 := .of (by kernel_rfl)
theorem hsc_s : Scal Tryz.prog 9 := .of (by kernel_rfl)
theorem hsc_i : Scal Tryz.prog 3 := .of (by kernel_rfl)
theorem hsc_24 : Scal Tryz.prog 24 := .of (by kernel_rfl)
theorem hsc_75 : Scal Tryz.prog 63 := .of (by kernel_rfl)
theorem het_24 : ElemTy Tryz.prog 24 65 7 96 (.agg #[(.string ⟨#[]⟩), (.string ⟨#[]⟩), (.string ⟨#[]⟩), (.int .i64 0), (.int .i64 0), (.int .i64 0), (.slice none 0 0)]) := ⟨by kernel_rfl, by kernel_rfl, by kernel_rfl, by decide⟩
theorem het_75 : ElemTy Tryz.prog 63 3 1 8 (.int .i64 0) := ⟨by kernel_rfl, by kernel_rfl, by kernel_rfl, by decide⟩
theorem hsz_75 : ∀ w, (sizeOf 63).run Tryz.prog w = .ok 1 w := SizeT.of (by kernel_rfl)
theorem vObs_fresh {i : Nat} {l : List Cpy} (h : i < 101) : Obs.fresh i (vObs l) = true := by
  unfold vObs Obs.fresh
  have h1 : Nat.beq 101 i = false := by rw [Bool.eq_false_iff]; intro hh; have := Nat.eq_of_beq_eq_true hh; omega
  simp [h1, famC, fam_fresh (show i < 1000 by omega)]
theorem vObs_kill {i : Nat} {l : List Cpy} (h : i < 1000) : Obs.kill i (vObs l) = vObs l := by
  unfold vObs Obs.kill
  simp only [Ob.kill, cpysS_kill h, famC, fam_kill]
def harm0 (v : Vlt) : Obs := (100, .val (vaultS v)) :: vObs v.copies
set_option maxRecDepth 20000 in
set_option maxHeartbeats 1000000 in
theorem c_harm (v : Vlt) (h : Hrm) (hl : v.copies.length ≤ 100000) (hb : ∀ c ∈ v.copies, c.bad.length ≤ 100000) : XCall Tryz.prog 48 [.own 100, .d (.agg h.ds)] (harm0 v) (vObs (harmC v.copies h)) (fun i => Nat.ble 1000 i || Nat.blt i 100) (.tup []) := by
  refine xcall_of (n := 48) (ds' := []) Tryz.func48 rfl (by kernel_rfl) rfl [] rfl rfl ?_
  intro B w0 F0 fr ρ0
  refine AWP.seq ?_
  refine AWP.region ?_
  refine AOps.boxVal 12 rfl rfl rfl rfl rfl (.head _) (by show Obs.fresh 12 ((100, _) :: vObs v.copies) = true; unfold Obs.fresh; simp [vObs_fresh, show Nat.beq 100 12 = false from rfl]) ?_ rfl
  refine AOps.obsEq ((12, .cells (vaultS v)) :: (100, .val (vaultS v)) :: vObs v.copies) (by show (12, _) :: (100, _) :: Obs.kill 12 (vObs v.copies) = _; rw [vObs_kill (by omega)]; rfl) ?_
  refine AOps.step rfl rfl rfl (AOp.box rfl rfl rfl) ?_
  refine AOps.nil ?_
  refine AWP.seq ?_
  refine AWP.region ?_
  refine AOps.loadVal 13 rfl rfl rfl rfl hag_v rfl (.head _) (Nat.le_refl 3) (by show Obs.fresh 13 ((12, _) :: (100, _) :: vObs v.copies) = true; unfold Obs.fresh Obs.fresh; simp [vObs_fresh, show Nat.beq 100 13 = false from rfl, show Nat.beq 12 13 = false from rfl]) ?_ rfl
  refine AOps.obsEq ((13, .val (vaultS v)) :: (12, .cells (vaultS v)) :: (100, .val (vaultS v)) :: vObs v.copies) (by show (13, _) :: (12, _) :: (100, _) :: Obs.kill 13 (vObs v.copies) = _; rw [vObs_kill (by omega)]; rfl) ?_
  refine AOps.step rfl rfl rfl (AOp.fieldAddr (ds := h.ds) rfl hfo_h1 rfl) ?_
  refine AOps.step rfl rfl rfl (AOp.load rfl hsc_s rfl) ?_
  refine AOps.step rfl rfl rfl (AOp.fieldAddr (ds := h.ds) rfl hfo_h2 rfl) ?_
  refine AOps.step rfl rfl rfl (AOp.load rfl hsc_s rfl) ?_
  refine AOps.step rfl rfl rfl (AOp.callSnap rfl (.cons rfl (snap_vault (v := v) (.head _) (fun p hp => .tail _ (.tail _ (.tail _ hp)))) (.cons rfl (.d _) (.cons rfl (.d _) .nil))) (c_copyAt v h.item h.carrier hl) (.tup _ (by simp [Plain.v]))) ?_
  refine AOps.step rfl rfl rfl (AOp.moveD rfl rfl) ?_
  refine AOps.step rfl rfl rfl (AOp.extract rfl rfl rfl) ?_
  refine AOps.step rfl rfl rfl (AOp.extract rfl rfl rfl) ?_
  refine AOps.step rfl rfl rfl (AOp.assignD rfl rfl) ?_
  refine AOps.step rfl rfl rfl (AOp.assignD rfl rfl) ?_
  refine AOps.nil ?_
  refine AWP.seq ?_
  refine AWP.seq ?_
  refine AWP.region ?_
  refine AOps.step rfl rfl rfl (AOp.moveD rfl rfl) ?_
  refine AOps.step rfl rfl rfl (AOp.not rfl rfl) ?_
  refine AOps.nil ?_
  refine AWP.cond rfl (fun g => ?_) (fun g => ?_)
  · refine AWP.ret ?_
    have hc : harmC v.copies h = v.copies := by unfold harmC; rw [if_neg (by simpa using g)]
    rw [hc]
    exact ⟨trivial, AllIn.of fun p hp => .tail _ (.tail _ (.tail _ hp))⟩
  have g1 : hasC v.copies (keyC h.item h.carrier) = true := by simpa using g
  generalize hk : posC v.copies (keyC h.item h.carrier) = k
  have hkl : k < v.copies.length := by unfold hasC at g1; rw [hk] at g1; simp at g1; exact g1.1
  refine AWP.skip ?_
  refine AWP.seq ?_
  refine AWP.region ?_
  refine AOps.step rfl rfl rfl (AOp.fieldAddrP rfl hfo_v2 rfl) ?_
  refine AOps.step rfl rfl rfl (AOp.loadP (s := .own 101) rfl hsc_24 rfl (.tail _ (.head _)) rfl) ?_
  refine AOps.step rfl rfl rfl (AOp.moveD rfl rfl) ?_
  refine AOps.step rfl rfl rfl (AOp.weak (AOp.indexOwn rfl het_24 rfl rfl (Obs.weak_mem (p := (101, _)) (.tail _ (.tail _ (.tail _ (.head _))))) k rfl (by rw [List.length_map, cpysS_len]; exact hkl))) ?_
  refine AOps.step rfl rfl rfl (AOp.assignP rfl rfl) ?_
  refine AOps.nil ?_
  have hbk := hb _ (List.getElem_mem hkl)
  have hfam : (1000 + k, Ob.row 3 1 (v.copies[k].bad.map intD)) ∈ vObs v.copies := .tail _ (famC_get hkl)
  refine AWP.seq ?_
  refine AWP.draw (by kernel_rfl) (by kernel_rfl) ?_
  refine DRun.step rfl rfl rfl (AOp.moveP rfl rfl) ?_
  refine DRun.step rfl rfl rfl (AOp.nilCheckP rfl rfl) ?_
  refine DRun.step rfl rfl rfl (AOp.fieldAddrP rfl hfo_c6 rfl) ?_
  refine DRun.step rfl rfl rfl (AOp.loadRowS (s := .own (1000 + k)) rfl hsc_75 rfl (.tail _ (.tail _ (.tail _ (.head _)))) k 6 rfl (cpysS_get (List.getElem?_eq_getElem hkl)) rfl) ?_
  refine DRun.step rfl rfl rfl (AOp.fieldAddr (ds := h.ds) rfl hfo_h3 rfl) ?_
  refine DRun.step rfl rfl rfl (AOp.load rfl hsc_i rfl) ?_
  refine DRun.step rfl rfl rfl (AOp.callSnap rfl (.cons rfl (.row (.tail _ (.tail _ (.tail _ hfam)))) (.cons rfl (.d _) .nil)) (c_bsInt v.copies[k].bad h.block hbk) (.tup _ (by simp [Plain.v]))) ?_
  refine DRun.step rfl rfl rfl (AOp.moveD rfl rfl) ?_
  refine DRun.step rfl rfl rfl (AOp.extract rfl rfl rfl) ?_
  refine DRun.step rfl rfl rfl (AOp.extract rfl rfl rfl) ?_
  refine DRun.step rfl rfl rfl (AOp.assignD rfl rfl) ?_
  refine DRun.step rfl rfl rfl (AOp.assignD rfl rfl) ?_
  refine DRun.nil ?_
  refine AWP.seq ?_
  refine AWP.region ?_
  refine AOps.step rfl rfl rfl (AOp.moveD rfl rfl) ?_
  refine AOps.step rfl rfl rfl (AOp.not rfl rfl) ?_
  refine AOps.nil ?_
  refine AWP.cond rfl (fun g2 => ?_) (fun g2 => ?_)
  · have g3 : hasI v.copies[k].bad h.block = false := by simpa using g2
    have hpk := posI_le v.copies[k].bad h.block
    generalize hpp : posI v.copies[k].bad h.block = q at hpk
    have hbq : Nat.beq 101 (1000 + k) = false := by rw [Bool.eq_false_iff]; intro hh; have := Nat.eq_of_beq_eq_true hh; omega
    have hfx : (!(!(Nat.ble 1000 (1000 + k) || Nat.blt (1000 + k) 100))) = true := by
      have : Nat.ble 1000 (1000 + k) = true := Nat.ble_eq_true_of_le (by omega)
      rw [this]; rfl
    refine AWP.drawMove (s0 := .ptr 101 (k * 7)) 9 10 [⟨44, 14, .own 14, .row 3 1 [[.v (.int .i64 h.block)]]⟩] (FrOk.one rfl (by simp) (by show Obs.fresh 14 ((13, _) :: (12, _) :: (100, _) :: vObs v.copies) = true; unfold Obs.fresh Obs.fresh Obs.fresh; simp [vObs_fresh, show Nat.beq 100 14 = false from rfl, show Nat.beq 12 14 = false from rfl, show Nat.beq 13 14 = false from rfl]) (by show (13, _) :: (12, _) :: (100, _) :: Obs.kill 14 (vObs v.copies) = _; rw [vObs_kill (by omega)]; rfl) rfl) (by kernel_rfl) (by kernel_rfl) rfl rfl rfl rfl rfl (by kernel_rfl) ?_
    refine XRun.step rfl rfl rfl (AOp.moveP rfl rfl) ?_
    refine XRun.step rfl rfl rfl (AOp.nilCheckP rfl rfl) ?_
    refine XRun.step rfl rfl rfl (AOp.fieldAddrP rfl hfo_c6 rfl) ?_
    refine XRun.step rfl rfl rfl (AOp.loadRowS (s := .own (1000 + k)) rfl hsc_75 rfl (.tail _ (.tail _ (.tail _ (.head _)))) k 6 rfl (cpysS_get (List.getElem?_eq_getElem hkl)) rfl) ?_ rfl ⟨.inl (by
      have hb14 : Nat.beq (1000 + k) 14 = false := by rw [Bool.eq_false_iff]; intro hh; have := Nat.eq_of_beq_eq_true hh; omega
      show S.kill 14 (.own (1000 + k)) = _
      simp [S.kill, hb14]), trivial⟩
    refine XRun.step rfl rfl rfl (AOp.moveD rfl rfl) ?_
    refine XRun.step rfl rfl rfl (AOp.fieldAddr (ds := h.ds) rfl hfo_h3 rfl) ?_
    refine XRun.step rfl rfl rfl (AOp.load rfl hsc_i rfl) ?_
    refine XRun.build1 _ (.head _) rfl rfl rfl rfl rfl het_75 rfl rfl rfl rfl rfl ?_
    refine XRun.nil ⟨rfl, trivial⟩ ?_
    refine AOps.insertI Tryz.b21 (id := 1000 + k) (idx := 14) (k := q) (l := v.copies[k].bad) (y := h.block) ((101, .rowS 65 7 ((cpysS 1000 v.copies).set k ((cpyS (1000 + k) v.copies[k]).set 6 (.d .any)))) :: fam 3 1 1000 ((badsD v.copies).set k ((v.copies[k].bad.take q ++ [h.block] ++ v.copies[k].bad.drop q).map intD))) rfl rfl rfl rfl rfl
      (.tail _ (.tail _ (.tail _ (.tail _ hfam)))) rfl rfl hpk rfl (.head _) (by omega) (by omega) ?_ ?_ hfx
    · intro p hp
      rcases List.mem_cons.1 hp with rfl | hp
      · refine .inr ⟨(101, .rowS 65 7 (cpysS 1000 v.copies)), .tail _ (.tail _ (.tail _ (.tail _ (.head _)))), by show 101 ≠ 1000 + k; omega, ?_⟩
        show _ = (101, Ob.rowS _ 7 _)
        rw [cpysS_killAt hkl]
      obtain ⟨j, x, h1, rfl⟩ := fam_mem hp
      rw [List.getElem?_set] at h1
      by_cases hj : k = j
      · subst hj
        rw [if_pos rfl] at h1
        split at h1
        · exact .inl (by rw [← Option.some.inj h1]; rfl)
        simp at h1
      rw [if_neg hj] at h1
      exact .inr ⟨(1000 + j, .row 3 1 x), .tail _ (.tail _ (.tail _ (.tail _ (.tail _ (fam_get h1))))), by show 1000 + j ≠ 1000 + k; omega, rfl⟩
    refine AOps.le 36 (s := .ptr 101 (k * 7)) (s' := .ptr 101 (k * 7)) (by show S.kill (1000 + k) (.ptr 101 (k * 7)) = _; simp [S.kill, hbq]) (SLe.refl _) ?_
    refine AOps.nil ?_
    refine AOps.step rfl rfl rfl (AOp.nilCheckP rfl rfl) ?_
    refine AOps.step rfl rfl rfl (AOp.fieldAddrP rfl hfo_c6 rfl) ?_
    have hnew : (1000 + k, Ob.row 3 1 ((v.copies[k].bad.take q ++ [h.block] ++ v.copies[k].bad.drop q).map intD)) ∈ fam 3 1 1000 ((badsD v.copies).set k ((v.copies[k].bad.take q ++ [h.block] ++ v.copies[k].bad.drop q).map intD)) := fam_get (by rw [List.getElem?_set]; simp [badsD, hkl])
    refine AOps.eff rfl rfl (EOp.storeRowS (s := .own (1000 + k)) rfl rfl hsz_75 rfl (.head _) rfl (.own (.tail _ hnew)) k 6 rfl (ss := (cpyS (1000 + k) v.copies[k]).set 6 (.d .any)) (by rw [List.getElem?_set]; simp [cpysS_len, hkl]) (by decide)) ?_
    refine AOps.nil ?_
    have hc : harmC v.copies h = v.copies.set k { v.copies[k] with bad := v.copies[k].bad.take q ++ [h.block] ++ v.copies[k].bad.drop q } := by
      have hI : insI v.copies[k].bad h.block = v.copies[k].bad.take q ++ [h.block] ++ v.copies[k].bad.drop q := by unfold insI; rw [if_neg (by rw [g3]; simp), hpp]
      unfold harmC
      rw [if_pos g1, hk]
      apply List.ext_getElem?
      intro j
      rw [List.getElem?_modify, List.getElem?_set]
      by_cases hj : k = j
      · subst hj
        rw [List.getElem?_eq_getElem hkl]
        simp [hI, hkl]
      simp [hj]
    refine ⟨trivial, AllIn.of fun p hp => ?_⟩
    rw [hc] at hp
    have hu : Obs.upd 101 (.rowS 65 7 (((cpysS 1000 v.copies).set k ((cpyS (1000 + k) v.copies[k]).set 6 (.d .any))).set k (((cpyS (1000 + k) v.copies[k]).set 6 (.d .any)).set 6 (.own (1000 + k))))) ((101, .rowS 65 7 ((cpysS 1000 v.copies).set k ((cpyS (1000 + k) v.copies[k]).set 6 (.d .any)))) :: fam 3 1 1000 ((badsD v.copies).set k ((v.copies[k].bad.take q ++ [h.block] ++ v.copies[k].bad.drop q).map intD))) = vObs (v.copies.set k { v.copies[k] with bad := v.copies[k].bad.take q ++ [h.block] ++ v.copies[k].bad.drop q }) := by
      unfold Obs.upd
      dsimp only
      simp only [List.set_set]
      rw [fam_upd_low (by omega)]
      unfold vObs famC
      rw [← badsD_set, ← cpysS_set hkl]
      rfl
    exact hu ▸ hp
  refine AWP.skip ?_
  have hc : harmC v.copies h = v.copies := by
    have hI : insI v.copies[k].bad h.block = v.copies[k].bad := by unfold insI; rw [if_pos (by simpa using g2)]
    unfold harmC
    rw [if_pos g1, hk]
    apply List.ext_getElem?
    intro j
    rw [List.getElem?_modify]
    by_cases hj : k = j
    · subst hj
      rw [List.getElem?_eq_getElem hkl]
      simp [hI]
    simp [hj]
  rw [hc]
  exact ⟨trivial, AllIn.of fun p hp => .tail _ (.tail _ (.tail _ hp))⟩


end Go.Proofs.YtieccphckobhjaaGreatDoor


namespace Go.Proofs.YtieccphckobhjaaGreatDoor
open Go.RowKit
set_option linter.unusedVariables false

/-! Types. -/
namespace TyP6

end TyP6
open TyP6


/-- Is block n of copy c right in another copy of the same item? -/
def fixB (l : List Cpy) (c : Cpy) (n : Int) : Bool := l.any (whole1 c n)
def stillI (l : List Cpy) (c : Cpy) : List Int := c.bad.filter fun n => !fixB l c n
structure Dn where
  day : Int
  item : ByteArray
  carrier : ByteArray
  fixed : Int
  lost : Int
def Dn.ds (d : Dn) : List D := [.v (.int .i64 d.day), .v (.string d.item), .v (.string d.carrier), .v (.int .i64 d.fixed), .v (.int .i64 d.lost)]
def doneC (l : List Cpy) (c : Cpy) (day : Int) : Dn := ⟨day, c.item, c.carrier, ((c.bad.filter (fixB l c)).length : Int), ((stillI l c).length : Int)⟩
def checkedC (l : List Cpy) (k : Nat) (day : Int) : List Cpy := l.modify k fun c => { c with bad := stillI l c, last := day }
/-- The first j damaged blocks. -/
def stillTo (l : List Cpy) (c : Cpy) (j : Nat) : List Int := (c.bad.take j).filter fun n => !fixB l c n
def fixTo (l : List Cpy) (c : Cpy) (j : Nat) : Nat := ((c.bad.take j).filter (fixB l c)).length
theorem stillTo_t {l : List Cpy} {c : Cpy} {j : Nat} (hj : j < c.bad.length) (h : fixB l c c.bad[j] = true) : stillTo l c (j + 1) = stillTo l c j ∧ fixTo l c (j + 1) = fixTo l c j + 1 := by
  unfold stillTo fixTo
  rw [List.take_add_one, List.getElem?_eq_getElem hj, Option.toList_some, List.filter_append, List.filter_append, List.length_append]
  have h1 : [c.bad[j]].filter (fun n => !fixB l c n) = [] := by rw [List.filter_cons, h]; rfl
  have h2 : [c.bad[j]].filter (fixB l c) = [c.bad[j]] := by rw [List.filter_cons, h]; rfl
  rw [h1, h2]
  exact ⟨by first | rfl | rw [List.append_nil], rfl⟩
theorem stillTo_f {l : List Cpy} {c : Cpy} {j : Nat} (hj : j < c.bad.length) (h : fixB l c c.bad[j] = false) : stillTo l c (j + 1) = stillTo l c j ++ [c.bad[j]] ∧ fixTo l c (j + 1) = fixTo l c j := by
  unfold stillTo fixTo
  rw [List.take_add_one, List.getElem?_eq_getElem hj, Option.toList_some, List.filter_append, List.filter_append, List.length_append]
  have h1 : [c.bad[j]].filter (fun n => !fixB l c n) = [c.bad[j]] := by rw [List.filter_cons, h]; rfl
  have h2 : [c.bad[j]].filter (fixB l c) = [] := by rw [List.filter_cons, h]; rfl
  rw [h1, h2]
  exact ⟨by first | rfl | rw [List.append_nil], rfl⟩
theorem stillTo_len (l : List Cpy) (c : Cpy) (j : Nat) : (stillTo l c j).length ≤ c.bad.length ∧ fixTo l c j ≤ c.bad.length := by
  unfold stillTo fixTo
  have h1 := List.length_filter_le (fun n => !fixB l c n) (c.bad.take j)
  have h2 := List.length_filter_le (fixB l c) (c.bad.take j)
  have h3 := List.length_take_le j c.bad
  simp only [List.length_take] at h1 h2
  omega
theorem stillTo_all (l : List Cpy) (c : Cpy) : stillTo l c c.bad.length = stillI l c ∧ fixTo l c c.bad.length = (c.bad.filter (fixB l c)).length := by
  unfold stillTo fixTo stillI
  rw [List.take_length]
  exact ⟨rfl, rfl⟩


end Go.Proofs.YtieccphckobhjaaGreatDoor


namespace Go.Proofs.YtieccphckobhjaaGreatDoor
open Go.RowKit
set_option linter.unusedVariables false

/-! Types. -/
namespace TyQ1

end TyQ1
open TyQ1


theorem ffst_zero {f : Nat → Int} : ∀ n, (∀ k, k < n → f k = 0) → ffst f n = 0
  | 0, _ => rfl
  | n + 1, h => ffst_next (ffst_zero n fun k hk => h k (by omega)) (h n (by omega))
/-- Damaged blocks as they must be. -/
def SBad (n : Int) (l : List Int) : Prop := l.Pairwise (· < ·) ∧ ∀ x ∈ l, 0 ≤ x ∧ x ≤ n - 1
theorem pw_of_adj {l : List Int} (h : ∀ k (hk : k + 1 < l.length), l[k] < l[k + 1]) : l.Pairwise (· < ·) := by
  rw [List.pairwise_iff_getElem]
  intro i j hi hj hij
  obtain ⟨d, rfl⟩ : ∃ d, j = i + d + 1 := ⟨j - i - 1, by omega⟩
  clear hij
  induction d with
  | zero => exact h i hj
  | succ d ih => exact Int.lt_trans (ih (by omega)) (h (i + d + 1) hj)
theorem badFault_ok {n : Int} {l : List Int} {k : Nat} (hk : k < l.length) (h : badFault n l k = 0) : (0 ≤ l[k] ∧ l[k] ≤ n - 1) ∧ (0 < k → l[k - 1]'(by omega) < l[k]) := by
  unfold badFault at h
  rw [dif_pos hk] at h
  by_cases h1 : ¬ (0 ≤ l[k] ∧ l[k] ≤ n - 1)
  · rw [if_pos h1] at h; simp at h
  · rw [if_neg h1] at h
    refine ⟨Decidable.not_not.1 h1, fun h0 => ?_⟩
    by_cases h2 : 0 < k ∧ l[k] ≤ l[k - 1]'(by omega)
    · rw [if_pos h2] at h; simp at h
    · exact Int.not_le.1 fun hh => h2 ⟨h0, hh⟩
theorem sbad_of {n : Int} {l : List Int} (h : ffst (badFault n l) l.length = 0) : SBad n l := by
  have h1 := ffst_all _ h
  refine ⟨pw_of_adj fun k hk => ?_, fun x hx => ?_⟩
  · have := (badFault_ok hk (h1 (k + 1) hk)).2 (Nat.succ_pos k)
    simpa using this
  · obtain ⟨k, hk, rfl⟩ := List.mem_iff_getElem.1 hx
    exact (badFault_ok hk (h1 k hk)).1
theorem sbad_fault {n : Int} {l : List Int} (h : SBad n l) : ffst (badFault n l) l.length = 0 :=
  ffst_zero _ fun k hk => badFault_0 hk (h.2 _ (List.getElem_mem hk)) fun h0 => by
    have := List.pairwise_iff_getElem.1 h.1 (k - 1) k (by omega) hk (by omega)
    omega
theorem SBad.ge {n : Int} {l : List Int} (h : SBad n l) : ∀ k (hk : k < l.length), (k : Int) ≤ l[k]
  | 0, hk => (h.2 _ (List.getElem_mem hk)).1
  | k + 1, hk => by
    have h1 := h.ge k (by omega)
    have h2 := List.pairwise_iff_getElem.1 h.1 k (k + 1) (by omega) hk (by omega)
    omega
theorem SBad.len {n : Int} {l : List Int} (h : SBad n l) (hn : 0 ≤ n) : (l.length : Int) ≤ n := by
  by_cases h0 : 0 < l.length
  · have h1 := h.ge (l.length - 1) (by omega)
    have h2 := (h.2 _ (List.getElem_mem (show l.length - 1 < l.length by omega))).2
    omega
  · omega
theorem bsr_spec2 {lt : Nat → Bool} {N : Nat} (hm : ∀ a b, a ≤ b → b < N → lt b = true → lt a = true) : ∀ (n i j : Nat), j - i ≤ n → i ≤ j → j ≤ N → (∀ k, k < i → lt k = true) → (∀ k, k < bsr lt i j → lt k = true) ∧ (∀ k, bsr lt i j ≤ k → k < j → lt k = false)
  | 0, i, j, h, hij, _, h0 => by rw [bsr_end (by omega)]; exact ⟨h0, fun k h1 h2 => by omega⟩
  | n + 1, i, j, h, hij, hN, h0 => by
    by_cases hlt : i < j
    · by_cases hb : lt ((i + j) / 2) = true
      · rw [bsr_up hlt hb]
        exact bsr_spec2 hm n ((i + j) / 2 + 1) j (by omega) (by omega) hN (fun k hk => hm k _ (by omega) (by omega) hb)
      · have hb' : lt ((i + j) / 2) = false := by simpa using hb
        rw [bsr_dn hlt hb']
        have h1 := bsr_spec2 hm n i ((i + j) / 2) (by omega) (by omega) (by omega) h0
        refine ⟨h1.1, fun k h2 h3 => ?_⟩
        by_cases hk : k < (i + j) / 2
        · exact h1.2 k h2 hk
        · cases hlk : lt k with
          | false => rfl
          | true => rw [hm _ k (by omega) (by omega) hlk] at hb'; simp at hb'
    · rw [bsr_end hlt]; exact ⟨h0, fun k h1 h2 => by omega⟩
theorem ltI_eq {l : List Int} {x : Int} {k : Nat} (hk : k < l.length) : ltI l x k = decide (l[k] < x) := by unfold ltI; rw [List.getD_eq_getElem?_getD, List.getElem?_eq_getElem hk]; rfl
theorem posI_spec {l : List Int} {x : Int} (h : l.Pairwise (· < ·)) : (∀ k (hk : k < l.length), k < posI l x → l[k] < x) ∧ (∀ k (hk : k < l.length), posI l x ≤ k → x ≤ l[k]) := by
  have h1 := bsr_spec2 (lt := ltI l x) (N := l.length) (fun a b hab hb hlt => by
    have hbx : l[b] < x := by rw [ltI_eq hb] at hlt; exact of_decide_eq_true hlt
    by_cases e : a = b
    · subst e; exact hlt
    · have := List.pairwise_iff_getElem.1 h a b (by omega) hb (by omega)
      exact ltI_t (by omega) (by omega)) l.length 0 l.length (by omega) (Nat.zero_le _) (Nat.le_refl _) (fun k hk => by omega)
  refine ⟨fun k hk hp => ?_, fun k hk hp => ?_⟩
  · have := h1.1 k hp
    rw [ltI_eq hk] at this
    exact of_decide_eq_true this
  · have := h1.2 k hp hk
    rw [ltI_eq hk] at this
    have := of_decide_eq_false this
    omega
theorem insI_sbad {n x : Int} {l : List Int} (h : SBad n l) (hx : 0 ≤ x ∧ x ≤ n - 1) : SBad n (insI l x) := by
  unfold insI
  split
  · exact h
  · rename_i hh
    have hs := posI_spec (x := x) h.1
    have hple := posI_le l x
    have hgt : ∀ k (hk : k < l.length), posI l x ≤ k → x < l[k] := fun k hk hp => by
      have h1 := hs.2 k hk hp
      have h2 : posI l x < l.length := by omega
      have h3 := hs.2 _ h2 (Nat.le_refl _)
      have h4 : l[posI l x] ≠ x := fun he => hh (hasI_t h2 rfl he)
      by_cases e : k = posI l x
      · subst e; omega
      · have := List.pairwise_iff_getElem.1 h.1 (posI l x) k h2 hk (by omega)
        omega
    refine ⟨?_, fun y hy => ?_⟩
    · rw [List.append_assoc, List.pairwise_append]
      refine ⟨h.1.sublist (List.take_sublist _ _), ?_, fun a ha b hb => ?_⟩
      · rw [List.singleton_append, List.pairwise_cons]
        refine ⟨fun b hb => ?_, h.1.sublist (List.drop_sublist _ _)⟩
        obtain ⟨k, hk, rfl⟩ := List.mem_iff_getElem.1 hb
        rw [List.getElem_drop]
        exact hgt _ _ (by omega)
      · obtain ⟨k, hk, rfl⟩ := List.mem_iff_getElem.1 ha
        rw [List.getElem_take]
        rw [List.length_take] at hk
        have h5 := hs.1 k (by omega) (by omega)
        rcases List.mem_append.1 hb with hb | hb
        · rw [List.mem_singleton] at hb; rw [hb]; exact h5
        · obtain ⟨m, hm, rfl⟩ := List.mem_iff_getElem.1 hb
          rw [List.getElem_drop]
          have := hgt (posI l x + m) (by rw [List.length_drop] at hm; omega) (by omega)
          omega
    · simp only [List.mem_append, List.mem_singleton] at hy
      rcases hy with (hy | rfl) | hy
      · exact h.2 y (List.mem_of_mem_take hy)
      · exact hx
      · exact h.2 y (List.mem_of_mem_drop hy)
theorem stillI_sbad {n : Int} {l : List Cpy} {c : Cpy} (h : SBad n c.bad) : SBad n (stillI l c) := by
  unfold stillI
  exact ⟨h.1.sublist List.filter_sublist, fun x hx => h.2 x (List.mem_filter.1 hx).1⟩
/-! What is right of a vault stays right. -/
theorem cpyFault_zero {v : Vlt} {c : Cpy} {b : Option Cpy} (h : CpyOk v c) (hb : ∀ d, b = some d → cpyCmp d c < 0) : cpyFault v c b = 0 := by
  have h1 := h.item
  have h2 := h.carr
  have h3 := h.day
  have h4 := h.last
  have h5 := h.gen
  unfold cpyFault
  rw [if_neg (by omega), if_neg (fun ⟨d, hd, hd2⟩ => by have := hb d hd; omega), if_neg (fun ⟨ha, hc⟩ => by
    rcases h.frm with hf | hf
    · exact ha hf
    · omega), if_neg h.ne, if_neg (by omega), if_neg (fun hh => hh h.form)]
  exact h.bad
theorem vok_mk {v : Vlt} (ni : v.items.length ≤ 30) (nc : v.carrs.length ≤ 16) (np : v.copies.length ≤ 200) (items : ffst (itemFault v.items) v.items.length = 0) (carrs : ffst (carrFault v.carrs) v.carrs.length = 0)
    (cpy : ∀ c ∈ v.copies, CpyOk v c) (order : ∀ k (h : k + 1 < v.copies.length), cpyCmp v.copies[k] v.copies[k + 1] < 0) (room : ∀ x ∈ v.carrs, usedOn v x.name ≤ x.room) : VOk v :=
  ⟨ni, nc, np, items, carrs, ffst_zero _ fun k hk => by
    by_cases h0 : 0 < k
    · rw [cpyFaultAt_some hk h0]
      refine cpyFault_zero (cpy _ (List.getElem_mem hk)) fun d hd => ?_
      obtain ⟨j, rfl⟩ : ∃ j, k = j + 1 := ⟨k - 1, by omega⟩
      have h1 := order j hk
      rw [← Option.some.inj hd]
      simpa using h1
    · rw [cpyFaultAt_none hk h0]
      exact cpyFault_zero (cpy _ (List.getElem_mem hk)) fun d hd => by simp at hd, cpy, order, room⟩
theorem cpyCmp_same {a b c d : Cpy} (h1 : a.item = c.item) (h2 : a.carrier = c.carrier) (h3 : b.item = d.item) (h4 : b.carrier = d.carrier) : cpyCmp a b = cpyCmp c d := by unfold cpyCmp; rw [h1, h2, h3, h4]
/-- The vault with other copies. -/
def withC (v : Vlt) (l : List Cpy) : Vlt := { v with copies := l }
theorem vok_set {v : Vlt} {l : List Cpy} (h : VOk (withC v l)) {k : Nat} (hk : k < l.length) {c : Cpy} (e1 : c.item = l[k].item) (e2 : c.carrier = l[k].carrier) (e3 : c.frm = l[k].frm) (e4 : c.day = l[k].day) (e5 : c.gen = l[k].gen)
    (hl : c.day ≤ c.last ∧ c.last ≤ 200000) (hb : SBad (itemBlocks v c.item) c.bad) : VOk (withC v (l.set k c)) := by
  have hck := h.cpy l[k] (List.getElem_mem hk)
  have hlen : (l.set k c).length = l.length := List.length_set
  have hget : ∀ i (hi : i < (l.set k c).length), (l.set k c)[i].item = (l[i]'(by omega)).item ∧ (l.set k c)[i].carrier = (l[i]'(by omega)).carrier := fun i hi => by
    rw [List.getElem_set]
    by_cases e : k = i
    · subst e; rw [if_pos rfl]; exact ⟨e1, e2⟩
    · rw [if_neg e]; exact ⟨rfl, rfl⟩
  refine vok_mk h.ni h.nc (by show (l.set k c).length ≤ 200; rw [hlen]; exact h.np) h.items h.carrs (fun d hd => ?_) (fun i hi => ?_) (fun x hx => ?_)
  · rcases List.mem_or_eq_of_mem_set hd with h1 | rfl
    · exact ⟨(h.cpy d h1).item, (h.cpy d h1).carr, (h.cpy d h1).frm, (h.cpy d h1).ne, (h.cpy d h1).day, (h.cpy d h1).last, (h.cpy d h1).gen, (h.cpy d h1).form, (h.cpy d h1).bad⟩
    · refine ⟨?_, ?_, ?_, ?_, ?_, hl, ?_, ?_, sbad_fault hb⟩
      · rw [e1]; exact hck.item
      · rw [e2]; exact hck.carr
      · rw [e3]; exact hck.frm
      · rw [e3, e2]; exact hck.ne
      · rw [e4]; exact hck.day
      · rw [e5]; exact hck.gen
      · rw [e5, e3]; exact hck.form
  · have hi' : i + 1 < (l.set k c).length := hi
    have a := hget i (by omega)
    have b := hget (i + 1) hi'
    have hi2 : i + 1 < l.length := by omega
    have h2 := h.order i hi2
    show cpyCmp (l.set k c)[i] (l.set k c)[i + 1] < 0
    rw [cpyCmp_same a.1 a.2 b.1 b.2]
    exact h2
  · have h3 := h.room x hx
    refine Int.le_trans (Int.le_of_eq ?_) h3
    show usedOn (withC v (l.set k c)) x.name = usedOn (withC v l) x.name
    unfold usedOn usedTo
    show (((l.set k c).take (l.set k c).length).map _).sum = ((l.take l.length).map _).sum
    rw [List.take_length, List.take_length]
    congr 1
    apply List.ext_getElem
    · simp
    · intro i h4 h5
      rw [List.getElem_map, List.getElem_map]
      have hi : i < (l.set k c).length := by simpa using h4
      have a := hget i hi
      unfold useOf
      rw [a.1, a.2]
      rfl
theorem modify_set {l : List Cpy} {k : Nat} (f : Cpy → Cpy) (hk : k < l.length) : l.modify k f = l.set k (f l[k]) := by
  apply List.ext_getElem?
  intro j
  rw [List.getElem?_modify, List.getElem?_set]
  by_cases hj : k = j
  · subst hj
    rw [List.getElem?_eq_getElem hk]
    simp [hk]
  · simp [hj]
/-- A harm that may come. -/
structure HrmOk (v : Vlt) (h : Hrm) : Prop where
  item : 0 ≤ itemIdx v h.item
  carr : 0 ≤ carrIdx v h.carrier
  blk : 0 ≤ h.block ∧ h.block ≤ itemBlocks v h.item - 1
theorem strCmp_eq {a b : ByteArray} (h : strCmp a b = 0) : a = b := strCmp_zero.1 h
theorem cpyCmp_zero {a b : Cpy} (h : cpyCmp a b = 0) : a.item = b.item ∧ a.carrier = b.carrier := by
  unfold cpyCmp at h
  by_cases e : a.item = b.item
  · rw [if_pos e] at h; exact ⟨e, strCmp_eq h⟩
  · rw [if_neg e] at h; exact absurd (strCmp_eq h) e
theorem hasC_spec {l : List Cpy} {it ca : ByteArray} (h : hasC l (keyC it ca) = true) : ∃ hk : posC l (keyC it ca) < l.length, l[posC l (keyC it ca)].item = it ∧ l[posC l (keyC it ca)].carrier = ca := by
  unfold hasC at h
  simp only [Bool.and_eq_true, decide_eq_true_eq] at h
  refine ⟨h.1, ?_⟩
  have h2 := h.2
  rw [List.getD_eq_getElem?_getD, List.getElem?_eq_getElem h.1, Option.getD_some] at h2
  exact cpyCmp_zero h2
theorem harmC_vok {v : Vlt} {l : List Cpy} {h : Hrm} (hv : VOk (withC v l)) (hh : HrmOk v h) : VOk (withC v (harmC l h)) := by
  unfold harmC
  split
  · rename_i hc
    obtain ⟨hk, h1, h2⟩ := hasC_spec hc
    rw [modify_set _ hk]
    have hck := hv.cpy _ (List.getElem_mem hk)
    refine vok_set hv hk rfl rfl rfl rfl rfl hck.last ?_
    refine insI_sbad (sbad_of hck.bad) ?_
    show 0 ≤ h.block ∧ h.block ≤ itemBlocks v l[posC l (keyC h.item h.carrier)].item - 1
    rw [h1]
    exact hh.blk
  · exact hv
theorem harmC_len (l : List Cpy) (h : Hrm) : (harmC l h).length = l.length := by unfold harmC; split <;> simp
theorem harms_vok {v : Vlt} : ∀ (hs : List Hrm) {l : List Cpy}, VOk (withC v l) → (∀ h ∈ hs, HrmOk v h) → VOk (withC v (hs.foldl harmC l))
  | [], _, hv, _ => hv
  | h :: hs, l, hv, hh => harms_vok hs (harmC_vok hv (hh h (by simp))) fun h' hm => hh h' (List.mem_cons_of_mem _ hm)
theorem harms_len : ∀ (hs : List Hrm) (l : List Cpy), (hs.foldl harmC l).length = l.length
  | [], _ => rfl
  | h :: hs, l => by rw [List.foldl_cons, harms_len hs, harmC_len]
/-! A day. -/
def chk1 (every day : Int) (s : List Cpy × List Dn) (k : Nat) : List Cpy × List Dn :=
  match s.1[k]? with
  | none => s
  | some c => if c.last + every > day then s else (checkedC s.1 k day, s.2 ++ [doneC s.1 c day])
def chkTo (every day : Int) (s : List Cpy × List Dn) : Nat → List Cpy × List Dn
  | 0 => s
  | k + 1 => chk1 every day (chkTo every day s k) k
theorem chk1_no {every day : Int} {s : List Cpy × List Dn} {k : Nat} (hk : k < s.1.length) (h : s.1[k].last + every > day) : chk1 every day s k = s := by
  unfold chk1
  rw [List.getElem?_eq_getElem hk]
  exact if_pos h
theorem chk1_yes {every day : Int} {s : List Cpy × List Dn} {k : Nat} (hk : k < s.1.length) (h : ¬ s.1[k].last + every > day) : chk1 every day s k = (checkedC s.1 k day, s.2 ++ [doneC s.1 s.1[k] day]) := by
  unfold chk1
  rw [List.getElem?_eq_getElem hk]
  exact if_neg h
theorem checkedC_len (l : List Cpy) (k : Nat) (day : Int) : (checkedC l k day).length = l.length := by unfold checkedC; simp
theorem chk1_len (every day : Int) (s : List Cpy × List Dn) (k : Nat) : (chk1 every day s k).1.length = s.1.length := by
  unfold chk1
  split
  · rfl
  · split
    · rfl
    · exact checkedC_len _ _ _
theorem chkTo_len (every day : Int) (s : List Cpy × List Dn) : ∀ k, (chkTo every day s k).1.length = s.1.length
  | 0 => rfl
  | k + 1 => by unfold chkTo; rw [chk1_len, chkTo_len every day s k]
theorem chk1_out (every day : Int) (s : List Cpy × List Dn) (k : Nat) : ∃ o, (chk1 every day s k).2 = s.2 ++ o ∧ o.length ≤ 1 := by
  unfold chk1
  split
  · exact ⟨[], by simp⟩
  · split
    · exact ⟨[], by simp⟩
    · exact ⟨[_], rfl, by simp⟩
theorem chkTo_mono (every day : Int) (s : List Cpy × List Dn) (k : Nat) : ∀ m, (chkTo every day s k).2.length ≤ (chkTo every day s (k + m)).2.length
  | 0 => Nat.le_refl _
  | m + 1 => by
    have h1 := chkTo_mono every day s k m
    obtain ⟨o, h2, _⟩ := chk1_out every day (chkTo every day s (k + m)) (k + m)
    show _ ≤ (chk1 every day (chkTo every day s (k + m)) (k + m)).2.length
    rw [h2, List.length_append]
    omega
theorem checkedC_vok {v : Vlt} {l : List Cpy} (hv : VOk (withC v l)) {k : Nat} (hk : k < l.length) {every day : Int} (he : 1 ≤ every) (hd : day ≤ 200000) (h : ¬ l[k].last + every > day) : VOk (withC v (checkedC l k day)) := by
  unfold checkedC
  rw [modify_set _ hk]
  have hck := hv.cpy _ (List.getElem_mem hk)
  have h1 := hck.last
  refine vok_set hv hk rfl rfl rfl rfl rfl ⟨?_, hd⟩ (stillI_sbad (sbad_of hck.bad))
  show l[k].day ≤ day
  omega
theorem chk1_vok {v : Vlt} {s : List Cpy × List Dn} (hv : VOk (withC v s.1)) {every day : Int} (he : 1 ≤ every) (hd : day ≤ 200000) (k : Nat) : VOk (withC v (chk1 every day s k).1) := by
  by_cases hk : k < s.1.length
  · by_cases h : s.1[k].last + every > day
    · rw [chk1_no hk h]; exact hv
    · rw [chk1_yes hk h]; exact checkedC_vok hv hk he hd h
  · unfold chk1
    rw [List.getElem?_eq_none (by omega)]
    exact hv
theorem chkTo_vok {v : Vlt} {s : List Cpy × List Dn} (hv : VOk (withC v s.1)) {every day : Int} (he : 1 ≤ every) (hd : day ≤ 200000) : ∀ k, VOk (withC v (chkTo every day s k).1)
  | 0 => hv
  | k + 1 => chk1_vok (chkTo_vok hv he hd k) he hd k
def dayH (hs : List Hrm) (day : Int) : List Hrm := hs.takeWhile fun h => decide (h.day = day)
structure St where
  l : List Cpy
  hs : List Hrm
  o : List Dn
def day1 (every : Int) (s : St) (day : Int) : St :=
  ⟨(chkTo every day ((dayH s.hs day).foldl harmC s.l, s.o) s.l.length).1, s.hs.drop (dayH s.hs day).length, (chkTo every day ((dayH s.hs day).foldl harmC s.l, s.o) s.l.length).2⟩
def liveTo (every frm : Int) (s : St) : Nat → St
  | 0 => s
  | n + 1 => day1 every (liveTo every frm s n) (frm + n)
theorem day1_len (every : Int) (s : St) (day : Int) : (day1 every s day).l.length = s.l.length := by
  unfold day1
  rw [chkTo_len]
  exact harms_len _ _
theorem liveTo_len (every frm : Int) (s : St) : ∀ n, (liveTo every frm s n).l.length = s.l.length
  | 0 => rfl
  | n + 1 => by unfold liveTo; rw [day1_len, liveTo_len every frm s n]
theorem dayH_sub {hs : List Hrm} {day : Int} : ∀ h ∈ dayH hs day, h ∈ hs := fun _ h => (List.takeWhile_sublist _).subset h
theorem day1_hs {every : Int} {s : St} {day : Int} : ∀ h ∈ (day1 every s day).hs, h ∈ s.hs := fun _ h => List.mem_of_mem_drop h
theorem liveTo_hs {every frm : Int} {s : St} : ∀ n, ∀ h ∈ (liveTo every frm s n).hs, h ∈ s.hs
  | 0, _, h => h
  | n + 1, _, h => liveTo_hs n _ (day1_hs _ h)
theorem day1_vok {v : Vlt} {s : St} (hv : VOk (withC v s.l)) (hh : ∀ h ∈ s.hs, HrmOk v h) {every day : Int} (he : 1 ≤ every) (hd : day ≤ 200000) : VOk (withC v (day1 every s day).l) :=
  chkTo_vok (s := ((dayH s.hs day).foldl harmC s.l, s.o)) (harms_vok _ hv fun h hm => hh h (dayH_sub h hm)) he hd _
theorem liveTo_vok {v : Vlt} {s : St} (hv : VOk (withC v s.l)) (hh : ∀ h ∈ s.hs, HrmOk v h) {every frm : Int} (he : 1 ≤ every) : ∀ n : Nat, frm + n ≤ 200001 → VOk (withC v (liveTo every frm s n).l)
  | 0, _ => hv
  | n + 1, hn => day1_vok (liveTo_vok hv hh he n (by omega)) (fun h hm => hh h (liveTo_hs n h hm)) he (by omega)
theorem vok_bad {v : Vlt} {l : List Cpy} (hv : VOk (withC v l)) : ∀ c ∈ l, c.bad.length ≤ 1000 := fun c hc => by
  have h1 := hv.cpy c hc
  have h2 := itemBlocks_bound (okItems_of hv.items) c.item
  have h3 := (sbad_of h1.bad).len h2.1
  omega
theorem day1_mono (every : Int) (s : St) (day : Int) : s.o.length ≤ (day1 every s day).o.length := by
  have h1 := chkTo_mono every day ((dayH s.hs day).foldl harmC s.l, s.o) 0 s.l.length
  rw [Nat.zero_add] at h1
  exact h1
theorem liveTo_mono (every frm : Int) (s : St) (n : Nat) : ∀ m, (liveTo every frm s n).o.length ≤ (liveTo every frm s (n + m)).o.length
  | 0 => Nat.le_refl _
  | m + 1 => Nat.le_trans (liveTo_mono every frm s n m) (day1_mono every _ _)
/-! All of Live. -/
def harmFault (v : Vlt) (frm to : Int) (hs : List Hrm) (k : Nat) : Int :=
  if h : k < hs.length then
    if ¬ (frm ≤ hs[k].day ∧ hs[k].day ≤ to - 1) then 1
    else if itemIdx v hs[k].item < 0 ∨ carrIdx v hs[k].carrier < 0 then 9
    else if ¬ (0 ≤ hs[k].block ∧ hs[k].block ≤ itemBlocks v hs[k].item - 1) then 1
    else if 0 < k ∧ hs[k].day < (hs[k - 1]'(by omega)).day then 8 else 0
  else 0
def harmsFault (v : Vlt) (frm to : Int) (hs : List Hrm) : Int := if 1000 < (hs.length : Int) then 2 else ffst (harmFault v frm to hs) hs.length
def liveS (v : Vlt) (p : Pol) (frm to : Int) (hs : List Hrm) : St := liveTo p.every frm ⟨v.copies, hs, []⟩ (to - frm).toNat
def liveFault (v : Vlt) (p : Pol) (frm to : Int) (hs : List Hrm) : Int :=
  if bothFault v p ≠ 0 then bothFault v p
  else if ¬ (0 ≤ frm ∧ frm ≤ 200000) ∨ ¬ (frm ≤ to ∧ to ≤ 200001) then 1
  else if harmsFault v frm to hs ≠ 0 then harmsFault v frm to hs
  else if 20000 < (liveS v p frm to hs).o.length then 2 else 0
def liveV (v : Vlt) (p : Pol) (frm to : Int) (hs : List Hrm) : Vlt := if liveFault v p frm to hs = 0 then withC v (liveS v p frm to hs).l else ⟨[], [], []⟩
def liveO (v : Vlt) (p : Pol) (frm to : Int) (hs : List Hrm) : List Dn := if liveFault v p frm to hs = 0 then (liveS v p frm to hs).o else []
theorem harmFault_1 {v : Vlt} {frm to : Int} {hs : List Hrm} {k : Nat} (hk : k < hs.length) (h : ¬ (frm ≤ hs[k].day ∧ hs[k].day ≤ to - 1)) : harmFault v frm to hs k = 1 := by unfold harmFault; rw [dif_pos hk, if_pos h]
theorem harmFault_9 {v : Vlt} {frm to : Int} {hs : List Hrm} {k : Nat} (hk : k < hs.length) (h : frm ≤ hs[k].day ∧ hs[k].day ≤ to - 1) (h2 : itemIdx v hs[k].item < 0 ∨ carrIdx v hs[k].carrier < 0) : harmFault v frm to hs k = 9 := by
  unfold harmFault; rw [dif_pos hk, if_neg (fun hh => hh h), if_pos h2]
theorem harmFault_1b {v : Vlt} {frm to : Int} {hs : List Hrm} {k : Nat} (hk : k < hs.length) (h : frm ≤ hs[k].day ∧ hs[k].day ≤ to - 1) (h2 : ¬ (itemIdx v hs[k].item < 0 ∨ carrIdx v hs[k].carrier < 0)) (h3 : ¬ (0 ≤ hs[k].block ∧ hs[k].block ≤ itemBlocks v hs[k].item - 1)) : harmFault v frm to hs k = 1 := by
  unfold harmFault; rw [dif_pos hk, if_neg (fun hh => hh h), if_neg h2, if_pos h3]
theorem harmFault_8 {v : Vlt} {frm to : Int} {hs : List Hrm} {k : Nat} (hk : k < hs.length) (h : frm ≤ hs[k].day ∧ hs[k].day ≤ to - 1) (h2 : ¬ (itemIdx v hs[k].item < 0 ∨ carrIdx v hs[k].carrier < 0)) (h3 : 0 ≤ hs[k].block ∧ hs[k].block ≤ itemBlocks v hs[k].item - 1) (h4 : 0 < k ∧ hs[k].day < (hs[k - 1]'(by omega)).day) : harmFault v frm to hs k = 8 := by
  unfold harmFault; rw [dif_pos hk, if_neg (fun hh => hh h), if_neg h2, if_neg (fun hh => hh h3), if_pos h4]
theorem harmFault_0 {v : Vlt} {frm to : Int} {hs : List Hrm} {k : Nat} (hk : k < hs.length) (h : frm ≤ hs[k].day ∧ hs[k].day ≤ to - 1) (h2 : ¬ (itemIdx v hs[k].item < 0 ∨ carrIdx v hs[k].carrier < 0)) (h3 : 0 ≤ hs[k].block ∧ hs[k].block ≤ itemBlocks v hs[k].item - 1) (h4 : ¬ (0 < k ∧ hs[k].day < (hs[k - 1]'(by omega)).day)) : harmFault v frm to hs k = 0 := by
  unfold harmFault; rw [dif_pos hk, if_neg (fun hh => hh h), if_neg h2, if_neg (fun hh => hh h3), if_neg h4]
theorem harmFault_ok {v : Vlt} {frm to : Int} {hs : List Hrm} {k : Nat} (hk : k < hs.length) (h : harmFault v frm to hs k = 0) : (frm ≤ hs[k].day ∧ hs[k].day ≤ to - 1) ∧ HrmOk v hs[k] ∧ ¬ (0 < k ∧ hs[k].day < (hs[k - 1]'(by omega)).day) := by
  by_cases h1 : frm ≤ hs[k].day ∧ hs[k].day ≤ to - 1
  · by_cases h2 : itemIdx v hs[k].item < 0 ∨ carrIdx v hs[k].carrier < 0
    · rw [harmFault_9 hk h1 h2] at h; simp at h
    · by_cases h3 : 0 ≤ hs[k].block ∧ hs[k].block ≤ itemBlocks v hs[k].item - 1
      · by_cases h4 : 0 < k ∧ hs[k].day < (hs[k - 1]'(by omega)).day
        · rw [harmFault_8 hk h1 h2 h3 h4] at h; simp at h
        · exact ⟨h1, ⟨by omega, by omega, h3⟩, h4⟩
      · rw [harmFault_1b hk h1 h2 h3] at h; simp at h
  · rw [harmFault_1 hk h1] at h; simp at h
/-- Harms that are right. -/
structure HsOk (v : Vlt) (frm to : Int) (hs : List Hrm) : Prop where
  len : hs.length ≤ 1000
  ok : ∀ h ∈ hs, HrmOk v h
  day : ∀ h ∈ hs, frm ≤ h.day ∧ h.day ≤ to - 1
  sorted : hs.Pairwise fun a b => a.day ≤ b.day
theorem pw_of_adjH {l : List Hrm} (h : ∀ k (hk : k + 1 < l.length), l[k].day ≤ l[k + 1].day) : l.Pairwise fun a b => a.day ≤ b.day := by
  rw [List.pairwise_iff_getElem]
  intro i j hi hj hij
  obtain ⟨d, rfl⟩ : ∃ d, j = i + d + 1 := ⟨j - i - 1, by omega⟩
  clear hij
  induction d with
  | zero => exact h i hj
  | succ d ih => exact Int.le_trans (ih (by omega)) (h (i + d + 1) hj)
theorem hsok_of {v : Vlt} {frm to : Int} {hs : List Hrm} (h : harmsFault v frm to hs = 0) : HsOk v frm to hs := by
  unfold harmsFault at h
  by_cases h1 : 1000 < (hs.length : Int)
  · rw [if_pos h1] at h; simp at h
  · rw [if_neg h1] at h
    have h2 := ffst_all _ h
    refine ⟨by omega, fun x hx => ?_, fun x hx => ?_, pw_of_adjH fun k hk => ?_⟩
    · obtain ⟨k, hk, rfl⟩ := List.mem_iff_getElem.1 hx
      exact (harmFault_ok hk (h2 k hk)).2.1
    · obtain ⟨k, hk, rfl⟩ := List.mem_iff_getElem.1 hx
      exact (harmFault_ok hk (h2 k hk)).1
    · have h3 := (harmFault_ok hk (h2 (k + 1) hk)).2.2
      have h4 : ¬ hs[k + 1].day < hs[k].day := fun hh => h3 ⟨Nat.succ_pos k, by simpa using hh⟩
      omega
end Go.Proofs.YtieccphckobhjaaGreatDoor


namespace Go.Proofs.YtieccphckobhjaaGreatDoor
open Go.RowKit
set_option linter.unusedVariables false

/-! Types. -/
namespace TyQ2

end TyQ2
open TyQ2


theorem dayH_le (hs : List Hrm) (day : Int) : (dayH hs day).length ≤ hs.length := (List.takeWhile_sublist _).length_le
theorem rem_after {day : Int} : ∀ (hs : List Hrm), (hs.Pairwise fun a b => a.day ≤ b.day) → (∀ h ∈ hs, day ≤ h.day) → ∀ h ∈ hs.drop (dayH hs day).length, day + 1 ≤ h.day
  | [], _, _, h, hm => by simp at hm
  | x :: t, hp, hd, h, hm => by
    unfold dayH at hm
    rw [List.takeWhile_cons] at hm
    have hp' := List.pairwise_cons.1 hp
    by_cases e : x.day = day
    · rw [if_pos (by simpa using e), List.length_cons, List.drop_succ_cons] at hm
      exact rem_after t hp'.2 (fun h' hm' => hd h' (List.mem_cons_of_mem _ hm')) h hm
    · rw [if_neg (by simpa using e)] at hm
      have h1 := hd x (by simp)
      rcases List.mem_cons.1 hm with rfl | hm
      · omega
      · have := hp'.1 h hm
        omega
theorem liveTo_rem {every frm : Int} (l : List Cpy) (hs : List Hrm) (o : List Dn) (hp : hs.Pairwise fun a b => a.day ≤ b.day) (hd : ∀ h ∈ hs, frm ≤ h.day) : ∀ n : Nat,
    ((liveTo every frm ⟨l, hs, o⟩ n).hs.Pairwise fun a b => a.day ≤ b.day) ∧ ∀ h ∈ (liveTo every frm ⟨l, hs, o⟩ n).hs, frm + n ≤ h.day
  | 0 => ⟨hp, fun h hm => by have := hd h hm; simpa using this⟩
  | n + 1 => by
    obtain ⟨h1, h2⟩ := liveTo_rem (every := every) l hs o hp hd n
    refine ⟨h1.sublist (List.drop_sublist _ _), fun h hm => ?_⟩
    have := rem_after _ h1 h2 h hm
    omega
structure LvOk (v : Vlt) (p : Pol) (frm to : Int) (hs : List Hrm) : Prop where
  vv : VOk v
  pp : POk p
  both : bothFault v p = 0
  fr : 0 ≤ frm ∧ frm ≤ 200000
  tt : frm ≤ to ∧ to ≤ 200001
  hh : HsOk v frm to hs
  out : (liveS v p frm to hs).o.length ≤ 20000
end Go.Proofs.YtieccphckobhjaaGreatDoor


namespace Go.Proofs.YtieccphckobhjaaGreatDoor
open Go.RowKit
set_option linter.unusedVariables false

/-! Types. -/
namespace TyQ3

end TyQ3
open TyQ3


theorem cb_trans : ∀ (a b c : List UInt8), Lib.compareBytes a b < 0 → Lib.compareBytes b c < 0 → Lib.compareBytes a c < 0
  | [], [], c, h, _ => by simp [Lib.compareBytes] at h
  | [], _ :: _, [], _, h => by simp [Lib.compareBytes] at h
  | [], _ :: _, _ :: _, _, _ => by simp [Lib.compareBytes]
  | _ :: _, [], _, h, _ => by simp [Lib.compareBytes] at h
  | _ :: _, _ :: _, [], _, h => by simp [Lib.compareBytes] at h
  | x :: a, y :: b, z :: c, h1, h2 => by
    unfold Lib.compareBytes at h1 h2 ⊢
    by_cases hxz : x < z
    · rw [if_pos hxz]; decide
    · rw [if_neg hxz]
      by_cases hxy : x < y
      · by_cases hyz : y < z
        · exact absurd (UInt8.lt_trans hxy hyz) hxz
        · rw [if_neg hyz] at h2
          by_cases hzy : z < y
          · rw [if_pos hzy] at h2; simp at h2
          · have : y = z := UInt8.le_antisymm (UInt8.not_lt.1 hzy) (UInt8.not_lt.1 hyz)
            exact absurd (this ▸ hxy) hxz
      · rw [if_neg hxy] at h1
        by_cases hyx : y < x
        · rw [if_pos hyx] at h1; simp at h1
        · rw [if_neg hyx] at h1
          have e : x = y := UInt8.le_antisymm (UInt8.not_lt.1 hyx) (UInt8.not_lt.1 hxy)
          subst e
          rw [if_neg hxz] at h2
          by_cases hzx : z < x
          · rw [if_pos hzx] at h2; simp at h2
          · rw [if_neg hzx] at h2 ⊢
            exact cb_trans a b c h1 h2
theorem strCmp_trans {a b c : ByteArray} (h1 : strCmp a b < 0) (h2 : strCmp b c < 0) : strCmp a c < 0 := cb_trans _ _ _ h1 h2
theorem strCmp_self (a : ByteArray) : strCmp a a = 0 := strCmp_zero.2 rfl
theorem cpyCmp_trans {a b c : Cpy} (h1 : cpyCmp a b < 0) (h2 : cpyCmp b c < 0) : cpyCmp a c < 0 := by
  unfold cpyCmp at *
  by_cases e1 : a.item = b.item
  · rw [if_pos e1] at h1
    by_cases e2 : b.item = c.item
    · rw [if_pos e2] at h2
      rw [if_pos (e1.trans e2)]
      exact strCmp_trans h1 h2
    · rw [if_neg e2] at h2
      rw [if_neg (fun e => e2 (e1.symm.trans e)), e1]
      exact h2
  · rw [if_neg e1] at h1
    by_cases e2 : b.item = c.item
    · rw [if_pos e2] at h2
      rw [if_neg (fun e => e1 (e.trans e2.symm)), ← e2]
      exact h1
    · rw [if_neg e2] at h2
      have h3 := strCmp_trans h1 h2
      rw [if_neg (fun e => by rw [e, strCmp_self] at h3; omega)]
      exact h3
theorem VOk.lt {v : Vlt} (h : VOk v) : ∀ i j (hi : i < v.copies.length) (hj : j < v.copies.length), i < j → cpyCmp v.copies[i] v.copies[j] < 0 := by
  intro i j hi hj hij
  obtain ⟨d, rfl⟩ : ∃ d, j = i + d + 1 := ⟨j - i - 1, by omega⟩
  clear hij
  induction d with
  | zero => exact h.order i hj
  | succ d ih => exact cpyCmp_trans (ih (by omega)) (h.order (i + d + 1) hj)
theorem cpyCmp_eq {a b : Cpy} (h1 : a.item = b.item) (h2 : a.carrier = b.carrier) : cpyCmp a b = 0 := by unfold cpyCmp; rw [if_pos h1, h2]; exact strCmp_self _
theorem VOk.inj {v : Vlt} (h : VOk v) {i j : Nat} (hi : i < v.copies.length) (hj : j < v.copies.length) (h1 : v.copies[i].item = v.copies[j].item) (h2 : v.copies[i].carrier = v.copies[j].carrier) : i = j := by
  rcases Nat.lt_trichotomy i j with hh | hh | hh
  · have := h.lt i j hi hj hh
    rw [cpyCmp_eq h1 h2] at this; omega
  · exact hh
  · have := h.lt j i hj hi hh
    rw [cpyCmp_eq h1.symm h2.symm] at this; omega
/-! Who is safe. -/
def copyIdx (v : Vlt) (it ca : ByteArray) : Int := idxBy (fun x : Cpy => decide (x.item = it) && decide (x.carrier = ca)) v.copies
def isHit (v : Vlt) (p : Pol) (it : ByteArray) (f h : Hrm) : Bool := decide (h.item = it) && (decide (h.day ≥ f.day) && (decide (h.day < f.day + p.every) && decide (copyIdx v it h.carrier ≥ 0)))
def addCa (v : Vlt) (p : Pol) (it : ByteArray) (f : Hrm) (acc : List ByteArray) (h : Hrm) : List ByteArray := if isHit v p it f h = true ∧ h.carrier ∉ acc then acc ++ [h.carrier] else acc
def hitC (v : Vlt) (p : Pol) (it : ByteArray) (f : Hrm) (hs : List Hrm) : List ByteArray := hs.foldl (addCa v p it f) []
def cpSafe (p : Pol) (frm : Int) (c : Cpy) : Bool := decide (c.bad = []) && (decide (c.last < frm) && decide (frm ≤ c.last + p.every))
def nOf (v : Vlt) (it : ByteArray) : Nat := (v.copies.filter fun c => decide (c.item = it)).length
def isSafe (v : Vlt) (p : Pol) (frm : Int) (hs : List Hrm) (it : ByteArray) : Bool :=
  (v.copies.all fun c => !decide (c.item = it) || cpSafe p frm c) && ((hs.all fun f => decide ((hitC v p it f hs).length < nOf v it)) && decide (0 < nOf v it))
/-- The copies stay where they are. -/
def Same (l m : List Cpy) : Prop := l.length = m.length ∧ ∀ i (h1 : i < l.length) (h2 : i < m.length), l[i].item = m[i].item ∧ l[i].carrier = m[i].carrier
/-- What holds of the copies of a safe item, in the course of day d: at the beginning of it (lim = d - 1), and from the harms on (lim = d). -/
def Fine (p : Pol) (hs : List Hrm) (it : ByteArray) (d : Int) (c : Cpy) : Prop := c.item = it → (c.bad = [] ∨ ∃ h ∈ hs, h.item = it ∧ h.carrier = c.carrier ∧ c.last < h.day ∧ h.day ≤ d) ∧ c.last ≤ d ∧ d ≤ c.last + p.every
def Pre (p : Pol) (hs : List Hrm) (it : ByteArray) (d : Int) (l : List Cpy) : Prop := ∀ c ∈ l, Fine p hs it d c ∧ (c.item = it → c.last < d)
def Mid (p : Pol) (hs : List Hrm) (it : ByteArray) (d : Int) (l : List Cpy) (k : Nat) : Prop := ∀ i (hi : i < l.length), Fine p hs it d l[i] ∧ (k ≤ i → l[i].item = it → l[i].last < d) ∧ (i < k → l[i].item = it → d + 1 ≤ l[i].last + p.every)
structure SafeC (v : Vlt) (p : Pol) (frm : Int) (hs : List Hrm) (it : ByteArray) : Prop where
  cp : ∀ c ∈ v.copies, c.item = it → c.bad = [] ∧ c.last < frm ∧ frm ≤ c.last + p.every
  few : ∀ f ∈ hs, (hitC v p it f hs).length < nOf v it
  pos : 0 < nOf v it
theorem takeWhile_mem {α : Type} {p : α → Bool} : ∀ (l : List α) (x : α), x ∈ l.takeWhile p → p x = true
  | [], _, h => by simp at h
  | y :: l, x, h => by
    rw [List.takeWhile_cons] at h
    by_cases e : p y = true
    · rw [if_pos e] at h
      rcases List.mem_cons.1 h with rfl | h
      · exact e
      · exact takeWhile_mem l x h
    · rw [if_neg e] at h; cases h
end Go.Proofs.YtieccphckobhjaaGreatDoor


namespace Go.Proofs.YtieccphckobhjaaGreatDoor
open Go.RowKit
set_option linter.unusedVariables false

/-! Types. -/
namespace TyR1

end TyR1
open TyR1


section
variable (frm every : Int)
def dueAt (c : Cpy) (d : Int) : Prop := fstD frm every c ≤ d ∧ (d - fstD frm every c) % every = 0
instance (c : Cpy) (d : Int) : Decidable (dueAt frm every c d) := by unfold dueAt; infer_instance
def dayTag1 (d : Int) (c : Cpy) (j : Nat) : List (Tsk × Nat) := if dueAt frm every c d then [(⟨d, c.item, c.carrier⟩, j * 1000000 + d.toNat)] else []
/-- What is due on a day, of the first n copies. -/
def dayTag (l : List Cpy) (d : Int) : Nat → List (Tsk × Nat)
  | 0 => []
  | n + 1 => dayTag l d n ++ (match l[n]? with | none => [] | some c => dayTag1 frm every d c n)
def allTag (l : List Cpy) : Nat → List (Tsk × Nat)
  | 0 => []
  | n + 1 => allTag l n ++ dayTag frm every l (frm + n) l.length
end
section
variable {frm every to : Int}
theorem mem_dayTag {l : List Cpy} {d : Int} {x : Tsk × Nat} : ∀ {n : Nat}, x ∈ dayTag frm every l d n ↔ ∃ j c, j < n ∧ l[j]? = some c ∧ dueAt frm every c d ∧ x = (⟨d, c.item, c.carrier⟩, j * 1000000 + d.toNat)
  | 0 => by unfold dayTag; simp
  | n + 1 => by
    unfold dayTag
    rw [List.mem_append, mem_dayTag (n := n)]
    constructor
    · rintro (⟨j, c, h1, h2⟩ | h)
      · exact ⟨j, c, by omega, h2⟩
      · cases hc : l[n]? with
        | none => rw [hc] at h; simp at h
        | some c =>
          rw [hc] at h
          dsimp only at h
          unfold dayTag1 at h
          by_cases hd : dueAt frm every c d
          · rw [if_pos hd, List.mem_singleton] at h
            exact ⟨n, c, by omega, hc, hd, h⟩
          · rw [if_neg hd] at h; cases h
    · rintro ⟨j, c, h1, h2, h3, h4⟩
      by_cases e : j = n
      · subst e
        right
        rw [h2]
        dsimp only
        unfold dayTag1
        rw [if_pos h3, List.mem_singleton]
        exact h4
      · exact .inl ⟨j, c, by omega, h2, h3, h4⟩
theorem mem_allTag {l : List Cpy} {x : Tsk × Nat} : ∀ {n : Nat}, x ∈ allTag frm every l n ↔ ∃ i, i < n ∧ x ∈ dayTag frm every l (frm + (i : Int)) l.length
  | 0 => by unfold allTag; simp
  | n + 1 => by
    unfold allTag
    rw [List.mem_append, mem_allTag (n := n)]
    constructor
    · rintro (⟨i, h1, h2⟩ | h)
      · exact ⟨i, by omega, h2⟩
      · exact ⟨n, by omega, h⟩
    · rintro ⟨i, h1, h2⟩
      by_cases e : i = n
      · subst e; exact .inr h2
      · exact .inl ⟨i, by omega, h2⟩
theorem dayTag_sorted {l : List Cpy} {d : Int} : ∀ n, (dayTag frm every l d n).Pairwise (tlt cmpT)
  | 0 => .nil
  | n + 1 => by
    unfold dayTag
    rw [List.pairwise_append]
    refine ⟨dayTag_sorted n, ?_, fun x hx y hy => ?_⟩
    · cases l[n]? with
      | none => exact .nil
      | some c =>
        dsimp only
        unfold dayTag1
        split
        · exact List.pairwise_singleton _ _
        · exact .nil
    · obtain ⟨j, c, h1, _, _, rfl⟩ := mem_dayTag.1 hx
      cases hc : l[n]? with
      | none => rw [hc] at hy; simp at hy
      | some c2 =>
        rw [hc] at hy
        dsimp only at hy
        unfold dayTag1 at hy
        split at hy
        · rw [List.mem_singleton] at hy
          subst hy
          exact tlt_tag rfl (by dsimp only; omega)
        · cases hy
theorem allTag_sorted {l : List Cpy} : ∀ n, (allTag frm every l n).Pairwise (tlt cmpT)
  | 0 => .nil
  | n + 1 => by
    unfold allTag
    rw [List.pairwise_append]
    refine ⟨allTag_sorted n, dayTag_sorted _, fun x hx y hy => ?_⟩
    obtain ⟨i, h1, h2⟩ := mem_allTag.1 hx
    obtain ⟨_, _, _, _, _, rfl⟩ := mem_dayTag.1 h2
    obtain ⟨_, _, _, _, _, rfl⟩ := mem_dayTag.1 hy
    exact tlt_day (by dsimp only; omega)
theorem due_days {v : Vlt} {p : Pol} (he : 1 ≤ p.every) (hf : 0 ≤ frm) (ht : to ≤ 200001) : allTag frm p.every v.copies (to - frm).toNat = dueL v p frm to := by
  have hinc := tag_incr he hf ht (l := v.copies) v.copies.length
  have hnd1 : (allTag frm p.every v.copies (to - frm).toNat).Nodup := (allTag_sorted _).imp fun {a b} hab he => by subst he; exact tlt_irrefl pre_cmpT a hab
  have hnd2 : (dueAll v p frm to).Nodup := hinc.imp fun {a b} hab he => by subst he; omega
  have hperm : (allTag frm p.every v.copies (to - frm).toNat).Perm (dueAll v p frm to) := (List.perm_ext_iff_of_nodup hnd1 hnd2).2 fun x => by
    rw [mem_allTag]
    unfold dueAll
    rw [mem_tagTo]
    constructor
    · rintro ⟨i, h1, h2⟩
      obtain ⟨j, c, h3, h4, ⟨h5, h6⟩, rfl⟩ := mem_dayTag.1 h2
      have hk : dayD frm p.every c ((frm + (i : Int) - fstD frm p.every c) / p.every).toNat = frm + (i : Int) := by
        unfold dayD
        have h7 : 0 ≤ (frm + (i : Int) - fstD frm p.every c) / p.every := Int.ediv_nonneg (by omega) (by omega)
        rw [Int.toNat_of_nonneg h7, Int.ediv_mul_cancel (Int.dvd_of_emod_eq_zero h6)]
        omega
      refine ⟨j, c, _, h3, h4, (cnt_iff he c _).1 (by rw [hk]; omega), ?_⟩
      unfold elD
      rw [hk]
    · rintro ⟨j, c, k, h1, h2, h3, rfl⟩
      have h4 := (cnt_iff he c k).2 h3
      have h5 : 0 ≤ (k : Int) * p.every := Int.mul_nonneg (by omega) (by omega)
      have h6 : fstD frm p.every c ≤ dayD frm p.every c k := by unfold dayD; omega
      have h7 : frm ≤ fstD frm p.every c := by unfold fstD; omega
      refine ⟨(dayD frm p.every c k - frm).toNat, by omega, mem_dayTag.2 ⟨j, c, h1, h2, ⟨by omega, ?_⟩, ?_⟩⟩
      · rw [show frm + (((dayD frm p.every c k - frm).toNat : Nat) : Int) = dayD frm p.every c k by omega]
        unfold dayD
        rw [show fstD frm p.every c + (k : Int) * p.every - fstD frm p.every c = (k : Int) * p.every by omega]
        exact Int.mul_emod_left _ _
      · rw [show frm + (((dayD frm p.every c k - frm).toNat : Nat) : Int) = dayD frm p.every c k by omega]
        rfl
  unfold dueL
  refine sortSeg_eq pre_cmpT (Nat.zero_le _) (tags_of hinc) hperm (fun q hq => ?_) (fun i j x y _ hij _ hx hy => ?_)
  · rw [List.getElem?_eq_none (by rw [hperm.length_eq]; omega), List.getElem?_eq_none (by omega)]
  · obtain ⟨h1, e1⟩ := List.getElem?_eq_some_iff.1 hx
    obtain ⟨h2, e2⟩ := List.getElem?_eq_some_iff.1 hy
    rw [← e1, ← e2]
    exact List.pairwise_iff_getElem.1 (allTag_sorted _) i j h1 h2 hij
theorem due_count {v : Vlt} {p : Pol} (he : 1 ≤ p.every) (hf : 0 ≤ frm) (ht : to ≤ 200001) : (allTag frm p.every v.copies (to - frm).toNat).length = manyTo frm p.every to v.copies v.copies.length := by
  rw [due_days he hf ht]
  unfold dueL
  rw [sortSeg_len _ _ (Nat.zero_le _), ← tagTo_len (Nat.le_refl _)]
  rfl
end
/-! When a copy is due. -/
/-- The copy c at the beginning of day d, which was c0 at first. -/
def CI (frm every d : Int) (c0 c : Cpy) : Prop := c.item = c0.item ∧ c.carrier = c0.carrier ∧ ((c.last = c0.last ∧ d ≤ fstD frm every c0) ∨ ∃ m : Nat, c.last = fstD frm every c0 + m * every ∧ c.last < d ∧ d ≤ c.last + every)
theorem CI.due {frm every d : Int} {c0 c : Cpy} (he : 1 ≤ every) (hd : frm ≤ d) (h : CI frm every d c0 c) : ¬ c.last + every > d ↔ dueAt frm every c0 d := by
  obtain ⟨_, _, h | ⟨m, h1, h2, h3⟩⟩ := h
  · obtain ⟨h1, h2⟩ := h
    unfold dueAt fstD at *
    constructor
    · intro h3
      have e : d - max frm (c0.last + every) = 0 := by omega
      rw [e]
      exact ⟨by omega, by simp⟩
    · rintro ⟨h3, _⟩
      omega
  · unfold dueAt
    have hm : 0 ≤ (m : Int) * every := Int.mul_nonneg (by omega) (by omega)
    constructor
    · intro h4
      have e : d - fstD frm every c0 = ((m : Int) + 1) * every := by rw [Int.add_mul, Int.one_mul]; omega
      rw [e]
      exact ⟨by omega, Int.mul_emod_left _ _⟩
    · rintro ⟨_, h5⟩ h6
      obtain ⟨r, hr⟩ : ∃ r, r = d - c.last := ⟨_, rfl⟩
      have e : d - fstD frm every c0 = r + (m : Int) * every := by omega
      rw [e, Int.add_mul_emod_self_right, Int.emod_eq_of_lt (by omega) (by omega)] at h5
      omega
theorem CI.next_no {frm every d : Int} {c0 c : Cpy} (h : CI frm every d c0 c) (hd : frm ≤ d) (hn : c.last + every > d) : CI frm every (d + 1) c0 c := by
  obtain ⟨h1, h2, h | ⟨m, h3, h4, h5⟩⟩ := h
  · refine ⟨h1, h2, .inl ⟨h.1, ?_⟩⟩
    have := h.1
    have := h.2
    unfold fstD at *
    omega
  · exact ⟨h1, h2, .inr ⟨m, h3, by omega, by omega⟩⟩
theorem CI.next_yes {frm every d : Int} {c0 c c' : Cpy} (he : 1 ≤ every) (h : CI frm every d c0 c) (hd : frm ≤ d) (hn : ¬ c.last + every > d) (e1 : c'.item = c.item) (e2 : c'.carrier = c.carrier) (e3 : c'.last = d) : CI frm every (d + 1) c0 c' := by
  obtain ⟨h1, h2, h | ⟨m, h3, h4, h5⟩⟩ := h
  · refine ⟨e1.trans h1, e2.trans h2, .inr ⟨0, ?_, by omega, by omega⟩⟩
    have := h.1
    have := h.2
    unfold fstD at *
    simp
    omega
  · refine ⟨e1.trans h1, e2.trans h2, .inr ⟨m + 1, ?_, by omega, by omega⟩⟩
    rw [Int.natCast_add, Int.add_mul]
    simp
    omega
/-! The reference's run over the tasks. -/
def keyIdx (l : List Cpy) (it ca : ByteArray) : Nat := l.findIdx fun x => decide (x.item = it) && decide (x.carrier = ca)
def upTo (hs : List Hrm) (d : Int) : List Hrm := hs.takeWhile fun h => decide (h.day ≤ d)
def refT (s : St) (t : Tsk) : St :=
  ⟨checkedC ((upTo s.hs t.day).foldl harmC s.l) (keyIdx ((upTo s.hs t.day).foldl harmC s.l) t.item t.carrier) t.day, s.hs.drop (upTo s.hs t.day).length,
    s.o ++ [doneC ((upTo s.hs t.day).foldl harmC s.l) (((upTo s.hs t.day).foldl harmC s.l).getD (keyIdx ((upTo s.hs t.day).foldl harmC s.l) t.item t.carrier) zC) t.day]⟩
theorem keyIdx_at {v : Vlt} {l : List Cpy} (hv : VOk (withC v l)) {k : Nat} (hk : k < l.length) : keyIdx l l[k].item l[k].carrier = k := by
  unfold keyIdx
  rw [List.findIdx_eq hk]
  refine ⟨by simp, fun j hj => ?_⟩
  have hjl : j < l.length := by omega
  cases hc : (decide (l[j].item = l[k].item) && decide (l[j].carrier = l[k].carrier)) with
  | false => rfl
  | true =>
    simp only [Bool.and_eq_true, decide_eq_true_eq] at hc
    have := hv.inj (i := j) (j := k) hjl hk hc.1 hc.2
    omega
theorem upTo_app {a b : List Hrm} {d : Int} (ha : ∀ h ∈ a, h.day ≤ d) : upTo (a ++ b) d = a ++ upTo b d := by
  induction a with
  | nil => rfl
  | cons x a ih =>
    unfold upTo at ih ⊢
    rw [List.cons_append, List.takeWhile_cons, if_pos (by simpa using ha x (by simp)), ih fun h hm => ha h (List.mem_cons_of_mem _ hm)]
    rfl
theorem upTo_day {hs : List Hrm} {d : Int} (hd : ∀ h ∈ hs, d ≤ h.day) : upTo hs d = dayH hs d := by
  induction hs with
  | nil => rfl
  | cons x hs ih =>
    unfold upTo dayH at ih ⊢
    rw [List.takeWhile_cons, List.takeWhile_cons]
    have h1 := hd x (by simp)
    by_cases e : x.day = d
    · rw [if_pos (by simp; omega), if_pos (by simpa using e), ih fun h hm => hd h (List.mem_cons_of_mem _ hm)]
    · rw [if_neg (by simp; omega), if_neg (by simpa using e)]
theorem upTo_none {hs : List Hrm} {d : Int} (hd : ∀ h ∈ hs, d < h.day) : upTo hs d = [] := by
  cases hs with
  | nil => rfl
  | cons x hs =>
    unfold upTo
    have h1 := hd x (by simp)
    rw [List.takeWhile_cons, if_neg (by simp; omega)]
/-- How the copies stand in the course of day d, behind k checks. -/
def MidCI (frm every d : Int) (l0 l : List Cpy) (k : Nat) : Prop := l.length = l0.length ∧ ∀ i (h1 : i < l.length) (h2 : i < l0.length), if i < k then CI frm every (d + 1) l0[i] l[i] else CI frm every d l0[i] l[i]
theorem MidCI.harm {frm every d : Int} {l0 l : List Cpy} {k : Nat} {h : Hrm} (hm : MidCI frm every d l0 l k) : MidCI frm every d l0 (harmC l h) k := by
  unfold harmC
  split
  · rename_i hc
    obtain ⟨hk, _, _⟩ := hasC_spec hc
    rw [modify_set _ hk]
    refine ⟨by rw [List.length_set]; exact hm.1, fun i h1 h2 => ?_⟩
    have h3 : i < l.length := by rw [List.length_set] at h1; exact h1
    have h4 := hm.2 i h3 h2
    rw [List.getElem_set]
    by_cases e : posC l (keyC h.item h.carrier) = i
    · subst e
      rw [if_pos rfl]
      by_cases hlt : posC l (keyC h.item h.carrier) < k
      · rw [if_pos hlt] at h4 ⊢; exact h4
      · rw [if_neg hlt] at h4 ⊢; exact h4
    · rw [if_neg e]; exact h4
  · exact hm
theorem MidCI.harms {frm every d : Int} {l0 : List Cpy} {k : Nat} : ∀ (hs : List Hrm) {l : List Cpy}, MidCI frm every d l0 l k → MidCI frm every d l0 (hs.foldl harmC l) k
  | [], _, h => h
  | _ :: hs, _, h => MidCI.harms hs h.harm
theorem MidCI.check {frm every d : Int} {l0 l : List Cpy} {k : Nat} {o : List Dn} (he : 1 ≤ every) (hd : frm ≤ d) (hm : MidCI frm every d l0 l k) (hk : k < l.length) : MidCI frm every d l0 (chk1 every d (l, o) k).1 (k + 1) := by
  have hk0 : k < l0.length := by rw [← hm.1]; exact hk
  have hck := hm.2 k hk hk0
  rw [if_neg (Nat.lt_irrefl k)] at hck
  by_cases hn : l[k].last + every > d
  · rw [chk1_no (s := (l, o)) hk hn]
    refine ⟨hm.1, fun i h1 h2 => ?_⟩
    by_cases e : i = k
    · subst e
      rw [if_pos (Nat.lt_succ_self _)]
      exact hck.next_no hd hn
    · have h3 := hm.2 i h1 h2
      by_cases hik : i < k
      · rw [if_pos hik] at h3
        rw [if_pos (by omega)]
        exact h3
      · rw [if_neg hik] at h3
        rw [if_neg (by omega)]
        exact h3
  · rw [chk1_yes (s := (l, o)) hk hn]
    have hset : checkedC l k d = l.set k { l[k] with bad := stillI l l[k], last := d } := modify_set _ hk
    show MidCI frm every d l0 (checkedC l k d) (k + 1)
    rw [hset]
    refine ⟨by rw [List.length_set]; exact hm.1, fun i h1 h2 => ?_⟩
    have h3 : i < l.length := by rw [List.length_set] at h1; exact h1
    rw [List.getElem_set]
    by_cases e : k = i
    · subst e
      rw [if_pos rfl, if_pos (Nat.lt_succ_self _)]
      exact hck.next_yes he hd hn rfl rfl rfl
    · rw [if_neg e]
      have h4 := hm.2 i h3 h2
      by_cases hik : i < k
      · rw [if_pos hik] at h4
        rw [if_pos (by omega)]
        exact h4
      · rw [if_neg hik] at h4
        rw [if_neg (by omega)]
        exact h4
/-- One day: the program's checks and the reference's tasks. -/
theorem day_sim {v : Vlt} {frm every d : Int} {l' l0 : List Cpy} {pend hs : List Hrm} {o : List Dn} (he : 1 ≤ every) (hd : frm ≤ d) (hd2 : d ≤ 200000) (hv : VOk (withC v ((pend ++ dayH hs d).foldl harmC l'))) (hp : ∀ h ∈ pend, h.day ≤ d) (hh : ∀ h ∈ hs, d ≤ h.day) (hsr : hs.Pairwise fun a b => a.day ≤ b.day)
    (hm : MidCI frm every d l0 ((pend ++ dayH hs d).foldl harmC l') 0) : ∀ k, k ≤ l0.length → MidCI frm every d l0 (chkTo every d ((pend ++ dayH hs d).foldl harmC l', o) k).1 k ∧
      ((dayTag frm every l0 d k = [] ∧ chkTo every d ((pend ++ dayH hs d).foldl harmC l', o) k = ((pend ++ dayH hs d).foldl harmC l', o)) ∨
        ((dayTag frm every l0 d k).map Prod.fst).foldl refT ⟨l', pend ++ hs, o⟩ = ⟨(chkTo every d ((pend ++ dayH hs d).foldl harmC l', o) k).1, hs.drop (dayH hs d).length, (chkTo every d ((pend ++ dayH hs d).foldl harmC l', o) k).2⟩)
  | 0, _ => ⟨hm, .inl ⟨rfl, rfl⟩⟩
  | k + 1, hk => by
    obtain ⟨h1, h2⟩ := day_sim he hd hd2 hv hp hh hsr hm k (by omega)
    have hvk : VOk (withC v (chkTo every d ((pend ++ dayH hs d).foldl harmC l', o) k).1) := chkTo_vok (s := ((pend ++ dayH hs d).foldl harmC l', o)) hv he hd2 k
    have hck : chkTo every d ((pend ++ dayH hs d).foldl harmC l', o) (k + 1) = chk1 every d (chkTo every d ((pend ++ dayH hs d).foldl harmC l', o) k) k := rfl
    rw [hck]
    have hrem := rem_after hs hsr hh
    generalize chkTo every d ((pend ++ dayH hs d).foldl harmC l', o) k = s at *
    obtain ⟨l, o'⟩ := s
    dsimp only at h1 h2 hvk ⊢
    have hkl : k < l.length := by rw [h1.1]; omega
    have hk0 : k < l0.length := by omega
    refine ⟨h1.check he hd hkl, ?_⟩
    have hci := h1.2 k hkl hk0
    rw [if_neg (Nat.lt_irrefl k)] at hci
    have htag : dayTag frm every l0 d (k + 1) = dayTag frm every l0 d k ++ dayTag1 frm every d l0[k] k := by
      show dayTag frm every l0 d k ++ _ = _
      rw [List.getElem?_eq_getElem hk0]
    rw [htag]
    by_cases hn : l[k].last + every > d
    · have hnd : ¬ dueAt frm every l0[k] d := fun h => (hci.due he hd).2 h hn
      have e1 : dayTag1 frm every d l0[k] k = [] := if_neg hnd
      rw [e1, List.append_nil, chk1_no (s := (l, o')) hkl hn]
      exact h2
    · have hdu := (hci.due he hd).1 hn
      have e1 : dayTag1 frm every d l0[k] k = [(⟨d, l0[k].item, l0[k].carrier⟩, k * 1000000 + d.toNat)] := if_pos hdu
      rw [e1, chk1_yes (s := (l, o')) hkl hn]
      right
      rw [List.map_append, List.foldl_append]
      have hki : keyIdx l l0[k].item l0[k].carrier = k := by rw [← hci.1, ← hci.2.1]; exact keyIdx_at hvk hkl
      have hgd : l.getD k zC = l[k] := by rw [List.getD_eq_getElem?_getD, List.getElem?_eq_getElem hkl]; rfl
      rcases h2 with ⟨h3, h4⟩ | h3
      · rw [h3]
        have e2 : (pend ++ dayH hs d).foldl harmC l' = l := (congrArg Prod.fst h4).symm
        have e3 : o' = o := congrArg Prod.snd h4
        have e4 : upTo (pend ++ hs) d = pend ++ dayH hs d := by rw [upTo_app hp, upTo_day hh]
        show refT ⟨l', pend ++ hs, o⟩ ⟨d, l0[k].item, l0[k].carrier⟩ = _
        unfold refT
        dsimp only
        rw [e4, e2, hki, hgd, e3, List.length_append, ← List.drop_drop, List.drop_left]
      · rw [h3]
        have e4 : upTo (hs.drop (dayH hs d).length) d = [] := upTo_none fun h hm => by have := hrem h hm; omega
        show refT ⟨l, hs.drop (dayH hs d).length, o'⟩ ⟨d, l0[k].item, l0[k].carrier⟩ = _
        unfold refT
        dsimp only
        rw [e4]
        simp only [List.foldl_nil, List.length_nil, List.drop_zero]
        rw [hki, hgd]
/-- All days. -/
theorem live_sim {v : Vlt} {every frm : Int} {hs0 : List Hrm} (hv : VOk v) (he : 1 ≤ every) (hok : ∀ h ∈ hs0, HrmOk v h) (hsr : hs0.Pairwise fun a b => a.day ≤ b.day) (hh : ∀ h ∈ hs0, frm ≤ h.day) : ∀ n : Nat, frm + n ≤ 200001 →
    MidCI frm every (frm + n) v.copies (liveTo every frm ⟨v.copies, hs0, []⟩ n).l 0 ∧ ∃ l' pend, (∀ h ∈ pend, h.day < frm + n) ∧ (liveTo every frm ⟨v.copies, hs0, []⟩ n).l = pend.foldl harmC l' ∧
      ((allTag frm every v.copies n).map Prod.fst).foldl refT ⟨v.copies, hs0, []⟩ = ⟨l', pend ++ (liveTo every frm ⟨v.copies, hs0, []⟩ n).hs, (liveTo every frm ⟨v.copies, hs0, []⟩ n).o⟩ ∧ (liveTo every frm ⟨v.copies, hs0, []⟩ n).o.length = (allTag frm every v.copies n).length
  | 0, _ => by
    refine ⟨⟨rfl, fun i h1 h2 => ?_⟩, v.copies, [], (fun h hm => by cases hm), rfl, rfl, rfl⟩
    rw [if_neg (Nat.not_lt_zero i)]
    refine ⟨rfl, rfl, .inl ⟨rfl, ?_⟩⟩
    unfold fstD
    simp
    omega
  | n + 1, hn => by
    obtain ⟨h1, l', pend, h2, h3, h4, h5⟩ := live_sim hv he hok hsr hh n (by omega)
    have hvs := liveTo_vok (s := ⟨v.copies, hs0, []⟩) (frm := frm) hv hok he n (by omega)
    have hrem := liveTo_rem (every := every) (frm := frm) v.copies hs0 [] hsr hh n
    have hsub := liveTo_hs (every := every) (frm := frm) (s := ⟨v.copies, hs0, []⟩) n
    have hnext : liveTo every frm ⟨v.copies, hs0, []⟩ (n + 1) = day1 every (liveTo every frm ⟨v.copies, hs0, []⟩ n) (frm + n) := rfl
    rw [hnext]
    generalize liveTo every frm ⟨v.copies, hs0, []⟩ n = s at *
    obtain ⟨l, hs, o⟩ := s
    dsimp only at *
    have hA : (dayH hs (frm + n)).foldl harmC l = (pend ++ dayH hs (frm + n)).foldl harmC l' := by rw [List.foldl_append, ← h3]
    have hvA : VOk (withC v ((pend ++ dayH hs (frm + n)).foldl harmC l')) := by
      rw [← hA]
      exact harms_vok _ hvs fun h hm => hok h (hsub h (dayH_sub h hm))
    have hmA : MidCI frm every (frm + n) v.copies ((pend ++ dayH hs (frm + n)).foldl harmC l') 0 := by rw [← hA]; exact h1.harms _
    have hlen : l.length = v.copies.length := h1.1
    obtain ⟨k1, k2⟩ := day_sim (o := o) he (show frm ≤ frm + n by omega) (show frm + n ≤ 200000 by omega) hvA (fun h hm => by have := h2 h hm; omega) hrem.2 hrem.1 hmA v.copies.length (Nat.le_refl _)
    have hday : day1 every ⟨l, hs, o⟩ (frm + n) = ⟨(chkTo every (frm + n) ((pend ++ dayH hs (frm + n)).foldl harmC l', o) v.copies.length).1, hs.drop (dayH hs (frm + n)).length, (chkTo every (frm + n) ((pend ++ dayH hs (frm + n)).foldl harmC l', o) v.copies.length).2⟩ := by
      unfold day1
      dsimp only
      rw [hA, hlen]
    rw [hday]
    dsimp only
    have hn1 : frm + ((n + 1 : Nat) : Int) = frm + n + 1 := by omega
    rw [hn1]
    have hall : allTag frm every v.copies (n + 1) = allTag frm every v.copies n ++ dayTag frm every v.copies (frm + n) v.copies.length := rfl
    rw [hall, List.map_append, List.foldl_append (f := refT), h4]
    refine ⟨⟨k1.1, fun i a b => ?_⟩, ?_⟩
    · have := k1.2 i a b
      rw [if_pos b] at this
      rw [if_neg (Nat.not_lt_zero i)]
      exact this
    · rcases k2 with ⟨k3, k4⟩ | k3
      · refine ⟨l', pend ++ dayH hs (frm + n), fun h hm => ?_, by rw [k4], ?_, by rw [k4, k3, List.append_nil]; exact h5⟩
        · rcases List.mem_append.1 hm with hm | hm
          · have := h2 h hm; omega
          · have : h.day = frm + n := by
              unfold dayH at hm
              exact of_decide_eq_true (takeWhile_mem _ h hm)
            omega
        · rw [k3, k4]
          show (⟨l', pend ++ hs, o⟩ : St) = ⟨l', (pend ++ dayH hs (frm + n)) ++ hs.drop (dayH hs (frm + n)).length, o⟩
          have e : dayH hs (frm + n) ++ hs.drop (dayH hs (frm + n)).length = hs := by
            have hp : dayH hs (frm + n) <+: hs := List.takeWhile_prefix _
            have key : ∀ {a b : List Hrm}, a <+: b → a ++ b.drop a.length = b := fun {a b} h => by obtain ⟨t, rfl⟩ := h; rw [List.drop_left]
            exact key hp
          rw [List.append_assoc, e]
      · refine ⟨_, [], (fun h hm => by cases hm), rfl, k3, ?_⟩
        have hl2 : (((dayTag frm every v.copies (frm + n) v.copies.length).map Prod.fst).foldl refT ⟨l', pend ++ hs, o⟩).o.length = o.length + (dayTag frm every v.copies (frm + n) v.copies.length).length := by
          have key : ∀ (ts : List Tsk) (s : St), (ts.foldl refT s).o.length = s.o.length + ts.length := by
            intro ts
            induction ts with
            | nil => intro s; rfl
            | cons t ts ih =>
              intro s
              rw [List.foldl_cons, ih]
              unfold refT
              simp
              omega
          rw [key, List.length_map]
        rw [k3] at hl2
        dsimp only at hl2
        rw [hl2, h5, List.length_append]
/-- The reference's Live is the program's. -/
theorem live_ref {v : Vlt} {p : Pol} {frm to : Int} {hs : List Hrm} (hv : VOk v) (hp : POk p) (h1 : 0 ≤ frm ∧ frm ≤ 200000) (h2 : frm ≤ to ∧ to ≤ 200001) (hh : HsOk v frm to hs) :
    (liveS v p frm to hs).o.length = manyTo frm p.every to v.copies v.copies.length ∧ ((((dueL v p frm to).map Prod.fst).foldl refT ⟨v.copies, hs, []⟩).hs.foldl harmC (((dueL v p frm to).map Prod.fst).foldl refT ⟨v.copies, hs, []⟩).l = (liveS v p frm to hs).l ∧
      (((dueL v p frm to).map Prod.fst).foldl refT ⟨v.copies, hs, []⟩).o = (liveS v p frm to hs).o) := by
  obtain ⟨_, l', pend, k1, k2, k3, k4⟩ := live_sim hv hp.every.1 hh.ok hh.sorted (fun h hm => (hh.day h hm).1) (to - frm).toNat (by omega)
  have hrem := liveTo_rem (every := p.every) (frm := frm) v.copies hs [] hh.sorted (fun h hm => (hh.day h hm).1) (to - frm).toNat
  have hnil : (liveTo p.every frm ⟨v.copies, hs, []⟩ (to - frm).toNat).hs = [] := by
    refine List.eq_nil_iff_forall_not_mem.2 fun x hx => ?_
    have a := hrem.2 x hx
    have b := (hh.day x (liveTo_hs (s := ⟨v.copies, hs, []⟩) _ x hx)).2
    omega
  rw [due_days hp.every.1 h1.1 h2.2] at k3
  rw [due_count hp.every.1 h1.1 h2.2] at k4
  refine ⟨k4, ?_⟩
  rw [k3, hnil, List.append_nil]
  exact ⟨k2.symm, rfl⟩


end Go.Proofs.YtieccphckobhjaaGreatDoor


namespace Go.Proofs.YtieccphckobhjaaGreatDoor
open Go.RowKit
set_option linter.unusedVariables false

/-! Types. -/
namespace TyR2

end TyR2
open TyR2


theorem idx_nonneg {l : List Cpy} {it ca : ByteArray} {v : Vlt} (hl : v.copies = l) (h : 0 ≤ copyIdx v it ca) : ∃ k, ∃ hk : k < l.length, copyIdx v it ca = (k : Int) ∧ l[k].item = it ∧ l[k].carrier = ca := by
  subst hl
  obtain ⟨k, hk, h1, h2⟩ := idxBy_some h
  simp only [Bool.and_eq_true, decide_eq_true_eq] at h2
  exact ⟨k, hk, h1, h2⟩
theorem ltC_eq {l : List Cpy} {t : Cpy} {k : Nat} (hk : k < l.length) : ltC l t k = decide (cpyCmp l[k] t < 0) := by unfold ltC; rw [List.getD_eq_getElem?_getD, List.getElem?_eq_getElem hk]; rfl
theorem posC_at {v : Vlt} {l : List Cpy} (hv : VOk (withC v l)) {k : Nat} (hk : k < l.length) : posC l (keyC l[k].item l[k].carrier) = k ∧ hasC l (keyC l[k].item l[k].carrier) = true := by
  have hcmp : ∀ j (hj : j < l.length), cpyCmp l[j] (keyC l[k].item l[k].carrier) = cpyCmp l[j] l[k] := fun j hj => cpyCmp_same rfl rfl rfl rfl
  have hlt : ∀ j (hj : j < l.length), j < k → cpyCmp l[j] l[k] < 0 := fun j hj h => hv.lt j k hj hk h
  have hself : cpyCmp l[k] l[k] = 0 := cpyCmp_eq rfl rfl
  have hge : ∀ j (hj : j < l.length), k ≤ j → ¬ cpyCmp l[j] l[k] < 0 := fun j hj h hh => by
    by_cases e : j = k
    · subst e; omega
    · have h1 := hv.lt k j hk hj (by omega)
      have := cpyCmp_trans (show cpyCmp l[k] l[j] < 0 from h1) hh
      omega
  have hs := bsr_spec2 (lt := ltC l (keyC l[k].item l[k].carrier)) (N := l.length) (fun a b hab hb hlb => by
    rw [ltC_eq hb, hcmp b hb] at hlb
    have h1 : b < k := by
      refine Nat.lt_of_not_le fun hh => hge b hb hh (of_decide_eq_true hlb)
    have ha : a < l.length := by omega
    rw [ltC_eq ha, hcmp a ha]
    exact decide_eq_true (hlt a ha (by omega))) l.length 0 l.length (by omega) (Nat.zero_le _) (Nat.le_refl _) (fun j hj => by omega)
  have hpos : posC l (keyC l[k].item l[k].carrier) = k := by
    show bsr (ltC l (keyC l[k].item l[k].carrier)) 0 l.length = k
    rcases Nat.lt_trichotomy (bsr (ltC l (keyC l[k].item l[k].carrier)) 0 l.length) k with h | h | h
    · have h1 := hs.2 _ (Nat.le_refl _) (by omega)
      rw [ltC_eq (by omega), hcmp _ (by omega)] at h1
      exact absurd (hlt _ (by omega) h) (of_decide_eq_false h1)
    · exact h
    · have h1 := hs.1 k h
      rw [ltC_eq hk, hcmp k hk] at h1
      exact absurd (of_decide_eq_true h1) (hge k hk (Nat.le_refl _))
  exact ⟨hpos, hasC_t hk hpos (by rw [hcmp k hk]; exact hself)⟩
theorem has_iff {v : Vlt} {l : List Cpy} (hv : VOk (withC v l)) (it ca : ByteArray) : (0 ≤ copyIdx (withC v l) it ca ↔ hasC l (keyC it ca) = true) ∧ (0 ≤ copyIdx (withC v l) it ca → copyIdx (withC v l) it ca = (posC l (keyC it ca) : Int)) := by
  refine ⟨⟨fun h => ?_, fun h => ?_⟩, fun h => ?_⟩
  · obtain ⟨k, hk, _, h2, h3⟩ := idx_nonneg (v := withC v l) rfl h
    rw [← h2, ← h3]
    exact (posC_at hv hk).2
  · obtain ⟨hk, h1, h2⟩ := hasC_spec h
    unfold copyIdx idxBy
    rw [if_pos (List.any_eq_true.2 ⟨_, List.getElem_mem (l := (withC v l).copies) hk, by simp only [Bool.and_eq_true, decide_eq_true_eq]; exact ⟨h1, h2⟩⟩)]
    omega
  · obtain ⟨k, hk, h1, h2, h3⟩ := idx_nonneg (v := withC v l) rfl h
    rw [h1, ← h2, ← h3]
    exact congrArg _ (posC_at hv hk).1.symm
theorem has_none {v : Vlt} {l : List Cpy} (hv : VOk (withC v l)) {it ca : ByteArray} (h : copyIdx (withC v l) it ca < 0) : hasC l (keyC it ca) = false := by
  cases hc : hasC l (keyC it ca) with
  | false => rfl
  | true => have := (has_iff hv it ca).1.2 hc; omega
theorem hasI_iff {n : Int} {l : List Int} (h : SBad n l) (x : Int) : hasI l x = true ↔ x ∈ l := by
  constructor
  · intro hh
    unfold hasI at hh
    simp only [Bool.and_eq_true, decide_eq_true_eq] at hh
    have h2 := hh.2
    rw [List.getD_eq_getElem?_getD, List.getElem?_eq_getElem hh.1, Option.getD_some] at h2
    rw [← h2]
    exact List.getElem_mem hh.1
  · intro hx
    obtain ⟨k, hk, rfl⟩ := List.mem_iff_getElem.1 hx
    have hs := posI_spec (x := l[k]) h.1
    have hp : posI l l[k] = k := by
      rcases Nat.lt_trichotomy (posI l l[k]) k with hh | hh | hh
      · have h1 := hs.2 _ (show posI l l[k] < l.length by omega) (Nat.le_refl _)
        have h2 := List.pairwise_iff_getElem.1 h.1 (posI l l[k]) k (by omega) hk hh
        omega
      · exact hh
      · have := hs.1 k hk hh
        omega
    exact hasI_t hk hp rfl
def sortI (l : List Int) : List Int := l.mergeSort fun a b => decide (a ≤ b)
theorem sorted_eq : ∀ {a b : List Int}, a.Perm b → a.Pairwise (· ≤ ·) → b.Pairwise (· ≤ ·) → a = b
  | [], b, hp, _, _ => (List.Perm.nil_eq hp)
  | x :: a, b, hp, ha, hb => by
    have hx : x ∈ b := hp.subset (by simp)
    cases b with
    | nil => cases hx
    | cons y b =>
      have ha' := List.pairwise_cons.1 ha
      have hb' := List.pairwise_cons.1 hb
      have hy : y ∈ x :: a := hp.symm.subset (by simp)
      have e : x = y := by
        have h1 : x ≤ y := by
          rcases List.mem_cons.1 hy with rfl | h
          · exact Int.le_refl _
          · exact ha'.1 y h
        have h2 : y ≤ x := by
          rcases List.mem_cons.1 hx with rfl | h
          · exact Int.le_refl _
          · exact hb'.1 x h
        omega
      subst e
      rw [sorted_eq (List.Perm.cons_inv hp) ha'.2 hb'.2]
theorem sortI_ins {n x : Int} {l : List Int} (h : SBad n l) (hx : x ∉ l) (hxn : 0 ≤ x ∧ x ≤ n - 1) : sortI (l ++ [x]) = insI l x := by
  have hI := insI_sbad h hxn
  have e : insI l x = l.take (posI l x) ++ [x] ++ l.drop (posI l x) := by
    unfold insI
    rw [if_neg (fun hh => hx ((hasI_iff h x).1 hh))]
  have hp : (sortI (l ++ [x])).Perm (insI l x) := by
    refine (List.mergeSort_perm _ _).trans ?_
    rw [e]
    have h1 : (l.take (posI l x) ++ [x] ++ l.drop (posI l x)).Perm (l.take (posI l x) ++ (l.drop (posI l x) ++ [x])) := by
      rw [List.append_assoc]
      exact List.Perm.append_left _ List.perm_append_comm
    rw [← List.append_assoc, List.take_append_drop] at h1
    exact h1.symm
  refine sorted_eq hp ?_ (hI.1.imp fun h => by omega)
  have h2 := List.pairwise_mergeSort (le := fun a b : Int => decide (a ≤ b)) (fun a b c hab hbc => by simp only [decide_eq_true_eq] at *; omega) (fun a b => by simp only [Bool.or_eq_true, decide_eq_true_eq]; omega) (l ++ [x])
  exact h2.imp fun h => by simpa using h
/-- What the reference's harmed does. -/
def harmR (v : Vlt) (h : Hrm) : List Cpy :=
  if copyIdx v h.item h.carrier < 0 then v.copies
  else if h.block ∈ (v.copies.getD (copyIdx v h.item h.carrier).toNat zC).bad then v.copies
  else v.copies.set (copyIdx v h.item h.carrier).toNat { v.copies.getD (copyIdx v h.item h.carrier).toNat zC with bad := sortI ((v.copies.getD (copyIdx v h.item h.carrier).toNat zC).bad ++ [h.block]) }
theorem harmR_eq {v : Vlt} {l : List Cpy} {h : Hrm} (hv : VOk (withC v l)) (hh : HrmOk v h) : harmR (withC v l) h = harmC l h := by
  unfold harmR harmC
  by_cases h1 : copyIdx (withC v l) h.item h.carrier < 0
  · rw [if_pos h1, if_neg (by rw [has_none hv h1]; simp)]
    rfl
  · have hhas := (has_iff hv h.item h.carrier).1.1 (by omega)
    have hpos := (has_iff hv h.item h.carrier).2 (by omega)
    obtain ⟨hk, e1, e2⟩ := hasC_spec hhas
    rw [if_neg h1, if_pos hhas, hpos, Int.toNat_natCast, modify_set _ hk]
    have hgd : (withC v l).copies.getD (posC l (keyC h.item h.carrier)) zC = l[posC l (keyC h.item h.carrier)] := by
      show l.getD _ zC = _
      rw [List.getD_eq_getElem?_getD, List.getElem?_eq_getElem hk]; rfl
    rw [hgd]
    have hsb := sbad_of (hv.cpy _ (List.getElem_mem hk)).bad
    by_cases h2 : h.block ∈ l[posC l (keyC h.item h.carrier)].bad
    · rw [if_pos h2]
      have e3 : insI l[posC l (keyC h.item h.carrier)].bad h.block = l[posC l (keyC h.item h.carrier)].bad := by unfold insI; rw [if_pos ((hasI_iff hsb _).2 h2)]
      rw [e3]
      show l = _
      apply List.ext_getElem?
      intro j
      rw [List.getElem?_set]
      by_cases hj : posC l (keyC h.item h.carrier) = j
      · subst hj
        rw [if_pos rfl, if_pos hk, List.getElem?_eq_getElem hk]
      · rw [if_neg hj]
    · rw [if_neg h2, sortI_ins hsb h2 (by
        have := hh.blk
        show 0 ≤ h.block ∧ h.block ≤ itemBlocks v l[posC l (keyC h.item h.carrier)].item - 1
        rw [e1]; exact this)]
      rfl
/-- Is the block right in a copy of another number, of the same item? -/
def wholeR (l : List Cpy) (i : Nat) (n : Int) : Bool := (List.range l.length).any fun k => !decide (k = i) && (decide ((l.getD k zC).item = (l.getD i zC).item) && !decide (n ∈ (l.getD k zC).bad))
theorem wholeR_eq {v : Vlt} {l : List Cpy} (hv : VOk (withC v l)) {i : Nat} (hi : i < l.length) (n : Int) : wholeR l i n = fixB l l[i] n := by
  have hgi : l.getD i zC = l[i] := by rw [List.getD_eq_getElem?_getD, List.getElem?_eq_getElem hi]; rfl
  rw [Bool.eq_iff_iff]
  unfold wholeR fixB
  rw [List.any_eq_true, List.any_eq_true]
  constructor
  · rintro ⟨k, hk, h⟩
    have hk := List.mem_range.1 hk
    have hgk : l.getD k zC = l[k] := by rw [List.getD_eq_getElem?_getD, List.getElem?_eq_getElem hk]; rfl
    rw [hgk, hgi] at h
    simp only [Bool.and_eq_true, Bool.not_eq_true', decide_eq_true_eq, decide_eq_false_iff_not] at h
    refine ⟨l[k], List.getElem_mem hk, ?_⟩
    unfold whole1
    simp only [Bool.and_eq_true, Bool.not_eq_true', decide_eq_true_eq, decide_eq_false_iff_not]
    exact ⟨h.2.1, fun e => h.1 (hv.inj (i := k) (j := i) hk hi h.2.1 e), h.2.2⟩
  · rintro ⟨x, hx, h⟩
    obtain ⟨k, hk, rfl⟩ := List.mem_iff_getElem.1 hx
    have hgk : l.getD k zC = l[k] := by rw [List.getD_eq_getElem?_getD, List.getElem?_eq_getElem hk]; rfl
    unfold whole1 at h
    simp only [Bool.and_eq_true, Bool.not_eq_true', decide_eq_true_eq, decide_eq_false_iff_not] at h
    refine ⟨k, List.mem_range.2 hk, ?_⟩
    rw [hgk, hgi]
    simp only [Bool.and_eq_true, Bool.not_eq_true', decide_eq_true_eq, decide_eq_false_iff_not]
    exact ⟨fun e => h.2.1 (by subst e; rfl), h.1, h.2.2⟩
def leftR (l : List Cpy) (i : Nat) : List Int := (l.getD i zC).bad.filter fun b => !wholeR l i b
theorem leftR_eq {v : Vlt} {l : List Cpy} (hv : VOk (withC v l)) {i : Nat} (hi : i < l.length) : leftR l i = stillI l l[i] := by
  unfold leftR stillI
  have hgi : l.getD i zC = l[i] := by rw [List.getD_eq_getElem?_getD, List.getElem?_eq_getElem hi]; rfl
  rw [hgi]
  congr 1
  funext b
  rw [wholeR_eq hv hi]
theorem filter_count {α : Type} (p : α → Bool) : ∀ l : List α, (l.filter p).length + (l.filter fun x => !p x).length = l.length
  | [] => rfl
  | x :: l => by
    have ih := filter_count p l
    rw [List.filter_cons, List.filter_cons]
    cases hp : p x with
    | true => simp; omega
    | false => simp; omega
/-- What the reference's checked does. -/
def chkR (l : List Cpy) (i : Nat) (day : Int) : List Cpy := l.set i { l.getD i zC with bad := leftR l i, last := day }
def dnR (l : List Cpy) (i : Nat) (day : Int) : Dn := ⟨day, (l.getD i zC).item, (l.getD i zC).carrier, ((l.getD i zC).bad.length : Int) - ((leftR l i).length : Int), ((leftR l i).length : Int)⟩
theorem chkR_eq {v : Vlt} {l : List Cpy} (hv : VOk (withC v l)) {i : Nat} (hi : i < l.length) (day : Int) : chkR l i day = checkedC l i day ∧ dnR l i day = doneC l l[i] day := by
  have hgi : l.getD i zC = l[i] := by rw [List.getD_eq_getElem?_getD, List.getElem?_eq_getElem hi]; rfl
  unfold chkR dnR checkedC doneC
  rw [leftR_eq hv hi, hgi, modify_set _ hi]
  refine ⟨rfl, ?_⟩
  have := filter_count (fixB l l[i]) l[i].bad
  have e : (l[i].bad.length : Int) - ((stillI l l[i]).length : Int) = ((l[i].bad.filter (fixB l l[i])).length : Int) := by
    unfold stillI
    omega
  rw [e]


end Go.Proofs.YtieccphckobhjaaGreatDoor


namespace Go.Proofs
open Go.Shelf
def Tryz.l189_ren : Go.Shelf.Ren := ⟨fun | 189 => 103 | 125 => 108 | 257 => 127 | 128 => 136 | 129 => 137 | 294 => 150 | 295 => 151 | 296 => 152 | 297 => 153 | 298 => 154 | 299 => 155 | 216 => 121 | 300 => 156 | 301 => 157 | 328 => 179 | 329 => 159 | 330 => 160 | 331 => 180 | 332 => 181 | 215 => 109 | 343 => 190 | n => n, fun | 28 => 63 | 3 => 3 | 46 => 156 | 0 => 0 | 51 => 91 | 53 => 180 | 4 => 4 | 183 => 173 | 182 => 172 | 131 => 73 | 5 => 5 | 9 => 9 | 218 => 195 | 222 => 199 | 228 => 215 | 229 => 216 | n => n, fun | n => n⟩
theorem Tryz.l189 : Go.Proofs.Lays.n189 Tryz.prog Tryz.l189_ren := {
  mixed := by kernel_rfl
  f125 := Tryz.func108.trans (congrArg some (by kernel_rfl))
  f128 := Tryz.func136.trans (congrArg some (by kernel_rfl))
  f129 := Tryz.func137.trans (congrArg some (by kernel_rfl))
  f189 := Tryz.func103.trans (congrArg some (by kernel_rfl))
  f215 := Tryz.func109.trans (congrArg some (by kernel_rfl))
  f216 := Tryz.func121.trans (congrArg some (by kernel_rfl))
  f257 := Tryz.func127.trans (congrArg some (by kernel_rfl))
  f294 := Tryz.func150.trans (congrArg some (by kernel_rfl))
  f295 := Tryz.func151.trans (congrArg some (by kernel_rfl))
  f296 := Tryz.func152.trans (congrArg some (by kernel_rfl))
  f297 := Tryz.func153.trans (congrArg some (by kernel_rfl))
  f298 := Tryz.func154.trans (congrArg some (by kernel_rfl))
  f299 := Tryz.func155.trans (congrArg some (by kernel_rfl))
  f300 := Tryz.func156.trans (congrArg some (by kernel_rfl))
  f301 := Tryz.func157.trans (congrArg some (by kernel_rfl))
  f328 := Tryz.func179.trans (congrArg some (by kernel_rfl))
  f329 := Tryz.func159.trans (congrArg some (by kernel_rfl))
  f330 := Tryz.func160.trans (congrArg some (by kernel_rfl))
  f331 := Tryz.func180.trans (congrArg some (by kernel_rfl))
  f332 := Tryz.func181.trans (congrArg some (by kernel_rfl))
  f343 := Tryz.func190.trans (congrArg some (by kernel_rfl))
  t0 := Tryz.underlying0
  a0 := Tryz.isAgg0
  z0 := Tryz.sizeOf0
  v0 := Tryz.zeroValue0
  t3 := Tryz.underlying3
  a3 := Tryz.isAgg3
  z3 := Tryz.sizeOf3
  v3 := Tryz.zeroValue3
  t4 := Tryz.underlying4
  a4 := Tryz.isAgg4
  z4 := Tryz.sizeOf4
  v4 := Tryz.zeroValue4
  t5 := Tryz.underlying5
  a5 := Tryz.isAgg5
  z5 := Tryz.sizeOf5
  v5 := Tryz.zeroValue5
  t9 := Tryz.underlying9
  a9 := Tryz.isAgg9
  z9 := Tryz.sizeOf9
  v9 := Tryz.zeroValue9
  t28 := Tryz.underlying63
  a28 := Tryz.isAgg63
  z28 := Tryz.sizeOf63
  v28 := Tryz.zeroValue63
  t46 := Tryz.underlying156
  a46 := Tryz.isAgg156
  z46 := Tryz.sizeOf156
  v46 := Tryz.zeroValue156
  t51 := Tryz.underlying91
  a51 := Tryz.isAgg91
  z51 := Tryz.sizeOf91
  v51 := Tryz.zeroValue91
  t53 := Tryz.underlying180
  a53 := Tryz.isAgg180
  z53 := Tryz.sizeOf180
  v53 := Tryz.zeroValue180
  t131 := Tryz.underlying73
  a131 := Tryz.isAgg73
  z131 := Tryz.sizeOf73
  v131 := Tryz.zeroValue73
  t182 := Tryz.underlying172
  a182 := Tryz.isAgg172
  z182 := Tryz.sizeOf172
  v182 := Tryz.zeroValue172
  t183 := Tryz.underlying173
  a183 := Tryz.isAgg173
  z183 := Tryz.sizeOf173
  v183 := Tryz.zeroValue173
  t218 := Tryz.underlying195
  a218 := Tryz.isAgg195
  z218 := Tryz.sizeOf195
  v218 := Tryz.zeroValue195
  t222 := Tryz.underlying199
  a222 := Tryz.isAgg199
  z222 := Tryz.sizeOf199
  v222 := Tryz.zeroValue199
  t228 := Tryz.underlying215
  a228 := Tryz.isAgg215
  z228 := Tryz.sizeOf215
  v228 := Tryz.zeroValue215
  t229 := Tryz.underlying216
  a229 := Tryz.isAgg216
  z229 := Tryz.sizeOf216
  v229 := Tryz.zeroValue216 }
end Go.Proofs


namespace Go.Proofs.YtieccphckobhjaaGreatDoor
open Go.RowKit
set_option linter.unusedVariables false

/-- f returns a struct whose parts are as ss', some of them own objects; the object vid is that struct. -/
def XSCall (P : Program) (f : FuncId) (ss : List S) (σ σ' : Obs) (chg : Nat → Bool) (s : S) : Prop := Enters P f ∧
  ∀ (F : Nat → Prop) (ρ : Nat → Value) (B : Nat) (w : World) (vs : List Value), (∀ b, F b → b < w.heap.size) → B ≤ w.heap.size → ObsOk B F ρ w σ → RepSL F ρ w vs ss →
    Calls P f vs.toArray w fun e w' => ∃ v F' ρ', e = .returned v ∧ RepS F' ρ' w' v s ∧ XEnd B F ρ w σ F' ρ' w' σ' chg

theorem args_R {P : Program} {n : Nat} {ss : List S} {σ : Obs} {chg : Nat → Bool} {F : Nat → Prop} {ρ : Nat → Value} {B : Nat} {w : World} {vs : List Value} {m : Nat} (hN : m = n) (hle : ss.length ≤ n) (hF : ∀ b, F b → b < w.heap.size) (hB : B ≤ w.heap.size) (hσ : ObsOk B F ρ w σ) (hv : RepSL F ρ w vs ss) :
    R ⟨P, n, B, w, F, (fun b => w.heap.size ≤ b ∨ ownB σ ρ b), fun i => !(chg i), ρ⟩ (Env.argsS 0 ss) σ { tmps := vs.toArray ++ Array.replicate (m - vs.toArray.size) undef, defers := [] } w := by
  refine ⟨F, ρ, ?_, rfl, hF, fun b hb => hb, fun b hb => .inl hb, Kept.refl _ _, hB, fun t => ?_, hσ, fun b hb => .inl hb, fun p hp g hg => .inr ⟨p, hp, hg⟩, fun i _ => rfl⟩
  · simp [hN, hv.1]; omega
  · by_cases ht : t < ss.length
    · have := Env.argsS_get ss 0 t ht
      rw [Nat.zero_add] at this
      rw [this]
      have hvt : t < vs.length := by rw [hv.1]; exact ht
      have : (vs.toArray ++ Array.replicate (m - vs.toArray.size) undef).getD t undef = vs[t] := by
        rw [Array.getD_eq_getD_getElem?, Array.getElem?_append_left (by simpa using hvt)]
        simp [hvt]
      rw [this]
      exact hv.2 t hvt ht
    · have := Env.argsS_out ss 0 t (by omega)
      rw [Nat.zero_add] at this
      rw [this]
      exact .d (.any _)
/-- What a result in a cell comes to. -/
theorem res_cell {cx : Cx} {F : Nat → Prop} {ρ : Nat → Value} {e : Env} {σ : Obs} {a : Act} {w : World} {fn : Func} {b t size cid : Nat} {ss : List S} (h : R0 cx F ρ e σ a w) (hr : fn.results = #[.cell b t]) (hT : AggT cx.P t size) (he : e b = .ptr cid 0) (hm : (cid, Ob.cells ss) ∈ σ) (hl : ss.length = size) :
    ∃ cs : List Value, (results fn a.tmps).run cx.P w = .ok (.agg cs.toArray) w ∧ cs.length = ss.length ∧ ∀ j (h1 : j < cs.length) (h2 : j < ss.length), cs[j].oneCell' = true ∧ RepS F ρ w cs[j] ss[j] := by
  obtain ⟨g, ty, cs, k1, k2, k3, k4, k5, k6⟩ := h.obs.ok _ hm
  dsimp only at k1
  have hv : a.tmps.getD b undef = .pointer (some ⟨g, 0, none⟩) := by
    have := h.env b
    rw [he] at this
    exact ptr_at this (by rw [k1]; rfl)
  have hcells : (loadCells ⟨g, 0, none⟩ cs.length).run cx.P w = .ok cs.toArray w := run_loadCells_list w _ cs (fun j v hj => by
    rw [addr_add, cell_of_row w g (0 + j) cs.toArray ty (0, 0) k4]
    simpa using hj)
  have hn : cs.length = size := by omega
  rw [hn] at hcells
  refine ⟨cs, ?_, k5, k6⟩
  have h1 : (List.mapM (resSem a.tmps) [ResultVar.cell b t] : Sem (List Value)).run cx.P w = .ok [.agg cs.toArray] w := by
    rw [List.mapM_cons, Sem.run_bind]
    have h2 : (resSem a.tmps (.cell b t)).run cx.P w = .ok (.agg cs.toArray) w := by
      simp only [resSem, hv, asAddr, Sem.run_bind, Sem.run_pure, Result.andThen_ok, loadVar, hT.agg w, if_true, hT.size w, hcells]
    rw [h2]
    rfl
  unfold results
  rw [hr, Sem.run_bind]
  have h2 : (Array.mapM (fun r => match r with | ResultVar.tmp t => pure (a.tmps.getD t undef) | ResultVar.cell b t => do loadVar t (← asAddr (a.tmps.getD b undef))) [ResultVar.cell b t].toArray : Sem (Array Value)).run cx.P w = .ok [Value.agg cs.toArray].toArray w := by
    rw [List.mapM_toArray, Sem.run_map]
    have h4 : (List.mapM (fun r => match r with | ResultVar.tmp t => pure (a.tmps.getD t undef) | ResultVar.cell b t => do loadVar t (← asAddr (a.tmps.getD b undef))) [ResultVar.cell b t] : Sem (List Value)).run cx.P w = .ok [.agg cs.toArray] w := h1
    rw [h4]
    rfl
  exact (congrArg (fun r => Result.andThen r _) h2).trans rfl
def RetXC (b : Nat) (ds : List D) (σ' : Obs) : Post := fun ex e σ => match ex with
  | .ret => (∃ cid, e b = .ptr cid 0 ∧ (cid, Ob.cells (ds.map S.d)) ∈ σ) ∧ AllIn σ σ'
  | .normal => (∃ cid, e b = .ptr cid 0 ∧ (cid, Ob.cells (ds.map S.d)) ∈ σ) ∧ AllIn σ σ'
  | _ => False
theorem xcall_ofC {P : Program} {f : FuncId} {fn : Func} {c : Code} {n b t size : Nat} {ss : List S} {σ σ' : Obs} {chg : Nat → Bool} {ds : List D} (hf : P.funcs[f]? = some fn) (hb : fn.body = some c) (hn : (fn.name == "runtime.NumGoroutine") = false) (hN : fn.ntmps = n)
    (hr : fn.results = #[.cell b t]) (hT : AggT P t size) (hl : ds.length = size) (hle' : Nat.ble ss.length n = true)
    (h : ∀ B w0 F0 fr ρ0, AWP ⟨P, n, B, w0, F0, fr, fun i => !(chg i), ρ0⟩ c (Env.argsS 0 ss) σ (RetXC b ds σ')) : XCall P f ss σ σ' chg (.agg ds) := by
  have hle : ss.length ≤ n := Nat.le_of_ble_eq_true hle'
  refine ⟨Enters.of hf hn (by rw [hb]; rfl), fun F ρ B w vs hF hB hσ hv => ?_⟩
  refine calls_of_wp hf hb ?_
  refine wp_mono (h _ _ _ _ _ _ _ (args_R hN hle hF hB hσ hv)) ?_
  rintro ex a w' ⟨e', σe, hq, F', ρ', hr'⟩
  have hends : (∃ cid, e' b = .ptr cid 0 ∧ (cid, Ob.cells (ds.map S.d)) ∈ σe) ∧ AllIn σe σ' → bodyPost P fn (fun e w' => ∃ v F' ρ', e = .returned v ∧ Rep F' w' v (.agg ds) ∧ XEnd B F ρ w σ F' ρ' w' σ' chg) .ret a w' := by
    rintro ⟨⟨cid, h1, h2⟩, hin⟩
    have hin := hin.mem
    obtain ⟨cs, k1, k2, k3⟩ := res_cell hr' hr hT h1 h2 (by simpa using hl)
    refine ⟨hr'.defers, _, k1, _, F', ρ', rfl, ?_, ?_⟩
    · refine .agg cs ds (by simpa using k2) (fun i hi => (k3 i hi (by rw [← k2]; exact hi)).1) (fun i hi hi2 => ?_)
      have := (k3 i hi (by rw [← k2]; exact hi)).2
      rw [List.getElem_map] at this
      exact repS_d this
    · exact ⟨hr'.base, hr'.new, hr'.lt, hr'.below, hr'.obs.sub hin, fun p hp => hr'.kown p (hin p hp), fun i hi => hr'.fixed i (by show (!(chg i)) = true; rw [hi]; rfl)⟩
  cases ex with
  | ret => exact hends hq
  | normal => exact hends hq
  | exit id => exact hq.elim
  | goto l => exact hq.elim
  | panic c => exact hq.elim
  | outgrown => exact hq.elim
def RetXV (b vid : Nat) (ss' : List S) (σr : Obs) : Post := fun ex e σ => match ex with
  | .ret => (∃ cid ssr, e b = .ptr cid 0 ∧ (cid, Ob.cells ssr) ∈ σ ∧ ssr.map (S.kill vid) = ss' ∧ Obs.fresh vid σr = true ∧ Obs.kill vid σr = σr) ∧ AllIn σ σr
  | .normal => (∃ cid ssr, e b = .ptr cid 0 ∧ (cid, Ob.cells ssr) ∈ σ ∧ ssr.map (S.kill vid) = ss' ∧ Obs.fresh vid σr = true ∧ Obs.kill vid σr = σr) ∧ AllIn σ σr
  | _ => False
/-- Its result: a struct with own parts, out of a cell. -/
theorem xval_of {P : Program} {f : FuncId} {fn : Func} {c : Code} {n b t size vid : Nat} {ss ss' : List S} {σ σr : Obs} {chg : Nat → Bool} (hf : P.funcs[f]? = some fn) (hb : fn.body = some c) (hn : (fn.name == "runtime.NumGoroutine") = false) (hN : fn.ntmps = n)
    (hr : fn.results = #[.cell b t]) (hT : AggT P t size) (hl : ss'.length = size) (hle' : Nat.ble ss.length n = true) (hvid : chg vid = true)
    (h : ∀ B w0 F0 fr ρ0, AWP ⟨P, n, B, w0, F0, fr, fun i => !(chg i), ρ0⟩ c (Env.argsS 0 ss) σ (RetXV b vid ss' σr)) : XSCall P f ss σ ((vid, .val ss') :: σr) chg (.own vid) := by
  have hle : ss.length ≤ n := Nat.le_of_ble_eq_true hle'
  refine ⟨Enters.of hf hn (by rw [hb]; rfl), fun F ρ B w vs hF hB hσ hv => ?_⟩
  refine calls_of_wp hf hb ?_
  refine wp_mono (h _ _ _ _ _ _ _ (args_R hN hle hF hB hσ hv)) ?_
  rintro ex a w' ⟨e', σe, hq, F', ρ', hr'⟩
  have hends : (∃ cid ssr, e' b = .ptr cid 0 ∧ (cid, Ob.cells ssr) ∈ σe ∧ ssr.map (S.kill vid) = ss' ∧ Obs.fresh vid σr = true ∧ Obs.kill vid σr = σr) ∧ AllIn σe σr →
      bodyPost P fn (fun e w' => ∃ v F' ρ', e = .returned v ∧ RepS F' ρ' w' v (.own vid) ∧ XEnd B F ρ w σ F' ρ' w' ((vid, .val ss') :: σr) chg) .ret a w' := by
    rintro ⟨⟨cid, ssr, h1, h2, h3, h4, h5⟩, hin⟩
    have hin := hin.mem
    have hls : ssr.length = size := by rw [← hl, ← h3]; simp
    obtain ⟨cs, k1, k2, k3⟩ := res_cell hr' hr hT h1 h2 hls
    have hT := hr'.turn (ρ' := fun j => if j = vid then .agg cs.toArray else ρ' j) (id := vid) (ob := .val ss') (row := none) (w' := w') (F' := F') (fun j hj => by simp [hj])
      ⟨rfl, rfl, rfl, Nat.le_refl _, fun _ _ _ => rfl⟩ (by unfold Cx.free; dsimp only; rw [hvid]; rfl) (fun g hg => by simp at hg) (fun b hb => hb) (fun b hb => .inl hb) hr'.lt
      ⟨cs, by simp, by rw [← h3]; simpa using k2, fun j hj hj' => by
        subst h3
        rw [List.getElem_map]
        have hj2 : j < ssr.length := by simpa using hj'
        exact ⟨(k3 j hj hj2).1, (k3 j hj hj2).2.kill vid (fun i hi => by simp [hi])⟩⟩ (fun g hg => by simp [blk] at hg) ((vid, .val ss') :: σr) (fun p hp => by
        rcases List.mem_cons.1 hp with rfl | hp
        · exact .inl rfl
        · rw [← h5] at hp
          obtain ⟨q, hq, rfl⟩ := Obs.mem_kill hp
          exact .inr ⟨q, hin q hq, Obs.fresh_spec h4 q hq, rfl⟩)
    refine ⟨hr'.defers, _, k1, _, F', _, rfl, ?_, hT.base, hT.new, hT.lt, hT.below, hT.obs, hT.kown, fun i hi => hT.fixed i (by show (!(chg i)) = true; rw [hi]; rfl)⟩
    have := RepS.own (F := F') (ρ := fun j => if j = vid then Value.agg cs.toArray else ρ' j) (w := w') vid
    simpa using this
  cases ex with
  | ret => exact hends hq
  | normal => exact hends hq
  | exit id => exact hq.elim
  | goto l => exact hq.elim
  | panic c => exact hq.elim
  | outgrown => exact hq.elim
section
variable {cx : Cx} {ops : Array Oper} {o : Oper} {rest : List Oper} {e : Env} {σ : Obs} {Q : Post}
theorem AOps.callXS {f : FuncId} {xs : List Operand} {ts : Array TypeId} {ss : List S} {σc σ' : Obs} {chg : Nat → Bool} {s : S} (hg : o.guard = none) (hd : DstOk cx.N o)
    (ho : o.op = .call { callee := .value (.func f), args := xs.toArray, argTypes := ts }) (ha : ArgsS e xs ss) (h : XSCall cx.P f ss σc σ' chg s) (hin : AllIn σ σc)
    (h1 : Obs.allIds (fun i => !(chg i)) (Obs.dels σc σ) = true) (h2 : Obs.allIds (fun i => Obs.allIds (fun j => !(Nat.beq i j)) (Obs.dels σc σ)) σ' = true) (h3 : ∀ i, chg i = true → cx.fixp i = false)
    (k : AOps cx ops rest ((e.killP chg).put o.dst s) (Obs.join σ' (Obs.killP chg (Obs.dels σc σ))) Q) : AOps cx ops (o :: rest) e σ Q := by
  intro a w ⟨F, ρ, hr⟩
  have h4 := h.2 F ρ cx.B w _ hr.lt hr.hB (hr.obs.sub hin.mem) (ArgsS.rep hr.env ha)
  have h5 := h.1 (xs.map a.eval).toArray w
  have hx : (execOp a.eval o).run cx.P w = .ok (.enter f (xs.map a.eval).toArray) w := by
    unfold execOp
    simp only [ho, resolve, Deferred.ofValue, Act.eval, invoke, Sem.run_bind, Sem.run_pure, Result.andThen_ok]
    simpa using h5
  refine wpList_plain hg fun K hK => ?_
  unfold Oper.wp
  rw [hx]
  refine h4.mono fun _ w' ⟨v, F', ρ', he, hv, hE⟩ => ?_
  subst he
  exact hK _ _ (k _ _ ⟨F', ρ', (hr.after hin.mem hE h1 h2 h3).put (Ext.refl hE.lt) hv hd⟩)
end
end Go.Proofs.YtieccphckobhjaaGreatDoor


namespace Go.Proofs.YtieccphckobhjaaGreatDoor
open Go.RowKit
set_option linter.unusedVariables false

/-- One step; sl: who reads objects, ef: who writes them. -/
def HStep (cx : Cx) (ops : Array Oper) (sl ef : Nat → Bool) (I : Obs → Prop) (k : Nat) (o : Oper) (e : Env) (σ : Obs) (e' : Env) (σ' : Obs) : Prop :=
  (GW ops o e true ∧ ∃ s, ((sl k = true ∧ AOp cx.P cx.B ops o e σ s) ∨ (I σ ∧ ∀ τ, I τ → AOp cx.P cx.B ops o e τ s)) ∧ e' = e.put o.dst s ∧ σ' = σ) ∨
  (GW ops o e false ∧ e' = e.put o.dst (.d (.v undef)) ∧ σ' = σ) ∨
  (GW ops o e true ∧ ef k = true ∧ o.dst = none ∧ EOp cx ops o e σ σ' ∧ e' = e ∧ I σ ∧ I σ')

def HRun (cx : Cx) (ops : Array Oper) (sl ef : Nat → Bool) (I : Obs → Prop) : Nat → List Oper → Env → Obs → (Env → Obs → Prop) → Prop
  | _, [], e, σ, Q => Q e σ
  | k, o :: l, e, σ, Q => DstOk cx.N o ∧ ∃ e' σ', HStep cx ops sl ef I k o e σ e' σ' ∧ HRun cx ops sl ef I (k + 1) l e' σ' Q

def anyH (cx : Cx) (ops : Array Oper) (sl ef : Nat → Bool) (I : Obs → Prop) (Q : Env → Obs → Prop) : Nat → Array Bool → Env → Obs → Prop
  | 0, listed, e, σ => Region.ready .any ops listed = [] ∧ Q e σ
  | fuel + 1, listed, e, σ => (Region.ready .any ops listed = [] → Q e σ) ∧
      ∀ i ∈ Region.ready .any ops listed, ∀ o, ops[i]? = some o → ∃ e' σ', HStep cx ops sl ef I i o e σ e' σ' ∧ anyH cx ops sl ef I Q fuel (listed.setIfInBounds i true) e' σ'

theorem anyH_first {cx : Cx} {ops : Array Oper} {sl ef : Nat → Bool} {I : Obs → Prop} (hse : ∀ k, ef k = true → sl k = true) {Q : Env → Obs → Prop} {i : Nat} {oi : Oper} (hi : ops[i]? = some oi) (late : Nat → Bool)
    (hclos : ∀ j oj, ops[j]? = some oj → late j = true → ∃ e ∈ oj.after, Region.binds .any e = true ∧ (e.on = i ∨ late e.on = true)) :
    ∀ (fuel : Nat) (listed : Array Bool) (e : Env) (σ : Obs) (e1 : Env) (σ1 : Obs), (∀ j, late j = true → listed.getD j false = false) →
      (∀ j oj, ops[j]? = some oj → j ≠ i → listed.getD j true = false → (∀ e ∈ oj.after, Region.binds .any e = true → e.on ≠ i) → oi.apart ops oj = true ∧ (late j = false → (ef i = false ∨ sl j = false) ∧ (sl i = false ∨ ef j = false))) →
      i ∈ Region.ready .any ops listed → HStep cx ops sl ef I i oi e σ e1 σ1 → anyH cx ops sl ef I Q fuel (listed.setIfInBounds i true) e1 σ1 → anyH cx ops sl ef I Q (fuel + 1) listed e σ := by
  intro fuel
  induction fuel with
  | zero =>
    intro listed e σ e1 σ1 _ _ hr hy H
    refine ⟨fun h => (by rw [h] at hr; cases hr), fun j hj o ho => ?_⟩
    by_cases hji : j = i
    · subst hji
      rw [hi] at ho; cases ho
      exact ⟨e1, σ1, hy, H⟩
    · have := ready_mono hj hji
      rw [H.1] at this
      cases this
  | succ fuel ih =>
    intro listed e σ e1 σ1 hlate hfree hr hy H
    refine ⟨fun h => (by rw [h] at hr; cases hr), fun j hj oj hoj => ?_⟩
    by_cases hji : j = i
    · subst hji
      rw [hi] at hoj; cases hoj
      exact ⟨e1, σ1, hy, H⟩
    · obtain ⟨e2, σ2, h1, h2⟩ := H.2 j (ready_mono hj hji) oj hoj
      obtain ⟨hjun, oj', hoj', hall⟩ := mem_ready.1 hj
      rw [hoj] at hoj'; cases hoj'
      have hnot : ∀ e ∈ oj.after, Region.binds .any e = true → e.on ≠ i := fun e he hb heq => by
        have h1 := hall e he hb
        have h0 := (mem_ready.1 hr).1
        rw [heq] at h1
        rcases Nat.lt_or_ge i listed.size with h' | h'
        · simp [h'] at h0 h1; rw [h0] at h1; cases h1
        · simp [Array.getElem?_eq_none h'] at h1
      have hjl : late j = false := by
        cases hl : late j with
        | false => rfl
        | true =>
          obtain ⟨e, he, hb, hh⟩ := hclos j oj hoj hl
          rcases hh with hh | hh
          · exact absurd hh (hnot e he hb)
          · have h3 := hall e he hb
            rw [hlate _ hh] at h3
            simp at h3
      obtain ⟨hap, hss⟩ := hfree j oj hoj hji hjun hnot
      obtain ⟨hs1, hs2⟩ := hss hjl
      obtain ⟨a1, a2, a3⟩ := Oper.apart_spec hap
      have fin : ∀ ej σj, HStep cx ops sl ef I j oj e σ ej σj → HStep cx ops sl ef I i oi ej σj e2 σ2 → ∃ e' σ', HStep cx ops sl ef I j oj e σ e' σ' ∧ anyH cx ops sl ef I Q (fuel + 1) (listed.setIfInBounds j true) e' σ' := fun ej σj hsj hsi => by
        refine ⟨ej, σj, hsj, ?_⟩
        refine ih (listed.setIfInBounds j true) ej σj e2 σ2 (fun k hk => ?_) (fun k ok hk hki hun hno => ?_) (ready_mono hr (Ne.symm hji)) hsi ?_
        · have hkj : j ≠ k := fun h => by rw [h, hk] at hjl; simp at hjl
          rw [getD_set_ne false hkj]
          exact hlate k hk
        · refine hfree k ok hk hki ?_ hno
          by_cases hjk : j = k
          · subst hjk; exact hjun
          · rw [getD_set_ne true hjk] at hun; exact hun
        · rw [Array.setIfInBounds_comm _ _ hji]
          exact h2
      rcases hy with ⟨hgi, s, hopi, rfl, rfl⟩ | ⟨hgi, rfl, rfl⟩ | ⟨hgi, hefi, hdi, hopi, rfl, hi1, hi2⟩
      · rcases h1 with ⟨hgj, sj, hopj, rfl, rfl⟩ | ⟨hgj, rfl, rfl⟩ | ⟨hgj, hefj, hdj, hopj, rfl, hj1, hj2⟩
        · refine fin (e.put oj.dst sj) _ (.inl ⟨hgj.same fun t ht => (put_looks a1 t ht).symm, sj, ?_, rfl, rfl⟩) (.inl ⟨hgi.same (put_looks a3), s, ?_, (Env.put_comm e oi.dst oj.dst s sj a2), rfl⟩)
          · exact hopj.imp (fun h => ⟨h.1, h.2.same fun t ht => (put_looks a1 t ht).symm⟩) (fun h => ⟨h.1, fun τ hτ => (h.2 τ hτ).same fun t ht => (put_looks a1 t ht).symm⟩)
          · exact hopi.imp (fun h => ⟨h.1, h.2.same (put_looks a3)⟩) (fun h => ⟨h.1, fun τ hτ => (h.2 τ hτ).same (put_looks a3)⟩)
        · refine fin (e.put oj.dst (.d (.v undef))) _ (.inr (.inl ⟨hgj.same fun t ht => (put_looks a1 t ht).symm, rfl, rfl⟩)) (.inl ⟨hgi.same (put_looks a3), s, ?_, (Env.put_comm e oi.dst oj.dst s _ a2), rfl⟩)
          exact hopi.imp (fun h => ⟨h.1, h.2.same (put_looks a3)⟩) (fun h => ⟨h.1, fun τ hτ => (h.2 τ hτ).same (put_looks a3)⟩)
        · have hsi : sl i = false := by
            rcases hs2 with h | h
            · exact h
            · rw [hefj] at h; simp at h
          refine fin e σ2 (.inr (.inr ⟨hgj.same fun t ht => (put_looks a1 t ht).symm, hefj, hdj, hopj.same fun t ht => (put_looks a1 t ht).symm, rfl, hj1, hj2⟩)) (.inl ⟨hgi, s, .inr ?_, rfl, rfl⟩)
          rcases hopi with h | h
          · rw [h.1] at hsi; simp at hsi
          · exact ⟨hj2, h.2⟩
      · rcases h1 with ⟨hgj, sj, hopj, rfl, rfl⟩ | ⟨hgj, rfl, rfl⟩ | ⟨hgj, hefj, hdj, hopj, rfl, hj1, hj2⟩
        · refine fin (e.put oj.dst sj) _ (.inl ⟨hgj.same fun t ht => (put_looks a1 t ht).symm, sj, ?_, rfl, rfl⟩) (.inr (.inl ⟨hgi.same (put_looks a3), (Env.put_comm e oi.dst oj.dst _ sj a2), rfl⟩))
          exact hopj.imp (fun h => ⟨h.1, h.2.same fun t ht => (put_looks a1 t ht).symm⟩) (fun h => ⟨h.1, fun τ hτ => (h.2 τ hτ).same fun t ht => (put_looks a1 t ht).symm⟩)
        · exact fin (e.put oj.dst (.d (.v undef))) _ (.inr (.inl ⟨hgj.same fun t ht => (put_looks a1 t ht).symm, rfl, rfl⟩)) (.inr (.inl ⟨hgi.same (put_looks a3), (Env.put_comm e oi.dst oj.dst _ _ a2), rfl⟩))
        · exact fin e σ2 (.inr (.inr ⟨hgj.same fun t ht => (put_looks a1 t ht).symm, hefj, hdj, hopj.same fun t ht => (put_looks a1 t ht).symm, rfl, hj1, hj2⟩)) (.inr (.inl ⟨hgi, rfl, rfl⟩))
      · have hsj : sl j = false := by
          rcases hs1 with h | h
          · rw [hefi] at h; simp at h
          · exact h
        rcases h1 with ⟨hgj, sj, hopj, rfl, rfl⟩ | ⟨hgj, rfl, rfl⟩ | ⟨hgj, hefj, hdj, hopj, rfl, hj1, hj2⟩
        · have hall : ∀ τ, I τ → AOp cx.P cx.B ops oj e1 τ sj := by
            rcases hopj with h | h
            · rw [h.1] at hsj; simp at hsj
            · exact h.2
          exact fin (e1.put oj.dst sj) σ (.inl ⟨hgj, sj, .inr ⟨hi1, hall⟩, rfl, rfl⟩) (.inr (.inr ⟨hgi.same (put_looks a3), hefi, hdi, hopi.same (put_looks a3), rfl, hi1, hi2⟩))
        · exact fin (e1.put oj.dst (.d (.v undef))) σ (.inr (.inl ⟨hgj, rfl, rfl⟩)) (.inr (.inr ⟨hgi.same (put_looks a3), hefi, hdi, hopi.same (put_looks a3), rfl, hi1, hi2⟩))
        · rw [hse j hefj] at hsj; simp at hsj

theorem anyH_lex {cx : Cx} {ops : Array Oper} {sl ef : Nat → Bool} {I : Obs → Prop} (hse : ∀ k, ef k = true → sl k = true) {Q : Env → Obs → Prop} : ∀ (l : List Oper) (k : Nat) (listed : Array Bool) (e : Env) (σ : Obs), (∀ j, l[j]? = ops[k + j]?) →
    Region.lexFrom .any ops l.length k listed = true → Region.sensFrom ops sl ef l.length k listed = true → HRun cx ops sl ef I k l e σ Q → anyH cx ops sl ef I Q l.length listed e σ
  | [], _, _, _, _, _, hB, _, h => ⟨by simpa [Region.lexFrom] using hB, h⟩
  | o :: l, k, listed, e, σ, hl, hB, hS, h => by
    have h0 : ops[k]? = some o := by simpa using (hl 0).symm
    simp only [List.length_cons, Region.lexFrom, Bool.and_eq_true] at hB
    simp only [List.length_cons, Region.sensFrom, Bool.and_eq_true] at hS
    obtain ⟨⟨hr, hf⟩, hB'⟩ := hB
    have hl' : ∀ j, l[j]? = ops[k + 1 + j]? := fun j => by have := hl (j + 1); simpa [Nat.add_assoc, Nat.add_comm 1 j] using this
    obtain ⟨_, e', σ', hs, hK⟩ := h
    have hgo := anyH_lex hse l (k + 1) _ _ _ hl' hB' hS.2 hK
    by_cases hc : (sl k || ef k) = true
    · have h1 := hS.1
      rw [if_pos hc] at h1
      obtain ⟨k1, k2, k3⟩ := Region.sensFree_spec h1 (fun j hj => by
        unfold Region.lateB at hj
        simp only [Bool.and_eq_true, Nat.blt_eq] at hj
        exact hj.1)
      exact anyH_first hse h0 _ k1 l.length listed e σ e' σ' k2 (fun j oj hj hji hun hno => ⟨Region.free_spec h0 hf j oj hj hji hun hno, fun hl => k3 j oj hj hji hun hl⟩) (by simpa using hr) hs hgo
    · have h2 : sl k = false ∧ ef k = false := by simpa using hc
      exact anyH_first hse h0 (fun _ => false) (fun _ _ _ h => by simp at h) l.length listed e σ e' σ' (fun _ h => by simp at h) (fun j oj hj hji hun hno => ⟨Region.free_spec h0 hf j oj hj hji hun hno, fun _ => ⟨.inl h2.2, .inl h2.1⟩⟩) (by simpa using hr) hs hgo

theorem HRun.dsts {cx : Cx} {ops : Array Oper} {sl ef : Nat → Bool} {I : Obs → Prop} {Q : Env → Obs → Prop} : ∀ (l : List Oper) (k : Nat) (e : Env) (σ : Obs), HRun cx ops sl ef I k l e σ Q → ∀ o ∈ l, DstOk cx.N o
  | [], _, _, _, _, o, ho => by cases ho
  | x :: l, k, e, σ, h, o, ho => by
    obtain ⟨h1, _, _, _, h2⟩ := h
    cases ho with
    | head => exact h1
    | tail _ ho => exact HRun.dsts l _ _ _ h2 o ho

theorem wpAny_of_H {cx : Cx} {ops : Array Oper} {sl ef : Nat → Bool} {I : Obs → Prop} {Q : Post} (hd : ∀ o ∈ ops.toList, DstOk cx.N o) : ∀ (fuel : Nat) (listed : Array Bool) (e : Env) (σ : Obs) (a : Act) (w : World), R cx e σ a w →
    anyH cx ops sl ef I (fun e σ => Q .normal e σ) fuel listed e σ → wpAny cx.P .any ops (lift cx Q) fuel listed a w
  | 0, _, e, σ, _, _, hr, h => ⟨h.1, e, σ, h.2, hr⟩
  | fuel + 1, listed, e, σ, a, w, hr, h => by
    refine ⟨fun h0 => ⟨e, σ, h.1 h0, hr⟩, fun i hi => ?_⟩
    obtain ⟨_, o, ho, _⟩ := mem_ready.1 hi
    obtain ⟨e', σ', hs, hk⟩ := h.2 i hi o ho
    have hdo : DstOk cx.N o := hd o (Array.mem_toList_iff.2 (Array.mem_of_getElem? ho))
    unfold wpOp
    simp only [ho]
    obtain ⟨F, ρ, hr⟩ := hr
    rcases hs with ⟨hg, s, hop, rfl, rfl⟩ | ⟨hg, rfl, rfl⟩ | ⟨hg, _, hdst, hop, rfl, _, _⟩
    · rw [if_pos (hg.wanted (fun t _ => hr.env t))]
      have hop' : AOp cx.P cx.B ops o e σ' s := by
        rcases hop with h | h
        · exact h.2
        · exact h.2 _ h.1
      refine .inl (wp_to ?_ (fun _ _ _ => False.elim) (hop' F ρ w a hr.lt (fun t _ => hr.env t) hr.obs))
      rintro a' w' ⟨v, F', rfl, hv, he⟩
      exact wpAny_of_H hd fuel _ _ _ _ _ ⟨F', ρ, hr.put he hv hdo⟩ hk
    · rw [if_neg (by rw [hg.wanted (fun t _ => hr.env t)]; simp)]
      exact wpAny_of_H hd fuel _ _ _ _ _ ⟨F, ρ, hr.put (Ext.refl hr.lt) repS_undef hdo⟩ hk
    · rw [if_pos (hg.wanted (fun t _ => hr.env t))]
      refine .inl (wp_to ?_ (fun _ _ _ => False.elim) (hop F ρ a w e' hr (fun t _ => hr.env t)))
      rintro a' w' ⟨rfl, h3⟩
      obtain ⟨F', ρ', h4⟩ := h3 e' hr
      exact wpAny_of_H hd fuel _ _ _ _ _ ⟨F', ρ', h4⟩ hk

/-- A region that draws its order and writes, walked once, in the order of the text. -/
theorem AWP.drawH {cx : Cx} {id : Nat} {l : List Oper} {e : Env} {σ : Obs} {Q : Post} (sl ef : Nat → Bool) (I : Obs → Prop) (hse : ∀ k, ef k = true → sl k = true) (hm : cx.P.follows .mixedOrders = true) (hB : Region.lexB .any l.toArray = true)
    (hS : Region.sensFrom l.toArray sl ef l.length 0 (Array.replicate l.length false) = true) (h : HRun cx l.toArray sl ef I 0 l e σ (fun e σ => Q .normal e σ)) : AWP cx (.region id l.toArray true) e σ Q := by
  intro a w ⟨F, ρ, hr⟩
  simp only [Region.lexB, Bool.and_eq_true] at hB
  have h1 := anyH_lex hse l 0 (Array.replicate l.toArray.size false) e σ (by simp) (by simpa using hB.2) (by simpa using hS) h
  exact wp_region_any hm (wpAny_of_H (by simpa using HRun.dsts l 0 e σ h) _ _ e σ a _ ⟨F, ρ, hr.drew⟩ (by simpa using h1))
section
variable {cx : Cx} {ops : Array Oper} {o : Oper} {rest : List Oper} {e : Env} {σ : Obs} {sl ef : Nat → Bool} {I : Obs → Prop} {n : Nat} {l : List Oper} {Q : Env → Obs → Prop}
theorem HRun.nil (h : Q e σ) : HRun cx ops sl ef I n [] e σ Q := h
/-- It reads no object. -/
theorem HRun.step {s : S} {t : Nat} (hg : GW ops o e true) (ht : o.dst = some t) (hd : Nat.blt t cx.N = true) (hI : I σ) (h : ∀ τ, I τ → AOp cx.P cx.B ops o e τ s) (k : HRun cx ops sl ef I (n + 1) l (e.put (some t) s) σ Q) : HRun cx ops sl ef I n (o :: l) e σ Q :=
  ⟨by unfold DstOk; rw [ht]; exact hd, _, _, .inl ⟨hg, s, .inr ⟨hI, h⟩, rfl, rfl⟩, by rw [ht]; exact k⟩
/-- It writes. -/
theorem HRun.eff {σ' : Obs} (hf : ef n = true) (hg : GW ops o e true) (ht : o.dst = none) (h : EOp cx ops o e σ σ') (h1 : I σ) (h2 : I σ') (k : HRun cx ops sl ef I (n + 1) l e σ' Q) : HRun cx ops sl ef I n (o :: l) e σ Q :=
  ⟨by unfold DstOk; rw [ht], _, _, .inr (.inr ⟨hg, hf, ht, h, rfl, h1, h2⟩), k⟩
end
/-- A struct with own parts, loaded in a drawn region. -/
theorem XRun.loadVal {cx : Cx} {ops : Array Oper} {σ : Obs} {Φ : List Fr} {e : Env} {Qe : Env → Prop} {o : Oper} {l : List Oper} {t cid off size : Nat} {x : Operand} {ss : List S} (f : Fr) (hf : f ∈ Φ) (hg : GW ops o e true) (hgn : o.guard = none) (ht : o.dst = some f.dst) (hd : Nat.blt f.dst cx.N = true) (ho : o.op = .load t x) (hT : AggT cx.P t size)
    (hx : e.ev x = .ptr cid off) (hm : (cid, Ob.cells ss) ∈ σ) (hl : off + size ≤ ss.length) (hob : f.ob = .val (((ss.drop off).take size).map (S.kill f.id))) (hs : f.s0 = .own f.id) (k : XRun cx ops σ Φ l (e.put (some f.dst) f.s0) Qe) (hfx : cx.free f.id = true := by rfl) : XRun cx ops σ Φ (o :: l) e Qe :=
  ⟨by unfold DstOk; rw [ht]; exact hd, _, .inl ⟨hg, .inl ⟨f, hf, ⟨ht, fun e0 σ hτ he hfr => by
    have h2 : e0.ev x = e.ev x := ev_same fun t ht => he t (looks_op (by rw [ho, ht]; simp [Op.operands]))
    exact AOps.loadVal f.id hgn ht hd ho hT (h2.trans hx) (hτ _ hm) hl hfr (.nil ⟨by rw [hs], by rw [hob]⟩) hfx⟩, rfl⟩⟩, by rw [ht]; exact k⟩
end Go.Proofs.YtieccphckobhjaaGreatDoor


namespace Go.Proofs.YtieccphckobhjaaGreatDoor
open Go.RowKit
set_option linter.unusedVariables false

/-- What the operation gives depends on x's value alone; or it gives nothing. -/
def PureOp (P : Program) (o : Oper) (x : Operand) : Prop := ∀ u : Value, (∃ v, ∀ (a : Act) (w : World), a.eval x = u → (execOp a.eval o).run P w = .ok (.value v) w) ∨
  (∀ (a : Act) (w : World) (K : Act → World → Prop) (Q : Exit → Act → World → Prop), (∀ e a w, e ≠ .normal → ¬ Q e a w) → a.eval x = u → ¬ o.wp P a w K Q)
theorem PureOp.move {P : Program} {o : Oper} {x : Operand} (h : o.op = .move x) : PureOp P o x := fun u => .inl ⟨u, fun a w hx => by
  unfold execOp
  simp only [h, hx, Sem.run_pure]⟩
theorem PureOp.extract {P : Program} {o : Oper} {x : Operand} {i : Nat} (h : o.op = .extract x i) : PureOp P o x := fun u => by
  by_cases hu : ∃ vs v, u = .tuple vs ∧ vs[i]? = some v
  · obtain ⟨vs, v, rfl, hv⟩ := hu
    refine .inl ⟨v, fun a w hx => ?_⟩
    unfold execOp
    simp only [h, hx, Instr.extract, hv, Sem.run_bind, Sem.run_pure, Result.andThen_ok]
  · refine .inr fun a w K Q hQ hx hw => ?_
    unfold Oper.wp execOp at hw
    simp only [h, hx] at hw
    cases u with
    | tuple vs =>
      cases hv : vs[i]? with
      | some v => exact hu ⟨vs, v, rfl, hv⟩
      | none => simp only [Instr.extract, hv, Sem.run_bind] at hw; exact hw
    | _ => simp only [Instr.extract, Sem.run_bind] at hw; exact hw
/-- Such an operation, if it is ready, may be made first. -/
theorem wpAny_pure {P : Program} {ops : Array Oper} {Q : Exit → Act → World → Prop} {i d : Nat} {oi : Oper} {x : Operand} {u v : Value} (hi : ops[i]? = some oi) (hv : ∀ (a : Act) (w : World), a.eval x = u → (execOp a.eval oi).run P w = .ok (.value v) w) (hlk : ∀ t, x = .tmp t → t ∈ oi.looksAt ops) (hd : oi.dst = some d) (hg : oi.guard = none) (hsel : ∀ (j : Nat) (oj : Oper), ops[j]? = some oj → notSelect oj = true) (hQ : ∀ e a w, e ≠ .normal → ¬ Q e a w) :
    ∀ (fuel : Nat) (listed : Array Bool) (a : Act) (w : World), a.eval x = u →
      (∀ (j : Nat) (oj : Oper), ops[j]? = some oj → j ≠ i → listed.getD j true = false → (∀ e ∈ oj.after, Region.binds .any e = true → e.on ≠ i) → oi.apart ops oj = true) →
      i ∈ Region.ready .any ops listed → wpAny P .any ops Q fuel (listed.setIfInBounds i true) (a.put (some d) v) w → wpAny P .any ops Q (fuel + 1) listed a w := by
  have self : ∀ {fuel : Nat} {listed : Array Bool} {a : Act} {w : World}, a.eval x = u → wpAny P .any ops Q fuel (listed.setIfInBounds i true) (a.put (some d) v) w → wpOp P ops Q i (wpAny P .any ops Q fuel (listed.setIfInBounds i true)) a w := by
    intro fuel listed a w hx H
    unfold wpOp
    simp only [hi]
    have hw : Region.wanted oi (yielded ops a.tmps) = true := by simp [Region.wanted, hg]
    rw [if_pos hw]
    refine .inl ?_
    unfold Oper.wp
    rw [hv a w hx]
    simp only [Oper.upon, hd]
    exact H
  intro fuel
  induction fuel with
  | zero =>
    intro listed a w hx _ hr H
    refine ⟨fun h => (by rw [h] at hr; cases hr), fun j hj => ?_⟩
    by_cases hji : j = i
    · subst hji; exact self hx H
    · have := ready_mono hj hji
      rw [H.1] at this
      cases this
  | succ fuel ih =>
    intro listed a w hx hfree hr H
    refine ⟨fun h => (by rw [h] at hr; cases hr), fun j hj => ?_⟩
    by_cases hji : j = i
    · subst hji; exact self hx H
    · have H2 := H.2 j (ready_mono hj hji)
      obtain ⟨hjun, oj, hoj, hall⟩ := mem_ready.1 hj
      have hnot : ∀ e ∈ oj.after, Region.binds .any e = true → e.on ≠ i := fun e he hb heq => by
        have h1 := hall e he hb
        have h0 := (mem_ready.1 hr).1
        rw [heq] at h1
        rcases Nat.lt_or_ge i listed.size with h' | h'
        · simp [h'] at h0 h1; rw [h0] at h1; cases h1
        · simp [Array.getElem?_eq_none h'] at h1
      obtain ⟨a1, a2, a3⟩ := Oper.apart_spec (hfree j oj hoj hji hjun hnot)
      have hdl : d ∉ oj.looksAt ops := a1 d hd
      have hdd : oj.dst ≠ some d := fun he => a2 d hd he
      have hxo : ∀ t, x = .tmp t → oj.dst ≠ some t := fun t ht he => a3 t he (hlk t ht)
      have next : ∀ a' w', (∀ y : Operand, (∀ t, y = .tmp t → oj.dst ≠ some t) → a'.eval y = a.eval y) → wpAny P .any ops Q fuel ((listed.setIfInBounds i true).setIfInBounds j true) (a'.put (some d) v) w' → wpAny P .any ops Q (fuel + 1) (listed.setIfInBounds j true) a' w' := by
        intro a' w' he h
        refine ih _ _ _ ((he x hxo).trans hx) (fun k ok hk hki hun hno => ?_) (ready_mono hr (Ne.symm hji)) ?_
        · refine hfree k ok hk hki ?_ hno
          by_cases hjk : j = k
          · subst hjk; exact hjun
          · rw [getD_set_ne true hjk] at hun; exact hun
        · rw [Array.setIfInBounds_comm _ _ hji]
          exact h
      unfold wpOp at H2 ⊢
      simp only [hoj] at H2 ⊢
      rw [wanted_put (ops := ops) oj a (some d) v (fun t ht => by cases ht; exact hdl)] at H2
      by_cases hw : Region.wanted oj (yielded ops a.tmps) = true
      · rw [if_pos hw] at H2 ⊢
        rcases H2 with H2 | ⟨_, a1, w1, h1⟩
        · exact .inl (wp_put (ops := ops) (notSelect_spec (hsel j oj hoj)) hdl hdd hQ next H2)
        · exact absurd h1 (hQ _ _ _ (by simp))
      · rw [if_neg hw] at H2 ⊢
        refine next _ _ (fun y hy => eval_put_other a oj.dst undef y hy) ?_
        rw [put_swap a oj.dst (some d) undef v (fun t ht he => hdd (by rw [ht, he]))]
        exact H2
/-- From k on each one waits for all before it, but for those of L ahead of k. -/
def Region.chainLB (ops : Array Oper) (L : Nat → Bool) (k : Nat) : Bool := Region.downB ops && Nat.ble k ops.size && (List.range (ops.size - 1)).all fun j =>
  (L j && Nat.blt j k) || (List.range ops.size).any fun m => Nat.blt j m && (Nat.ble m k || Nat.ble m (j + 1)) && (!(L m) || Nat.ble k m) && Region.edge ops m j
structure ChainL (ops : Array Oper) (L : Nat → Bool) (k : Nat) : Prop where
  down : Region.downB ops = true
  le : k ≤ ops.size
  next : ∀ j, (L j = false ∨ k ≤ j) → j < ops.size - 1 → ∃ m, j < m ∧ (m ≤ k ∨ m ≤ j + 1) ∧ (L m = false ∨ k ≤ m) ∧ Region.edge ops m j = true
theorem ChainL.of {ops : Array Oper} {L : Nat → Bool} {k : Nat} (h : Region.chainLB ops L k = true) : ChainL ops L k := by
  unfold Region.chainLB at h
  simp only [Bool.and_eq_true] at h
  obtain ⟨⟨h1, h2⟩, h3⟩ := h
  refine ⟨h1, Nat.le_of_ble_eq_true h2, fun j hL hj => ?_⟩
  have h4 := List.all_eq_true.1 h3 j (List.mem_range.2 hj)
  rw [Bool.or_eq_true] at h4
  rcases h4 with h4 | h4
  · simp only [Bool.and_eq_true, Nat.blt_eq] at h4
    rcases hL with hL | hL
    · rw [hL] at h4; simp at h4
    · omega
  · obtain ⟨m, _, hm⟩ := List.any_eq_true.1 h4
    simp only [Bool.and_eq_true, Bool.or_eq_true, Nat.blt_eq, Bool.not_eq_true'] at hm
    exact ⟨m, hm.1.1.1, hm.1.1.2.imp Nat.le_of_ble_eq_true Nat.le_of_ble_eq_true, hm.1.2.imp id Nat.le_of_ble_eq_true, hm.2⟩
theorem ChainL.before {ops : Array Oper} {L : Nat → Bool} {k : Nat} (hC : ChainL ops L k) {listed : Array Bool} (hc : Closed ops listed) {i : Nat} (hi : i ∈ Region.ready .any ops listed) (hk : k ≤ i) : ∀ d j, (L j = false ∨ k ≤ j) → j + d = i → 0 < d → listed.getD j false = true := by
  obtain ⟨_, oi, hoi, hall⟩ := mem_ready.1 hi
  have hlt : i < ops.size := (Array.getElem?_eq_some_iff.1 hoi).1
  intro d
  induction d using Nat.strongRecOn with
  | ind d ih =>
    intro j hL hj hd
    obtain ⟨m, h1, h2, h4, h3⟩ := hC.next j hL (by omega)
    obtain ⟨o, ho, e, he, hb, heq⟩ := Region.edge_spec h3
    by_cases hmi : m = i
    · subst hmi
      rw [hoi] at ho; cases ho
      rw [← heq]; exact hall e he hb
    · have := ih (i - m) (by omega) m h4 (by omega) (by omega)
      rw [← heq]; exact hc m o ho this e he hb
section
variable {P : Program} {ops : Array Oper} {Q Q0 : Exit → Act → World → Prop} {k : Nat} {L : Nat → Bool}
theorem wpAny_chainL (hC : ChainL ops L k) : ∀ (l : List Oper) (i : Nat) (listed : Array Bool) (fuel : Nat) (a : Act) (w : World), (∀ j, l[j]? = ops[i + j]?) → i + l.length = ops.size → k ≤ i → listed.size = ops.size →
    (∀ j, j < i → listed.getD j false = true) → (∀ j, i ≤ j → j < ops.size → listed.getD j true = false) → Closed ops listed → l.length ≤ fuel → wpList P ops Q l a w → wpAny P .any ops Q fuel listed a w
  | [], i, listed, fuel, a, w, hl, hsz, hk, hls, h1, h2, hc, hf, h => by
    have hr : Region.ready .any ops listed = [] := by
      refine List.eq_nil_iff_forall_not_mem.2 fun m hm => ?_
      obtain ⟨hu, o, ho, _⟩ := mem_ready.1 hm
      have hlt : m < ops.size := (Array.getElem?_eq_some_iff.1 ho).1
      have := h1 m (by simp at hsz; omega)
      rw [getD_tf (by omega) false true, hu] at this
      simp at this
    cases fuel with
    | zero => exact ⟨hr, h⟩
    | succ f => exact ⟨fun _ => h, fun m hm => by rw [hr] at hm; cases hm⟩
  | o :: l, i, listed, fuel, a, w, hl, hsz, hk, hls, h1, h2, hc, hf, h => by
    have h0 : ops[i]? = some o := by simpa using (hl 0).symm
    have hlt : i < ops.size := (Array.getElem?_eq_some_iff.1 h0).1
    have hl' : ∀ j, l[j]? = ops[i + 1 + j]? := fun j => by have := hl (j + 1); simpa [Nat.add_assoc, Nat.add_comm 1 j] using this
    have hui := h2 i (Nat.le_refl _) hlt
    have hir : i ∈ Region.ready .any ops listed := mem_ready.2 ⟨hui, o, h0, fun e he hb => h1 _ ((Region.down_spec hC.down h0).1 e he hb)⟩
    have hnext : ∀ (a' : Act) (w' : World), wpList P ops Q l a' w' → wpAny P .any ops Q (fuel - 1) (listed.setIfInBounds i true) a' w' := fun a' w' h' =>
      wpAny_chainL hC l (i + 1) _ _ a' w' hl' (by simp at hsz; omega) (by omega) (by simp [hls]) (fun j hj => by
        by_cases hji : i = j
        · subst hji
          simp [Array.getD_eq_getD_getElem?, hls, hlt]
        · rw [getD_set_ne false hji]; exact h1 j (by omega)) (fun j hj hj2 => by rw [getD_set_ne true (by omega)]; exact h2 j (by omega) hj2) (hc.set hir) (by simp at hf; omega) h'
    obtain ⟨f, rfl⟩ : ∃ f, fuel = f + 1 := ⟨fuel - 1, by simp at hf; omega⟩
    refine ⟨fun hr => (by rw [hr] at hir; cases hir), fun m hm => ?_⟩
    obtain ⟨hu, o', ho', _⟩ := mem_ready.1 hm
    have hm2 : m = i := by
      have hmlt : m < ops.size := (Array.getElem?_eq_some_iff.1 ho').1
      rcases Nat.lt_trichotomy m i with hh | hh | hh
      · have := h1 m hh
        rw [getD_tf (by omega) false true, hu] at this
        simp at this
      · exact hh
      · have := hC.before hc hm (by omega) (m - i) i (.inr hk) (by omega) (by omega)
        rw [getD_tf (by omega) false true, hui] at this
        simp at this
    subst hm2
    unfold wpOp
    simp only [h0]
    unfold wpList at h
    by_cases hw : Region.wanted o (yielded ops a.tmps) = true
    · rw [if_pos hw] at h ⊢
      exact h.imp (Oper.wp_mono hnext) id
    · rw [if_neg hw] at h ⊢
      exact hnext _ _ h
/-- The operations of L: pure, unguarded, apart from whoever is not bound to come after. -/
structure LateOk (P : Program) (ops : Array Oper) (L : Nat → Bool) (k : Nat) : Prop where
  op : ∀ i, L i = true → i < k → ∃ oi x d, ops[i]? = some oi ∧ PureOp P oi x ∧ (∀ t, x = .tmp t → t ∈ oi.looksAt ops) ∧ oi.dst = some d ∧ oi.guard = none
  sel : ∀ (j : Nat) (oj : Oper), ops[j]? = some oj → notSelect oj = true
  apart : ∀ i oi, L i = true → i < k → ops[i]? = some oi → ∀ (j : Nat) (oj : Oper), ops[j]? = some oj → j ≠ i → (∀ e ∈ oj.after, Region.binds .any e = true → e.on ≠ i) → (∀ e ∈ oi.after, Region.binds .any e = true → e.on ≠ j) → oi.apart ops oj = true
theorem wpAny_splitL (hC : ChainL ops L k) (hL : LateOk P ops L k) {ops0 : Array Oper} (h0 : ops0.size = k) (hpre : ∀ j, j < k → ops0[j]? = ops[j]?) (hN : ∀ a w, Q0 .normal a w → wpList P ops Q (ops.toList.drop k) a w) (hQ0 : ∀ e a w, e ≠ .normal → ¬ Q0 e a w) (hQ : ∀ e a w, e ≠ .normal → ¬ Q e a w) :
    ∀ (fuel0 : Nat) (listed0 listed : Array Bool) (fuel : Nat) (a : Act) (w : World), listed0.size = k → listed.size = ops.size → (∀ j, j < k → ∀ d, listed0.getD j d = listed.getD j d) → (∀ j, k ≤ j → j < ops.size → listed.getD j true = false) →
      Closed ops listed → fuel0 + (ops.size - k) ≤ fuel → wpAny P .any ops0 Q0 fuel0 listed0 a w → wpAny P .any ops Q fuel listed a w := by
  have hle := hC.le
  have hE : ∀ e a w, e ≠ .normal → Q0 e a w → Q e a w := fun e a w h h2 => absurd h2 (hQ0 e a w h)
  have hd0 : Region.downB ops0 = true := by
    unfold Region.downB
    refine List.all_eq_true.2 fun i hi => ?_
    have hik := List.mem_range.1 hi
    have h1 := List.all_eq_true.1 hC.down i (List.mem_range.2 (by omega))
    rw [hpre i (by omega)]
    exact h1
  have all : ∀ (fuel0 : Nat) (listed0 listed : Array Bool) (fuel : Nat) (a : Act) (w : World), listed0.size = k → listed.size = ops.size → (∀ j, j < k → ∀ d, listed0.getD j d = listed.getD j d) → (∀ j, k ≤ j → j < ops.size → listed.getD j true = false) →
      Closed ops listed → fuel0 + (ops.size - k) ≤ fuel → wpAny P .any ops0 Q0 fuel0 listed0 a w → (∀ j, j < k → listed.getD j false = true) → wpAny P .any ops Q fuel listed a w := by
    intro fuel0 listed0 listed fuel a w hs0 hs hag hun hc hf H hall
    have hr0 : Region.ready .any ops0 listed0 = [] := by
      refine List.eq_nil_iff_forall_not_mem.2 fun m hm => ?_
      obtain ⟨hu, o, ho, _⟩ := mem_ready.1 hm
      have hlt : m < ops0.size := (Array.getElem?_eq_some_iff.1 ho).1
      have h1 := hall m (by omega)
      rw [← hag m (by omega), getD_tf (by omega) false true, hu] at h1
      simp at h1
    have hQ : Q0 .normal a w := by
      cases fuel0 with
      | zero => exact H.2
      | succ f => exact H.1 hr0
    exact wpAny_chainL hC (ops.toList.drop k) k listed fuel a w (fun j => by rw [List.getElem?_drop, Array.getElem?_toList]) (by rw [List.length_drop, Array.length_toList]; omega) (Nat.le_refl _) hs hall hun hc (by rw [List.length_drop, Array.length_toList]; omega) (hN a w hQ)
  intro fuel0
  induction fuel0 with
  | zero =>
    intro listed0 listed fuel a w hs0 hs hag hun hc hf H
    refine all 0 listed0 listed fuel a w hs0 hs hag hun hc hf H fun j hj => ?_
    cases hh : listed.getD j false with
    | true => rfl
    | false =>
      rw [← hag j hj, getD_tf (by omega) false true] at hh
      obtain ⟨m, _, hm⟩ := ready_least hd0 (by omega) j (by omega) hh
      rw [H.1] at hm; cases hm
  | succ fuel0 ih =>
    intro listed0 listed fuel a w hs0 hs hag hun hc hf H
    have hset : ∀ m, m < k → m ∈ Region.ready .any ops listed → ∀ (a' : Act) (w' : World) (f : Nat), fuel0 + (ops.size - k) ≤ f → wpAny P .any ops0 Q0 fuel0 (listed0.setIfInBounds m true) a' w' → wpAny P .any ops Q f (listed.setIfInBounds m true) a' w' := fun m hmk hm a' w' f hf' h' =>
      ih _ _ f a' w' (by simp [hs0]) (by simp [hs]) (fun j hj d => by
        by_cases hmj : m = j
        · subst hmj
          simp [Array.getD_eq_getD_getElem?, hs0, hs, hmk, show m < ops.size by omega]
        · rw [getD_set_ne d hmj, getD_set_ne d hmj]; exact hag j hj d) (fun j hj hj2 => by rw [getD_set_ne true (by omega)]; exact hun j hj hj2) (hc.set hm) hf' h'
    by_cases hall : ∀ j, j < k → listed.getD j false = true
    · exact all _ listed0 listed fuel a w hs0 hs hag hun hc hf H hall
    · obtain ⟨f, rfl⟩ : ∃ f, fuel = f + 1 := ⟨fuel - 1, by omega⟩
      have hready0 : ∀ m, m < k → m ∈ Region.ready .any ops listed → m ∈ Region.ready .any ops0 listed0 := fun m hmk hm => by
        obtain ⟨hu, o, ho, hdep⟩ := mem_ready.1 hm
        exact mem_ready.2 ⟨by rw [hag m hmk]; exact hu, o, by rw [hpre m hmk]; exact ho, fun e he hb => by
          have := (Region.down_spec hC.down ho).1 e he hb
          rw [hag _ (by omega)]; exact hdep e he hb⟩
      by_cases hlate : ∀ j, j < k → L j = false → listed.getD j false = true
      · -- only late ones are left: the least of them is made first
        simp only [Classical.not_forall] at hall
        obtain ⟨j, hj, hjn⟩ := hall
        have hju : listed.getD j true = false := by rw [getD_tf (by omega) true false]; simpa using hjn
        obtain ⟨m, hmj, hm⟩ := ready_least hC.down hs j (by omega) hju
        have hmk : m < k := by omega
        have hmL : L m = true := by
          cases hh : L m with
          | true => rfl
          | false =>
            have := hlate m hmk hh
            rw [getD_tf (by omega) false true, (mem_ready.1 hm).1] at this
            simp at this
        obtain ⟨oi, x, d, hoi, hp, hlk, hd, hg⟩ := hL.op m hmL hmk
        have H1 := H.2 m (hready0 m hmk hm)
        unfold wpOp at H1
        have ho0 : ops0[m]? = some oi := by rw [hpre m hmk]; exact hoi
        simp only [ho0] at H1
        have hw : Region.wanted oi (yielded ops0 a.tmps) = true := by simp [Region.wanted, hg]
        rw [if_pos hw] at H1
        rcases H1 with H1 | ⟨_, a1, w1, h1⟩
        · rcases hp (a.eval x) with ⟨v, hv⟩ | hno
          · unfold Oper.wp at H1
            rw [hv a w rfl] at H1
            simp only [Oper.upon, hd] at H1
            exact wpAny_pure hoi hv hlk hd hg hL.sel hQ f listed a w rfl (fun j oj hoj hji hun hno => hL.apart m oi hmL hmk hoi j oj hoj hji hno fun e he hb heq => by
              obtain ⟨_, o', ho', hdep⟩ := mem_ready.1 hm
              rw [hoi] at ho'; cases ho'
              have h5 := hdep e he hb
              have hjl : j < listed.size := by rw [hs]; exact (Array.getElem?_eq_some_iff.1 hoj).1
              rw [heq, getD_tf hjl false true, hun] at h5
              simp at h5) hm (hset m hmk hm _ _ f (by omega) H1)
          · exact absurd H1 (hno a w _ _ hQ0 rfl)
        · exact absurd h1 (hQ0 _ _ _ (by simp))
      · simp only [Classical.not_forall] at hlate
        obtain ⟨j, hj, hjL, hjn⟩ := hlate
        have hju : listed.getD j true = false := by rw [getD_tf (by omega) true false]; simpa using hjn
        refine ⟨fun hr => ?_, fun m hm => ?_⟩
        · obtain ⟨m, _, hm⟩ := ready_least hC.down hs j (by omega) hju
          rw [hr] at hm; cases hm
        · have hmk : m < k := by
            refine Nat.lt_of_not_le fun hkm => hjn ?_
            exact hC.before hc hm hkm (m - j) j (.inl hjL) (by omega) (by omega)
          have h1 := H.2 m (hready0 m hmk hm)
          obtain ⟨hu, o, ho, hdep⟩ := mem_ready.1 hm
          have ho0 : ops0[m]? = some o := by rw [hpre m hmk]; exact ho
          unfold wpOp at h1 ⊢
          simp only [ho, ho0] at h1 ⊢
          rw [wanted_same (ops := ops) fun p hp => hpre _ (by have := (Region.down_spec hC.down ho).2 p hp; omega)] at h1
          have hnext : ∀ (a' : Act) (w' : World), wpAny P .any ops0 Q0 fuel0 (listed0.setIfInBounds m true) a' w' → wpAny P .any ops Q f (listed.setIfInBounds m true) a' w' := fun a' w' h' => hset m hmk hm a' w' f (by omega) h'
          by_cases hw : Region.wanted o (yielded ops a.tmps) = true
          · rw [if_pos hw] at h1 ⊢
            exact h1.imp (wp_to2 hnext hE) fun h => ⟨h.1, h.2.imp fun _ => Exists.imp fun _ => hE _ _ _ (by simp)⟩
          · rw [if_neg hw] at h1 ⊢
            exact hnext _ _ h1
end
/-- The late ones, by a look at them. -/
def pureB (o : Oper) : Bool := (match o.op with | .move _ => true | .extract _ _ => true | _ => false) && o.guard.isNone && o.dst.isSome
theorem pureB_spec {P : Program} {ops : Array Oper} {o : Oper} (h : pureB o = true) : ∃ x d, PureOp P o x ∧ (∀ t, x = .tmp t → t ∈ o.looksAt ops) ∧ o.dst = some d ∧ o.guard = none := by
  unfold pureB at h
  simp only [Bool.and_eq_true] at h
  obtain ⟨⟨h1, h2⟩, h3⟩ := h
  obtain ⟨d, hd⟩ := Option.isSome_iff_exists.1 h3
  have hg : o.guard = none := by simpa using h2
  cases hop : o.op with
  | move x => exact ⟨x, d, .move hop, fun t ht => looks_op (by rw [hop, ht]; simp [Op.operands]), hd, hg⟩
  | extract x i => exact ⟨x, d, .extract hop, fun t ht => looks_op (by rw [hop, ht]; simp [Op.operands]), hd, hg⟩
  | _ => rw [hop] at h1; simp at h1
def lateB (ops : Array Oper) (L : List Nat) (k : Nat) : Bool := (ops.toList.all notSelect) && L.all fun i => Nat.blt i k && ((ops[i]?).map fun oi => pureB oi && (List.range ops.size).all fun j => Nat.beq j i || Region.edge ops j i || Region.edge ops i j || ((ops[j]?).map fun oj => oi.apart ops oj).getD true).getD false
theorem LateOk.of {P : Program} {ops : Array Oper} {L : List Nat} {k : Nat} (h : lateB ops L k = true) : LateOk P ops (fun i => L.contains i) k := by
  unfold lateB at h
  simp only [Bool.and_eq_true] at h
  have hL : ∀ i, L.contains i = true → ∃ oi, ops[i]? = some oi ∧ pureB oi = true ∧ ∀ j oj, ops[j]? = some oj → j ≠ i → (∀ e ∈ oj.after, Region.binds .any e = true → e.on ≠ i) → (∀ e ∈ oi.after, Region.binds .any e = true → e.on ≠ j) → oi.apart ops oj = true := fun i hi => by
    have h1 := List.all_eq_true.1 h.2 i (List.contains_iff_mem.1 hi)
    simp only [Bool.and_eq_true] at h1
    cases ho : ops[i]? with
    | none => rw [ho] at h1; simp at h1
    | some oi =>
      rw [ho] at h1
      simp only [Option.map_some, Option.getD_some, Bool.and_eq_true] at h1
      refine ⟨oi, rfl, h1.2.1, fun j oj hj hji hn hn2 => ?_⟩
      have h2 := List.all_eq_true.1 h1.2.2 j (List.mem_range.2 (Array.getElem?_eq_some_iff.1 hj).1)
      rw [hj] at h2
      simp only [Option.map_some, Option.getD_some, Bool.or_eq_true] at h2
      rcases h2 with ((h2 | h2) | h2) | h2
      · exact absurd (Nat.eq_of_beq_eq_true h2) hji
      · obtain ⟨o, ho2, e, he, hb, heq⟩ := Region.edge_spec h2
        rw [hj] at ho2; cases ho2
        exact absurd heq (hn e he hb)
      · obtain ⟨o, ho2, e, he, hb, heq⟩ := Region.edge_spec h2
        rw [ho] at ho2; cases ho2
        exact absurd heq (hn2 e he hb)
      · exact h2
  refine ⟨fun i hi _ => ?_, fun j oj hj => List.all_eq_true.1 h.1 oj (by simpa using Array.mem_of_getElem? hj), fun i oi hi _ hoi j oj hj hji hn hn2 => ?_⟩
  · obtain ⟨oi, h1, h2, _⟩ := hL i hi
    obtain ⟨x, d, h3, h4, h5, h6⟩ := pureB_spec (P := P) (ops := ops) h2
    exact ⟨oi, x, d, h1, h3, h4, h5, h6⟩
  · obtain ⟨oi', h1, _, h3⟩ := hL i hi
    rw [hoi] at h1; cases h1
    exact h3 j oj hj hji hn hn2
def QN (Q : Post) : Post := fun ex e σ => match ex with | .normal => Q .normal e σ | _ => False
/-- A region that draws its order and makes new objects, whose operations from k on come one after the other, but for the late ones. -/
theorem AWP.drawFreshL {cx : Cx} {rid : Nat} {l : List Oper} {e : Env} {σ : Obs} {Q : Post} (k : Nat) (L : List Nat) (Φ : List Fr) (ok : FrOk cx Φ σ) (hm : cx.P.follows .mixedOrders = true) (hB : Region.lexB .any (l.take k).toArray = true) (hC : Region.chainLB l.toArray (fun i => L.contains i) k = true) (hL : lateB l.toArray L k = true) (hlk : dstB Φ (l.take k) = true)
    (h : XRun cx (l.take k).toArray σ Φ (l.take k) (Env.killAll Φ e) (fun e => AOps cx l.toArray (l.drop k) e (frObs Φ ++ σ) (QN Q))) : AWP cx (.region rid l.toArray true) e σ Q := by
  intro a w ⟨F, ρ, hr⟩
  simp only [Region.lexB, Bool.and_eq_true] at hB
  have hch := ChainL.of hC
  have hkl : k ≤ l.length := by simpa using hch.le
  have h1 := anyX_lex (l.take k) 0 (Array.replicate (l.take k).toArray.size false) (Env.killAll Φ e) (by simp) (by simpa using hB.2) h
  have hone : ∀ f ∈ Φ, ∀ (i j : Nat) (o o' : Oper), (l.take k).toArray[i]? = some o → (l.take k).toArray[j]? = some o' → o.dst = some f.dst → o'.dst = some f.dst → i = j := fun f hf i j o o' hi hj ho ho' => by
    rw [List.getElem?_toArray] at hi hj
    have h3 := List.all_eq_true.1 (List.all_eq_true.1 (List.all_eq_true.1 hlk f hf) i (List.mem_range.2 (List.getElem?_eq_some_iff.1 hi).1)) j (List.mem_range.2 (List.getElem?_eq_some_iff.1 hj).1)
    rw [hi, hj] at h3
    simp only [Option.map_some, Option.getD_some, Bool.or_eq_true] at h3
    rcases h3 with (h3 | h3) | h3
    · exact Nat.eq_of_beq_eq_true h3
    · exact absurd ho (neDst_spec h3)
    · exact absurd ho' (neDst_spec h3)
  have h2 := wpAny_of_X (cx := cx) (ops := (l.take k).toArray) (Q := fun ex e σ => match ex with | .normal => AOps cx l.toArray (l.drop k) e σ (QN Q) | _ => False) (fun o ho => XRun.dsts _ _ h o (by simpa using ho)) hone ok _ _ (Env.killAll Φ e) _ _
    ⟨[], fun g hg => (nomatch hg), fun g hg => (nomatch hg), fun g hg => (nomatch hg), fun f hf _ t => killAll_all Φ _ f hf t, R.killAll Φ ⟨F, ρ, hr.drew⟩⟩ h1
  have h3 : wpAny cx.P .any l.toArray (lift cx (QN Q)) l.toArray.size (Array.replicate l.toArray.size false) a { w with drawn := w.drawn + 1 } := by
    refine wpAny_splitL hch (LateOk.of hL) (ops0 := (l.take k).toArray) (by simp; omega) (fun j hj => ?_) ?_ ?_ ?_ (l.take k).length _ _ _ _ _ (by simp; omega) (by simp) ?_ ?_ ?_ (by simp; omega) h2
    · rw [List.getElem?_toArray, List.getElem?_toArray, List.getElem?_take, if_pos hj]
    · rintro a w ⟨e, σ, h3, h4⟩
      have := h3 a w h4
      simpa using this
    · rintro ex a w hne ⟨e, σ, h3, _⟩
      cases ex <;> first | exact absurd rfl hne | exact h3.elim
    · rintro ex a w hne ⟨e, σ, h3, _⟩
      cases ex <;> first | exact absurd rfl hne | exact h3.elim
    · intro j hj d
      have h5 : j < l.length := by omega
      have h6 : j < min k l.length := by omega
      simp [Array.getD_eq_getD_getElem?, h5, h6]
    · intro j hj hj2
      have : j < l.length := by simpa using hj2
      simp [Array.getD_eq_getD_getElem?, this]
    · intro i o ho hi
      have : i < l.length := by simpa using (Array.getElem?_eq_some_iff.1 ho).1
      simp [Array.getD_eq_getD_getElem?, this] at hi
  refine wp_mono (wp_region_any hm h3) ?_
  rintro ex a w ⟨e, σ, h4, h5⟩
  cases ex with
  | normal => exact ⟨e, σ, h4, h5⟩
  | exit id => exact h4.elim
  | goto l => exact h4.elim
  | ret => exact h4.elim
  | panic c => exact h4.elim
  | outgrown => exact h4.elim
end Go.Proofs.YtieccphckobhjaaGreatDoor


namespace Go.Proofs.YtieccphckobhjaaGreatDoor
open Go.RowKit
set_option linter.unusedVariables false

def Env.puts (e : Env) : List (Nat × S) → Env
  | [] => e
  | p :: l => Env.puts (e.put (some p.1) p.2) l
theorem puts_other {t : Nat} : ∀ {l : List (Nat × S)} {e : Env}, t ∉ l.map Prod.fst → Env.puts e l t = e t
  | [], _, _ => rfl
  | p :: l, e, h => by
    simp only [List.map_cons, List.mem_cons, not_or] at h
    unfold Env.puts
    rw [puts_other h.2, Env.put_other _ _ _ _ h.1]
theorem puts_put {dst : Option Nat} {s : S} : ∀ {l : List (Nat × S)} {e : Env}, (∀ d, dst = some d → d ∉ l.map Prod.fst) → Env.puts (e.put dst s) l = (Env.puts e l).put dst s
  | [], _, _ => rfl
  | p :: l, e, h => by
    unfold Env.puts
    rw [Env.put_comm e dst (some p.1) s p.2 (fun d hd he => h d hd (by rw [← Option.some.inj he]; simp)), puts_put fun d hd hm => h d hd (by simp only [List.map_cons, List.mem_cons]; exact .inr hm)]
/-- An object that the region makes, and the slots that may hold it. -/
structure Fc where
  id : Nat
  slots : List Nat
def Clean (Φ : List Fc) (e : Env) : Prop := ∀ f ∈ Φ, ∀ t, f.slots.contains t = false → (e t).kill f.id = e t
def QE (e1 : Env) (σ1 : Obs) : Post := fun ex e σ => match ex with | .normal => e = e1 ∧ σ = σ1 | _ => False
/-- An operation that makes or turns objects: the slots that it sets, the objects behind it. -/
def GE (cx : Cx) (ops : Array Oper) (Φ : List Fc) (o : Oper) (e : Env) (σ : Obs) (si : List (Nat × S)) (σ' : Obs) : Prop :=
  ∀ e0 : Env, (∀ t, t ∈ o.looksAt ops → e0 t = e t) → (∀ t, t ∈ si.map Prod.fst → e0 t = e t) → Clean Φ e0 → AOps cx ops [o] e0 σ (QE (Env.puts e0 si) σ')
def LStep (cx : Cx) (ops : Array Oper) (Φ : List Fc) (ef : Nat → Bool) (K : Nat → List Nat) (I : Obs → Prop) (k : Nat) (o : Oper) (e : Env) (σ : Obs) (e' : Env) (σ' : Obs) : Prop :=
  (GW ops o e true ∧ ef k = false ∧ ∃ s, I σ ∧ (∀ τ, I τ → AOp cx.P cx.B ops o e τ s) ∧ (∀ f ∈ Φ, (∃ t, o.dst = some t ∧ f.slots.contains t = true) ∨ s.kill f.id = s) ∧ e' = e.put o.dst s ∧ σ' = σ) ∨
  (GW ops o e false ∧ ef k = false ∧ e' = e.put o.dst (.d (.v undef)) ∧ σ' = σ) ∨
  (GW ops o e true ∧ ef k = true ∧ I σ ∧ I σ' ∧ ∃ si, si.map Prod.fst = K k ∧ GE cx ops Φ o e σ si σ' ∧ (∀ p ∈ si, ∀ f ∈ Φ, f.slots.contains p.1 = true ∨ p.2.kill f.id = p.2) ∧ e' = Env.puts e si)
def LRun (cx : Cx) (ops : Array Oper) (Φ : List Fc) (ef : Nat → Bool) (K : Nat → List Nat) (I : Obs → Prop) : Nat → List Oper → Env → Obs → (Env → Obs → Prop) → Prop
  | _, [], e, σ, Q => Q e σ
  | k, o :: l, e, σ, Q => DstOk cx.N o ∧ ∃ e' σ', LStep cx ops Φ ef K I k o e σ e' σ' ∧ LRun cx ops Φ ef K I (k + 1) l e' σ' Q
def anyL (cx : Cx) (ops : Array Oper) (Φ : List Fc) (ef : Nat → Bool) (K : Nat → List Nat) (I : Obs → Prop) (Q : Env → Obs → Prop) : Nat → Array Bool → Env → Obs → Prop
  | 0, listed, e, σ => Region.ready .any ops listed = [] ∧ Q e σ
  | fuel + 1, listed, e, σ => (Region.ready .any ops listed = [] → Q e σ) ∧
      ∀ i ∈ Region.ready .any ops listed, ∀ o, ops[i]? = some o → ∃ e' σ', LStep cx ops Φ ef K I i o e σ e' σ' ∧ anyL cx ops Φ ef K I Q fuel (listed.setIfInBounds i true) e' σ'
/-- The slots of one are none of the other's. -/
def keysOkB (ops : Array Oper) (K : Nat → List Nat) (i j : Nat) (oi oj : Oper) : Bool :=
  ((K i).all fun k => !((oj.looksAt ops).contains k) && neDst oj k) && ((K j).all fun k => !((oi.looksAt ops).contains k) && neDst oi k) && (!(K i).any fun k => (K j).contains k)
theorem keysOk_l {ops : Array Oper} {K : Nat → List Nat} {i j : Nat} {oi oj : Oper} (h : keysOkB ops K i j oi oj = true) : ∀ k ∈ K i, k ∉ oj.looksAt ops ∧ oj.dst ≠ some k := fun k hk => by
  unfold keysOkB at h
  simp only [Bool.and_eq_true] at h
  have h1 := List.all_eq_true.1 h.1.1 k hk
  simp only [Bool.and_eq_true, Bool.not_eq_true', List.contains_eq_mem, decide_eq_false_iff_not] at h1
  exact ⟨h1.1, neDst_spec h1.2⟩
theorem keysOk_r {ops : Array Oper} {K : Nat → List Nat} {i j : Nat} {oi oj : Oper} (h : keysOkB ops K i j oi oj = true) : ∀ k ∈ K j, k ∉ oi.looksAt ops ∧ oi.dst ≠ some k := fun k hk => by
  unfold keysOkB at h
  simp only [Bool.and_eq_true] at h
  have h1 := List.all_eq_true.1 h.1.2 k hk
  simp only [Bool.and_eq_true, Bool.not_eq_true', List.contains_eq_mem, decide_eq_false_iff_not] at h1
  exact ⟨h1.1, neDst_spec h1.2⟩
theorem GE.same {cx : Cx} {ops : Array Oper} {Φ : List Fc} {o : Oper} {e e' : Env} {σ σ' : Obs} {si : List (Nat × S)} (h : GE cx ops Φ o e σ si σ') (h1 : ∀ t, t ∈ o.looksAt ops → e' t = e t) (h2 : ∀ t, t ∈ si.map Prod.fst → e' t = e t) : GE cx ops Φ o e' σ si σ' :=
  fun e0 k1 k2 k3 => h e0 (fun t ht => (k1 t ht).trans (h1 t ht)) (fun t ht => (k2 t ht).trans (h2 t ht)) k3
theorem anyL_first {cx : Cx} {ops : Array Oper} {Φ : List Fc} {ef : Nat → Bool} {K : Nat → List Nat} {I : Obs → Prop} (hK : ∀ k, ef k = false → K k = []) {Q : Env → Obs → Prop} {i : Nat} {oi : Oper} (hi : ops[i]? = some oi) (late : Nat → Bool)
    (hclos : ∀ j oj, ops[j]? = some oj → late j = true → ∃ e ∈ oj.after, Region.binds .any e = true ∧ (e.on = i ∨ late e.on = true)) :
    ∀ (fuel : Nat) (listed : Array Bool) (e : Env) (σ : Obs) (e1 : Env) (σ1 : Obs), (∀ j, late j = true → listed.getD j false = false) →
      (∀ j oj, ops[j]? = some oj → j ≠ i → listed.getD j true = false → (∀ e ∈ oj.after, Region.binds .any e = true → e.on ≠ i) → oi.apart ops oj = true ∧ (late j = false → (ef i = false ∨ ef j = false) ∧ keysOkB ops K i j oi oj = true)) →
      i ∈ Region.ready .any ops listed → LStep cx ops Φ ef K I i oi e σ e1 σ1 → anyL cx ops Φ ef K I Q fuel (listed.setIfInBounds i true) e1 σ1 → anyL cx ops Φ ef K I Q (fuel + 1) listed e σ := by
  intro fuel
  induction fuel with
  | zero =>
    intro listed e σ e1 σ1 _ _ hr hy H
    refine ⟨fun h => (by rw [h] at hr; cases hr), fun j hj o ho => ?_⟩
    by_cases hji : j = i
    · subst hji
      rw [hi] at ho; cases ho
      exact ⟨e1, σ1, hy, H⟩
    · have := ready_mono hj hji
      rw [H.1] at this
      cases this
  | succ fuel ih =>
    intro listed e σ e1 σ1 hlate hfree hr hy H
    refine ⟨fun h => (by rw [h] at hr; cases hr), fun j hj oj hoj => ?_⟩
    by_cases hji : j = i
    · subst hji
      rw [hi] at hoj; cases hoj
      exact ⟨e1, σ1, hy, H⟩
    · obtain ⟨e2, σ2, h1, h2⟩ := H.2 j (ready_mono hj hji) oj hoj
      obtain ⟨hjun, oj', hoj', hall⟩ := mem_ready.1 hj
      rw [hoj] at hoj'; cases hoj'
      have hnot : ∀ e ∈ oj.after, Region.binds .any e = true → e.on ≠ i := fun e he hb heq => by
        have h1 := hall e he hb
        have h0 := (mem_ready.1 hr).1
        rw [heq] at h1
        rcases Nat.lt_or_ge i listed.size with h' | h'
        · simp [h'] at h0 h1; rw [h0] at h1; cases h1
        · simp [Array.getElem?_eq_none h'] at h1
      have hjl : late j = false := by
        cases hl : late j with
        | false => rfl
        | true =>
          obtain ⟨e, he, hb, hh⟩ := hclos j oj hoj hl
          rcases hh with hh | hh
          · exact absurd hh (hnot e he hb)
          · have h3 := hall e he hb
            rw [hlate _ hh] at h3
            simp at h3
      obtain ⟨hap, hss⟩ := hfree j oj hoj hji hjun hnot
      obtain ⟨hs1, hs2⟩ := hss hjl
      obtain ⟨a1, a2, a3⟩ := Oper.apart_spec hap
      have kl := keysOk_l hs2
      have kr := keysOk_r hs2
      have fin : ∀ ej σj, LStep cx ops Φ ef K I j oj e σ ej σj → LStep cx ops Φ ef K I i oi ej σj e2 σ2 → ∃ e' σ', LStep cx ops Φ ef K I j oj e σ e' σ' ∧ anyL cx ops Φ ef K I Q (fuel + 1) (listed.setIfInBounds j true) e' σ' := fun ej σj hsj hsi => by
        refine ⟨ej, σj, hsj, ?_⟩
        refine ih (listed.setIfInBounds j true) ej σj e2 σ2 (fun k hk => ?_) (fun k ok hk hki hun hno => ?_) (ready_mono hr (Ne.symm hji)) hsi ?_
        · have hkj : j ≠ k := fun h => by rw [h, hk] at hjl; simp at hjl
          rw [getD_set_ne false hkj]
          exact hlate k hk
        · refine hfree k ok hk hki ?_ hno
          by_cases hjk : j = k
          · subst hjk; exact hjun
          · rw [getD_set_ne true hjk] at hun; exact hun
        · rw [Array.setIfInBounds_comm _ _ hji]
          exact h2
      have look1 : ∀ {s : S} t, t ∈ oj.looksAt ops → (e.put oi.dst s) t = e t := fun t ht => put_looks a1 t ht
      have look2 : ∀ {s : S} t, t ∈ oi.looksAt ops → (e.put oj.dst s) t = e t := fun t ht => put_looks a3 t ht
      rcases hy with ⟨hgi, hei, s, hI, hopi, hcl, rfl, rfl⟩ | ⟨hgi, hei, rfl, rfl⟩ | ⟨hgi, hei, hi1, hi2, si, hki, hopi, hci, rfl⟩
      · rcases h1 with ⟨hgj, hej, sj, hIj, hopj, hclj, rfl, rfl⟩ | ⟨hgj, hej, rfl, rfl⟩ | ⟨hgj, hej, hj1, hj2, sj, hkj, hopj, hcj, rfl⟩
        · exact fin (e.put oj.dst sj) _ (.inl ⟨hgj.same fun t ht => (look1 t ht).symm, hej, sj, hIj, fun τ hτ => (hopj τ hτ).same fun t ht => (look1 t ht).symm, hclj, rfl, rfl⟩) (.inl ⟨hgi.same (fun t ht => look2 t ht), hei, s, hI, fun τ hτ => (hopi τ hτ).same (fun t ht => look2 t ht), hcl, (Env.put_comm e oi.dst oj.dst s sj a2), rfl⟩)
        · exact fin (e.put oj.dst (.d (.v undef))) _ (.inr (.inl ⟨hgj.same fun t ht => (look1 t ht).symm, hej, rfl, rfl⟩)) (.inl ⟨hgi.same (fun t ht => look2 t ht), hei, s, hI, fun τ hτ => (hopi τ hτ).same (fun t ht => look2 t ht), hcl, (Env.put_comm e oi.dst oj.dst s _ a2), rfl⟩)
        · have hkd : ∀ d, oi.dst = some d → d ∉ sj.map Prod.fst := fun d hd hm => by rw [hkj] at hm; exact (kr d hm).2 hd
          have hkl : ∀ t, t ∈ oi.looksAt ops → Env.puts e sj t = e t := fun t ht => puts_other fun hm => by rw [hkj] at hm; exact (kr t hm).1 ht
          refine fin (Env.puts e sj) σ2 (.inr (.inr ⟨hgj.same fun t ht => (look1 t ht).symm, hej, hj1, hj2, sj, hkj, hopj.same (fun t ht => (look1 t ht).symm) (fun t ht => ?_), hcj, rfl⟩)) (.inl ⟨hgi.same hkl, hei, s, hj2, fun τ hτ => (hopi τ hτ).same hkl, hcl, puts_put hkd, rfl⟩)
          cases hd : oi.dst with
          | none => rfl
          | some d => exact (Env.put_other _ _ _ _ (fun (he : t = d) => hkd d hd (he ▸ ht))).symm
      · rcases h1 with ⟨hgj, hej, sj, hIj, hopj, hclj, rfl, rfl⟩ | ⟨hgj, hej, rfl, rfl⟩ | ⟨hgj, hej, hj1, hj2, sj, hkj, hopj, hcj, rfl⟩
        · exact fin (e.put oj.dst sj) _ (.inl ⟨hgj.same fun t ht => (look1 t ht).symm, hej, sj, hIj, fun τ hτ => (hopj τ hτ).same fun t ht => (look1 t ht).symm, hclj, rfl, rfl⟩) (.inr (.inl ⟨hgi.same (fun t ht => look2 t ht), hei, (Env.put_comm e oi.dst oj.dst _ sj a2), rfl⟩))
        · exact fin (e.put oj.dst (.d (.v undef))) _ (.inr (.inl ⟨hgj.same fun t ht => (look1 t ht).symm, hej, rfl, rfl⟩)) (.inr (.inl ⟨hgi.same (fun t ht => look2 t ht), hei, (Env.put_comm e oi.dst oj.dst _ _ a2), rfl⟩))
        · have hkd : ∀ d, oi.dst = some d → d ∉ sj.map Prod.fst := fun d hd hm => by rw [hkj] at hm; exact (kr d hm).2 hd
          have hkl : ∀ t, t ∈ oi.looksAt ops → Env.puts e sj t = e t := fun t ht => puts_other fun hm => by rw [hkj] at hm; exact (kr t hm).1 ht
          refine fin (Env.puts e sj) σ2 (.inr (.inr ⟨hgj.same fun t ht => (look1 t ht).symm, hej, hj1, hj2, sj, hkj, hopj.same (fun t ht => (look1 t ht).symm) (fun t ht => ?_), hcj, rfl⟩)) (.inr (.inl ⟨hgi.same hkl, hei, puts_put hkd, rfl⟩))
          cases hd : oi.dst with
          | none => rfl
          | some d => exact (Env.put_other _ _ _ _ (fun (he : t = d) => hkd d hd (he ▸ ht))).symm
      · have hkd : ∀ d, oj.dst = some d → d ∉ si.map Prod.fst := fun d hd hm => by rw [hki] at hm; exact (kl d hm).2 hd
        have hkl : ∀ t, t ∈ oj.looksAt ops → Env.puts e si t = e t := fun t ht => puts_other fun hm => by rw [hki] at hm; exact (kl t hm).1 ht
        have hke : ∀ {s : S} t, t ∈ si.map Prod.fst → (e.put oj.dst s) t = e t := fun {s} t ht => by
          cases hd : oj.dst with
          | none => rfl
          | some d => exact Env.put_other _ _ _ _ (fun he => hkd d hd (he ▸ ht))
        rcases h1 with ⟨hgj, hej, sj, hIj, hopj, hclj, rfl, rfl⟩ | ⟨hgj, hej, rfl, rfl⟩ | ⟨hgj, hej, hj1, hj2, sj, hkj, hopj, hcj, rfl⟩
        · exact fin (e.put oj.dst sj) σ (.inl ⟨hgj.same fun t ht => (hkl t ht).symm, hej, sj, hi1, fun τ hτ => (hopj τ hτ).same fun t ht => (hkl t ht).symm, hclj, rfl, rfl⟩) (.inr (.inr ⟨hgi.same (fun t ht => look2 t ht), hei, hi1, hi2, si, hki, hopi.same (fun t ht => look2 t ht) (fun t ht => hke t ht), hci, (puts_put hkd).symm⟩))
        · exact fin (e.put oj.dst (.d (.v undef))) σ (.inr (.inl ⟨hgj.same fun t ht => (hkl t ht).symm, hej, rfl, rfl⟩)) (.inr (.inr ⟨hgi.same (fun t ht => look2 t ht), hei, hi1, hi2, si, hki, hopi.same (fun t ht => look2 t ht) (fun t ht => hke t ht), hci, (puts_put hkd).symm⟩))
        · rcases hs1 with h | h
          · rw [hei] at h; simp at h
          · rw [hej] at h; simp at h
/-- The check: whoever is free to change places has nothing to do with the other. -/
def Region.keysFree (ops : Array Oper) (ef : Nat → Bool) (K : Nat → List Nat) (listed : Array Bool) (k : Nat) (late : Nat → Bool) : Bool :=
  (List.range ops.size).all fun j =>
    (!(late j) || (!(listed.getD j false) && ((ops[j]?).map fun o => o.after.any fun e => Region.binds .any e && (Nat.beq e.on k || late e.on)).getD true)) &&
    (Nat.beq j k || listed.getD j true || late j || Region.edge ops j k || ((!(ef k) || !(ef j)) && ((ops[k]?).bind fun oi => (ops[j]?).map fun oj => keysOkB ops K k j oi oj).getD false))
def Region.keysFrom (ops : Array Oper) (ef : Nat → Bool) (K : Nat → List Nat) : Nat → Nat → Array Bool → Bool
  | 0, _, _ => true
  | fuel + 1, k, listed => Region.keysFree ops ef K listed k (Region.lateB ops k) && Region.keysFrom ops ef K fuel (k + 1) (listed.setIfInBounds k true)
theorem Region.keysFree_spec {ops : Array Oper} {ef : Nat → Bool} {K : Nat → List Nat} {listed : Array Bool} {k : Nat} {oi : Oper} {late : Nat → Bool} (h : Region.keysFree ops ef K listed k late = true) (hk : ops[k]? = some oi) (hl : ∀ j, late j = true → j < ops.size) :
    (∀ j oj, ops[j]? = some oj → late j = true → ∃ e ∈ oj.after, Region.binds .any e = true ∧ (e.on = k ∨ late e.on = true)) ∧ (∀ j, late j = true → listed.getD j false = false) ∧
    ∀ j oj, ops[j]? = some oj → j ≠ k → listed.getD j true = false → (∀ e ∈ oj.after, Region.binds .any e = true → e.on ≠ k) → late j = false → (ef k = false ∨ ef j = false) ∧ keysOkB ops K k j oi oj = true := by
  have h1 : ∀ j, j < ops.size → _ := fun j hj => List.all_eq_true.1 h j (List.mem_range.2 hj)
  simp only [Bool.and_eq_true] at h1
  refine ⟨fun j oj hoj hlj => ?_, fun j hlj => ?_, fun j oj hoj hjk hun hno hlj => ?_⟩
  · have h2 := (h1 j (Array.getElem?_eq_some_iff.1 hoj).1).1
    rw [hlj, hoj] at h2
    simp only [Bool.not_true, Bool.false_or, Option.map_some, Option.getD_some, Bool.and_eq_true, Array.any_eq_true'] at h2
    obtain ⟨_, e, he, hb⟩ := h2
    simp only [Bool.or_eq_true] at hb
    exact ⟨e, he, hb.1, hb.2.imp Nat.eq_of_beq_eq_true (fun x => x)⟩
  · have h2 := (h1 j (hl j hlj)).1
    rw [hlj] at h2
    simp only [Bool.not_true, Bool.false_or, Bool.and_eq_true, Bool.not_eq_true'] at h2
    exact h2.1
  · have h2 := (h1 j (Array.getElem?_eq_some_iff.1 hoj).1).2
    have hb : Nat.beq j k = false := by rw [Bool.eq_false_iff]; exact fun hh => hjk (Nat.eq_of_beq_eq_true hh)
    rw [hb, hun, hlj, hk, hoj] at h2
    simp only [Bool.false_or, Bool.or_eq_true, Bool.and_eq_true, Bool.not_eq_true', Option.bind_some, Option.map_some, Option.getD_some] at h2
    rcases h2 with h2 | h2
    · obtain ⟨o, ho, e, he, hb2, heq⟩ := Region.edge_spec h2
      rw [hoj] at ho; cases ho
      exact absurd heq (hno e he hb2)
    · exact h2
theorem anyL_lex {cx : Cx} {ops : Array Oper} {Φ : List Fc} {ef : Nat → Bool} {K : Nat → List Nat} {I : Obs → Prop} (hK : ∀ k, ef k = false → K k = []) {Q : Env → Obs → Prop} : ∀ (l : List Oper) (k : Nat) (listed : Array Bool) (e : Env) (σ : Obs), (∀ j, l[j]? = ops[k + j]?) →
    Region.lexFrom .any ops l.length k listed = true → Region.keysFrom ops ef K l.length k listed = true → LRun cx ops Φ ef K I k l e σ Q → anyL cx ops Φ ef K I Q l.length listed e σ
  | [], _, _, _, _, _, hB, _, h => ⟨by simpa [Region.lexFrom] using hB, h⟩
  | o :: l, k, listed, e, σ, hl, hB, hS, h => by
    have h0 : ops[k]? = some o := by simpa using (hl 0).symm
    simp only [List.length_cons, Region.lexFrom, Bool.and_eq_true] at hB
    simp only [List.length_cons, Region.keysFrom, Bool.and_eq_true] at hS
    obtain ⟨⟨hr, hf⟩, hB'⟩ := hB
    have hl' : ∀ j, l[j]? = ops[k + 1 + j]? := fun j => by have := hl (j + 1); simpa [Nat.add_assoc, Nat.add_comm 1 j] using this
    obtain ⟨_, e', σ', hs, hq⟩ := h
    have hgo := anyL_lex hK l (k + 1) _ _ _ hl' hB' hS.2 hq
    obtain ⟨k1, k2, k3⟩ := Region.keysFree_spec hS.1 h0 (fun j hj => by
      unfold Region.lateB at hj
      simp only [Bool.and_eq_true, Nat.blt_eq] at hj
      exact hj.1)
    exact anyL_first hK h0 _ k1 l.length listed e σ e' σ' k2 (fun j oj hj hji hun hno => ⟨Region.free_spec h0 hf j oj hj hji hun hno, fun hl => k3 j oj hj hji hun hno hl⟩) (by simpa using hr) hs hgo
theorem LRun.dsts {cx : Cx} {ops : Array Oper} {Φ : List Fc} {ef : Nat → Bool} {K : Nat → List Nat} {I : Obs → Prop} {Q : Env → Obs → Prop} : ∀ (l : List Oper) (k : Nat) (e : Env) (σ : Obs), LRun cx ops Φ ef K I k l e σ Q → ∀ o ∈ l, DstOk cx.N o
  | [], _, _, _, _, o, ho => by cases ho
  | x :: l, k, e, σ, h, o, ho => by
    obtain ⟨h1, _, _, _, h2⟩ := h
    cases ho with
    | head => exact h1
    | tail _ ho => exact LRun.dsts l _ _ _ h2 o ho
theorem Clean.put {Φ : List Fc} {e : Env} {dst : Option Nat} {s : S} (h : Clean Φ e) (hs : ∀ f ∈ Φ, (∃ t, dst = some t ∧ f.slots.contains t = true) ∨ s.kill f.id = s) : Clean Φ (e.put dst s) := fun f hf t ht => by
  cases dst with
  | none => exact h f hf t ht
  | some d =>
    by_cases hd : t = d
    · subst hd
      rw [Env.put_same]
      rcases hs f hf with ⟨t', h1, h2⟩ | h1
      · cases h1; rw [ht] at h2; simp at h2
      · exact h1
    · rw [Env.put_other _ _ _ _ hd]; exact h f hf t ht
theorem Clean.puts {Φ : List Fc} : ∀ {l : List (Nat × S)} {e : Env}, Clean Φ e → (∀ p ∈ l, ∀ f ∈ Φ, f.slots.contains p.1 = true ∨ p.2.kill f.id = p.2) → Clean Φ (Env.puts e l)
  | [], _, h, _ => h
  | p :: l, e, h, hs => by
    unfold Env.puts
    refine Clean.puts (fun f hf t ht => ?_) fun q hq => hs q (List.mem_cons_of_mem _ hq)
    by_cases hd : t = p.1
    · subst hd
      rw [Env.put_same]
      rcases hs p (by simp) f hf with h1 | h1
      · rw [ht] at h1; simp at h1
      · exact h1
    · rw [Env.put_other _ _ _ _ hd]; exact h f hf t ht
theorem wpAny_of_L {cx : Cx} {ops : Array Oper} {Φ : List Fc} {ef : Nat → Bool} {K : Nat → List Nat} {I : Obs → Prop} {Q : Post} (hQ : ∀ ex e σ, ex ≠ .normal → ¬ Q ex e σ) (hd : ∀ o ∈ ops.toList, DstOk cx.N o) : ∀ (fuel : Nat) (listed : Array Bool) (e : Env) (σ : Obs) (a : Act) (w : World), R cx e σ a w → Clean Φ e →
    anyL cx ops Φ ef K I (fun e σ => Q .normal e σ) fuel listed e σ → wpAny cx.P .any ops (lift cx Q) fuel listed a w
  | 0, _, e, σ, _, _, hr, _, h => ⟨h.1, e, σ, h.2, hr⟩
  | fuel + 1, listed, e, σ, a, w, hr, hc, h => by
    refine ⟨fun h0 => ⟨e, σ, h.1 h0, hr⟩, fun i hi => ?_⟩
    obtain ⟨_, o, ho, _⟩ := mem_ready.1 hi
    obtain ⟨e', σ', hs, hk⟩ := h.2 i hi o ho
    have hdo : DstOk cx.N o := hd o (Array.mem_toList_iff.2 (Array.mem_of_getElem? ho))
    unfold wpOp
    simp only [ho]
    have hR := hr
    obtain ⟨F, ρ, hr⟩ := hr
    rcases hs with ⟨hg, _, s, hI, hop, hcl, rfl, rfl⟩ | ⟨hg, _, rfl, rfl⟩ | ⟨hg, _, _, _, si, _, hop, hci, rfl⟩
    · rw [if_pos (hg.wanted (fun t _ => hr.env t))]
      refine .inl (wp_to ?_ (fun _ _ _ => False.elim) (hop _ hI F ρ w a hr.lt (fun t _ => hr.env t) hr.obs))
      rintro a' w' ⟨v, F', rfl, hv, he⟩
      exact wpAny_of_L hQ hd fuel _ _ _ _ _ ⟨F', ρ, hr.put he hv hdo⟩ (hc.put hcl) hk
    · rw [if_neg (by rw [hg.wanted (fun t _ => hr.env t)]; simp)]
      exact wpAny_of_L hQ hd fuel _ _ _ _ _ ⟨F, ρ, hr.put (Ext.refl hr.lt) repS_undef hdo⟩ (hc.put fun _ _ => .inr rfl) hk
    · have hw : Region.wanted o (yielded ops a.tmps) = true := hg.wanted (fun t _ => hr.env t)
      rw [if_pos hw]
      have h4 := hop e (fun _ _ => rfl) (fun _ _ => rfl) hc a w hR
      unfold wpList at h4
      rw [if_pos hw] at h4
      refine h4.imp (wp_to2 ?_ ?_) fun h => ⟨h.1, ?_⟩
      · rintro a' w' ⟨e', σ'', ⟨rfl, rfl⟩, hr'⟩
        exact wpAny_of_L hQ hd fuel _ _ _ _ _ hr' (hc.puts hci) hk
      · rintro ex a' w' hne ⟨e', σ'', hq, _⟩
        cases ex <;> first | exact absurd rfl hne | exact hq.elim
      · obtain ⟨a', w', e', σ'', hq, _⟩ := h.2
        exact hq.elim
/-- Before the region: no slot but those told holds what it makes or turns. -/
def Env.killOut (f : Fc) (e : Env) : Env := fun t => match f.slots.contains t with | true => e t | false => (e t).kill f.id
def Env.killIds : List Fc → Env → Env
  | [], e => e
  | f :: l, e => Env.killIds l (e.killOut f)
theorem killOut_keep {f : Fc} {g : Fc} {e : Env} (h : Clean [g] e) : Clean [g] (e.killOut f) := fun g' hg t ht => by
  have h1 := h g' hg t ht
  unfold Env.killOut
  cases f.slots.contains t with
  | true => exact h1
  | false => show S.kill g'.id (S.kill f.id (e t)) = S.kill f.id (e t); rw [kill_comm, h1]
theorem killIds_keep {g : Fc} : ∀ {Φ : List Fc} {e : Env}, Clean [g] e → Clean [g] (Env.killIds Φ e)
  | [], _, h => h
  | _ :: l, _, h => killIds_keep (Φ := l) (killOut_keep h)
theorem killOut_clean (f : Fc) (e : Env) : Clean [f] (e.killOut f) := fun g hg t ht => by
  obtain rfl := List.mem_singleton.1 hg
  unfold Env.killOut
  rw [ht]
  exact S.kill_kill g.id (e t)
theorem killIds_clean : ∀ (Φ : List Fc) (e : Env), Clean Φ (Env.killIds Φ e)
  | g :: l, e, f, hf, t, ht => by
    rcases List.mem_cons.1 hf with rfl | hf
    · exact killIds_keep (Φ := l) (killOut_clean f e) f (by simp) t ht
    · exact killIds_clean l (e.killOut g) f hf t ht
theorem R.killOut {cx : Cx} {σ : Obs} {a : Act} {w : World} {e : Env} (f : Fc) : R cx e σ a w → R cx (e.killOut f) σ a w
  | ⟨F, ρ, h⟩ => by
    have henv : ∀ t, RepS F ρ w (a.tmps.getD t undef) (e.killOut f t) := fun t => by
      unfold Env.killOut
      cases f.slots.contains t with
      | true => exact h.env t
      | false => exact (h.killEnv f.id).env t
    exact ⟨F, ρ, h.size, h.defers, h.lt, h.base, h.new, h.below, h.hB, henv, h.obs, h.up, h.kown, h.fixed⟩
theorem R.killIds {cx : Cx} {σ : Obs} {a : Act} {w : World} : ∀ (Φ : List Fc) {e : Env}, R cx e σ a w → R cx (Env.killIds Φ e) σ a w
  | [], _, h => h
  | f :: l, _, h => R.killIds l (R.killOut f h)
/-- The same, with a tail that waits for all before it. -/
theorem AWP.drawLTail {cx : Cx} {id : Nat} {l : List Oper} {e : Env} {σ : Obs} {Q : Post} (k : Nat) (Φ : List Fc) (E : List (Nat × List Nat)) (I : Obs → Prop) (hm : cx.P.follows .mixedOrders = true) (hB : Region.lexB .any (l.take k).toArray = true)
    (hS : Region.keysFrom (l.take k).toArray (fun k => E.any fun p => Nat.beq p.1 k) (fun k => ((E.find? fun p => Nat.beq p.1 k).map Prod.snd).getD []) (l.take k).length 0 (Array.replicate (l.take k).length false) = true) (hC : Region.chainB l.toArray k = true)
    (h : LRun cx (l.take k).toArray Φ (fun k => E.any fun p => Nat.beq p.1 k) (fun k => ((E.find? fun p => Nat.beq p.1 k).map Prod.snd).getD []) I 0 (l.take k) (Env.killIds Φ e) σ (fun e σ => AOps cx l.toArray (l.drop k) e σ Q)) : AWP cx (.region id l.toArray true) e σ Q := by
  intro a w ⟨F, ρ, hr⟩
  simp only [Region.lexB, Bool.and_eq_true] at hB
  have hch := Chain.of hC
  have hkl : k ≤ l.length := by simpa using hch.le
  have hK : ∀ k, (E.any fun p => Nat.beq p.1 k) = false → ((E.find? fun p => Nat.beq p.1 k).map Prod.snd).getD [] = [] := fun k hk => by
    have : E.find? (fun p => Nat.beq p.1 k) = none := List.find?_eq_none.2 fun p hp hh => by
      have : (E.any fun p => Nat.beq p.1 k) = true := List.any_eq_true.2 ⟨p, hp, hh⟩
      rw [hk] at this
      simp at this
    rw [this]; rfl
  have h1 := anyL_lex hK (l.take k) 0 (Array.replicate (l.take k).toArray.size false) _ σ (by simp) (by simpa using hB.2) (by simpa using hS) h
  have h2 := wpAny_of_L (cx := cx) (ops := (l.take k).toArray) (Q := fun ex e σ => match ex with | .normal => AOps cx l.toArray (l.drop k) e σ Q | _ => False) (fun ex e σ hne hq => by cases ex <;> first | exact absurd rfl hne | exact hq.elim) (by simpa using LRun.dsts _ 0 _ σ h) _ _ _ σ a _ (R.killIds Φ ⟨F, ρ, hr.drew⟩) (killIds_clean Φ e) h1
  refine wp_region_any hm (wpAny_split hch (ops0 := (l.take k).toArray) (by simp; omega) (fun j hj => by simp [hj]) ?_ ?_ (l.take k).length _ _ _ _ _ (by simp; omega) (by simp) ?_ ?_ ?_ (by simp; omega) h2)
  · rintro a w ⟨e, σ, h3, h4⟩
    have := h3 a w h4
    simpa using this
  · rintro ex a w hne ⟨e, σ, h3, _⟩
    cases ex <;> first | exact absurd rfl hne | exact h3.elim
  · intro j hj d
    have h5 : j < l.length := by omega
    have h6 : j < min k l.length := by omega
    simp [Array.getD_eq_getD_getElem?, h5, h6]
  · intro j hj hj2
    have : j < l.length := by simpa using hj2
    simp [Array.getD_eq_getD_getElem?, this]
  · intro i o ho hi
    have : i < l.length := by simpa using (Array.getElem?_eq_some_iff.1 ho).1
    simp [Array.getD_eq_getD_getElem?, this] at hi
section
variable {cx : Cx} {ops : Array Oper} {Φ : List Fc} {ef : Nat → Bool} {K : Nat → List Nat} {I : Obs → Prop} {n : Nat} {o : Oper} {l : List Oper} {e : Env} {σ : Obs} {Q : Env → Obs → Prop}
def cleanS (t : Nat) (s : S) : List Fc → Prop
  | [] => True
  | f :: l => (f.slots.contains t = true ∨ s.kill f.id = s) ∧ cleanS t s l
theorem cleanS.all {t : Nat} {s : S} : ∀ {l : List Fc}, cleanS t s l → ∀ f ∈ l, f.slots.contains t = true ∨ s.kill f.id = s
  | [], _, f, hf => by cases hf
  | g :: l, h, f, hf => by
    cases hf with
    | head => exact h.1
    | tail _ hf => exact cleanS.all h.2 f hf
theorem LRun.nil (h : Q e σ) : LRun cx ops Φ ef K I n [] e σ Q := h
theorem LRun.step {s : S} {t : Nat} (hg : GW ops o e true) (ht : o.dst = some t) (hd : Nat.blt t cx.N = true) (hI : I σ) (h : ∀ τ, I τ → AOp cx.P cx.B ops o e τ s) (k : LRun cx ops Φ ef K I (n + 1) l (e.put (some t) s) σ Q) (he : ef n = false := by rfl) (hc : cleanS t s Φ := by first | exact ⟨.inr rfl, trivial⟩ | exact ⟨.inl rfl, trivial⟩) : LRun cx ops Φ ef K I n (o :: l) e σ Q :=
  ⟨by unfold DstOk; rw [ht]; exact hd, _, _, .inl ⟨hg, he, s, hI, h, fun f hf => (hc.all f hf).imp (fun h => ⟨t, ht, h⟩) id, rfl, rfl⟩, by rw [ht]; exact k⟩
def cleanL (Φ : List Fc) : List (Nat × S) → Prop
  | [] => True
  | p :: l => (∀ f ∈ Φ, f.slots.contains p.1 = true ∨ p.2.kill f.id = p.2) ∧ cleanL Φ l
theorem LRun.eff {si : List (Nat × S)} {σ' : Obs} (hg : GW ops o e true) (hd : DstOk cx.N o) (h1 : I σ) (h2 : I σ') (h : GE cx ops Φ o e σ si σ') (k : LRun cx ops Φ ef K I (n + 1) l (Env.puts e si) σ' Q) (hc : ∀ p ∈ si, ∀ f ∈ Φ, f.slots.contains p.1 = true ∨ p.2.kill f.id = p.2) (he : ef n = true := by rfl) (hk : si.map Prod.fst = K n := by rfl) : LRun cx ops Φ ef K I n (o :: l) e σ Q :=
  ⟨hd, _, _, .inr (.inr ⟨hg, he, h1, h2, si, hk, h, hc, rfl⟩), k⟩
theorem pair_eq {id a b : Nat} {e0 e : Env} (hab : a ≠ b) (hb : e0 b = e b) (hc : ∀ t, t ≠ a → t ≠ b → (e0 t).kill id = e0 t) : (e0.kill id).put (some a) (.own id) = Env.puts e0 [(b, (e b).kill id), (a, .own id)] := by
  funext t
  show _ = ((e0.put (some b) ((e b).kill id)).put (some a) (.own id)) t
  by_cases h1 : t = a
  · subst h1; rw [Env.put_same, Env.put_same]
  · rw [Env.put_other _ _ _ _ h1, Env.put_other _ _ _ _ h1]
    by_cases h2 : t = b
    · subst h2; rw [Env.put_same]; show (e0 t).kill id = _; rw [hb]
    · rw [Env.put_other _ _ _ _ h2]; exact hc t h1 h2
/-- A call that makes an own row, and the one other slot that is to hold it. -/
theorem GE.callO {f : FuncId} {xs : List Operand} {ts : Array TypeId} {ds : List D} {ee size dst : Nat} {els : List (List D)} {σ' : Obs} (id b : Nat) {sl : List Nat} (hΦ : ⟨id, sl⟩ ∈ Φ) (hsl : ∀ t, t ≠ dst → t ≠ b → sl.contains t = false) (hab : dst ≠ b) (hg : o.guard = none) (ht : o.dst = some dst) (hdn : Nat.blt dst cx.N = true)
    (ho : o.op = .call { callee := .value (.func f), args := xs.toArray, argTypes := ts }) (ha : ArgsOk e xs ds) (h : OCall cx.P f ds ee size els) (hid : Obs.fresh id σ = true) (hσ : (id, .row ee size els) :: Obs.kill id σ = σ') (hfx : cx.free id = true := by rfl) :
    GE cx ops Φ o e σ [(b, (e b).kill id), (dst, .own id)] σ' := fun e0 h1 h2 h3 => by
  have hev : ∀ x ∈ xs, e0.ev x = e.ev x := fun x hx => ev_same fun t hxt => h1 t (looks_op (by rw [ho, ← hxt]; simp [Op.operands, Call.operands, hx]))
  have ha0 : ArgsOk e0 xs ds := by
    have key : ∀ (xs : List Operand) (ds : List D), (∀ x ∈ xs, e0.ev x = e.ev x) → ArgsOk e xs ds → ArgsOk e0 xs ds := by
      intro xs
      induction xs with
      | nil => intro ds _ h; cases ds <;> exact h
      | cons x xs ih =>
        intro ds hx h
        cases ds with
        | nil => exact h
        | cons d ds =>
          obtain ⟨⟨d0, h1, h2⟩, h3⟩ := h
          exact ⟨⟨d0, (hx x (by simp)).trans h1, h2⟩, ih ds (fun y hy => hx y (by simp [hy])) h3⟩
    exact key xs ds hev ha
  have hp := pair_eq (id := id) (e0 := e0) (e := e) hab (h2 b (by simp)) fun t ht1 ht2 => h3 _ hΦ t (hsl t ht1 ht2)
  exact AOps.callO id hg ht hdn ho ha0 h hid (.nil ⟨hp, hσ⟩) hfx
/-- An append to it. -/
theorem GE.append {s x : Operand} {t ee size bytes dst : Nat} {z : Value} {els els2 : List (List D)} {σ' : Obs} (id b : Nat) {sl : List Nat} (hΦ : ⟨id, sl⟩ ∈ Φ) (hsl : ∀ t, t ≠ dst → t ≠ b → sl.contains t = false) (hab : dst ≠ b) (hg : o.guard = none)
    (ho : o.op = .call { callee := .builtin .append, args := #[s, x], argTypes := #[t, t] }) (hd : o.dst = some dst) (hdn' : Nat.blt dst cx.N = true) (T : ElemTy cx.P t ee size bytes z) (hs : e.ev s = .own id) (hm : (id, Ob.row ee size els) ∈ σ)
    (hx : e.ev x = .d (.sl els2)) (hsz : ∀ y ∈ els2, y.length = size) (hb : (els.length + els2.length) * bytes ≤ 140737488355328) (hn : els.length + els2.length ≤ 9223372036854775807) (hσ : Obs.upd id (.row ee size (els ++ els2)) (Obs.kill id σ) = σ') (hfx : cx.free id = true := by rfl) :
    GE cx ops Φ o e σ [(b, (e b).kill id), (dst, .own id)] σ' := fun e0 h1 h2 h3 => by
  have e1 : e0.ev s = e.ev s := ev_same fun t hxt => h1 t (looks_op (by rw [ho, ← hxt]; simp [Op.operands, Call.operands]))
  have e2 : e0.ev x = e.ev x := ev_same fun t hxt => h1 t (looks_op (by rw [ho, ← hxt]; simp [Op.operands, Call.operands]))
  have hp := pair_eq (id := id) (e0 := e0) (e := e) hab (h2 b (by simp)) fun t ht1 ht2 => h3 _ hΦ t (hsl t ht1 ht2)
  exact AOps.append hg ho hd hdn' T (e1.trans hs) hm (e2.trans hx) hsz hb hn (.nil ⟨hp, hσ⟩) hfx
theorem triple_eq {id a b c : Nat} {e0 e : Env} (hab : a ≠ b) (hac : a ≠ c) (hbc : b ≠ c) (hb : e0 b = e b) (hcc : e0 c = e c) (hc : ∀ t, t ≠ a → t ≠ b → t ≠ c → (e0 t).kill id = e0 t) : (e0.kill id).put (some a) (.own id) = Env.puts e0 [(c, (e c).kill id), (b, (e b).kill id), (a, .own id)] := by
  funext t
  show _ = (((e0.put (some c) ((e c).kill id)).put (some b) ((e b).kill id)).put (some a) (.own id)) t
  by_cases h1 : t = a
  · subst h1; rw [Env.put_same, Env.put_same]
  · rw [Env.put_other _ _ _ _ h1, Env.put_other _ _ _ _ h1]
    by_cases h2 : t = b
    · subst h2; rw [Env.put_same]; show (e0 t).kill id = _; rw [hb]
    · rw [Env.put_other _ _ _ _ h2]
      by_cases h3 : t = c
      · subst h3; rw [Env.put_same]; show (e0 t).kill id = _; rw [hcc]
      · rw [Env.put_other _ _ _ _ h3]; exact hc t h1 h2 h3
/-- An append to a row that two other slots hold. -/
theorem GE.append3 {s x : Operand} {t ee size bytes dst : Nat} {z : Value} {els els2 : List (List D)} {σ' : Obs} (id b c : Nat) {sl : List Nat} (hΦ : ⟨id, sl⟩ ∈ Φ) (hsl : ∀ t, t ≠ dst → t ≠ b → t ≠ c → sl.contains t = false) (hab : dst ≠ b) (hac : dst ≠ c) (hbc : b ≠ c) (hg : o.guard = none)
    (ho : o.op = .call { callee := .builtin .append, args := #[s, x], argTypes := #[t, t] }) (hd : o.dst = some dst) (hdn' : Nat.blt dst cx.N = true) (T : ElemTy cx.P t ee size bytes z) (hs : e.ev s = .own id) (hm : (id, Ob.row ee size els) ∈ σ)
    (hx : e.ev x = .d (.sl els2)) (hsz : ∀ y ∈ els2, y.length = size) (hb : (els.length + els2.length) * bytes ≤ 140737488355328) (hn : els.length + els2.length ≤ 9223372036854775807) (hσ : Obs.upd id (.row ee size (els ++ els2)) (Obs.kill id σ) = σ') (hfx : cx.free id = true := by rfl) :
    GE cx ops Φ o e σ [(c, (e c).kill id), (b, (e b).kill id), (dst, .own id)] σ' := fun e0 h1 h2 h3 => by
  have e1 : e0.ev s = e.ev s := ev_same fun t hxt => h1 t (looks_op (by rw [ho, ← hxt]; simp [Op.operands, Call.operands]))
  have e2 : e0.ev x = e.ev x := ev_same fun t hxt => h1 t (looks_op (by rw [ho, ← hxt]; simp [Op.operands, Call.operands]))
  have hp := triple_eq (id := id) (e0 := e0) (e := e) hab hac hbc (h2 b (by simp)) (h2 c (by simp)) fun t ht1 ht2 ht3 => h3 _ hΦ t (hsl t ht1 ht2 ht3)
  exact AOps.append hg ho hd hdn' T (e1.trans hs) hm (e2.trans hx) hsz hb hn (.nil ⟨hp, hσ⟩) hfx
end
/-- Data, stored into own cells. -/
theorem EOp.store {cx : Cx} {ops : Array Oper} {o : Oper} {e : Env} {σ : Obs} {t id off size : Nat} {x y : Operand} {d : D} {ss : List S} (ht : o.dst = none) (ho : o.op = .store t x y) (hs : ∀ w, (sizeOf t).run cx.P w = .ok size w) (hx : e.ev x = .ptr id off) (hm : (id, Ob.cells ss) ∈ σ) (hy : e.ev y = .d d) (h1 : d.one = true) (hl : d.parts.length = size)
    (hle : off + size ≤ ss.length) : EOp cx ops o e σ (Obs.upd id (.cells (ss.take off ++ d.parts.map S.d ++ ss.drop (off + size))) σ) := by
  intro F ρ a w e0 hr ha
  have hop : ∀ y ∈ o.op.operands.toList, RepS F ρ w (a.eval y) (e.ev y) := fun y hy => ev_rep fun t ht => ha t (looks_op (by rw [← ht]; exact hy))
  have r1 := hop x (by rw [ho]; simp [Op.operands])
  have r2 := hop y (by rw [ho]; simp [Op.operands])
  rw [hx] at r1
  rw [hy] at r2
  obtain ⟨h3, h4⟩ := parts_rep (repS_d r2) h1
  obtain ⟨g, ty, cs, hρ, hB, hF, hh, hcl, hcs⟩ := hr.obs.ok _ hm
  dsimp only at hρ
  have hxv := ptr_at r1 (g := g) (by rw [hρ]; rfl)
  have hsz : (a.eval y).cells.size = size := by have := h3.1; rw [Array.length_toList] at this; omega
  obtain ⟨w', h5, h6, h7⟩ := storeVar_run (P := cx.P) (off := off) hs hsz hh (by omega) h4
  unfold Oper.wp execOp
  simp only [ho, Instr.storeAt, hxv, Instr.sureAddr, Sem.run_bind, Sem.run_pure, Result.andThen_ok, h5]
  refine ⟨by rw [ht]; rfl, fun e2 hr2 => ⟨F, ρ, ?_⟩⟩
  refine hr2.write hρ hm hB hF h6 h7 (by simp; omega) (fun j hj hj' => by
    have hlen : (a.eval y).cells.toList.length = size := by rw [Array.length_toList]; exact hsz
    by_cases j1 : j < off
    · rw [List.getElem_append_left (by simp; omega), List.getElem_append_left (by simp; omega), List.getElem_append_left (by simp; omega), List.getElem_append_left (by simp; omega), List.getElem_take, List.getElem_take]
      exact hcs j (by omega) (by omega)
    · by_cases j2 : j < off + size
      · rw [List.getElem_append_left (by simp; omega), List.getElem_append_right (by simp; omega), List.getElem_append_left (by simp; omega), List.getElem_append_right (by simp; omega), List.getElem_map]
        have e1 : (List.take off cs).length = off := by simp; omega
        have e2 : (List.take off ss).length = off := by simp; omega
        simp only [e1, e2]
        exact ⟨h4 _ (List.getElem_mem _), .d (h3.2 _ _ _)⟩
      · rw [List.getElem_append_right (by simp; omega), List.getElem_append_right (by simp; omega), List.getElem_drop, List.getElem_drop]
        have e1 : (List.take off cs ++ (a.eval y).cells.toList).length = off + size := by simp; omega
        have e2 : (List.take off ss ++ d.parts.map S.d).length = off + size := by simp; omega
        simp only [e1, e2]
        exact hcs _ _ _)
end Go.Proofs.YtieccphckobhjaaGreatDoor


namespace Go.Proofs.YtieccphckobhjaaGreatDoor
open Go.RowKit
set_option linter.unusedVariables false

/-! Types. -/
namespace TyR3

end TyR3
open TyR3


open Go.Lib
/-- What the library's sort does to a row of numbers of the caller's. -/
theorem row_intsT {B : Nat} {F : Nat → Prop} {ρ : Nat → Value} {w : World} {id e : Nat} {xs : List Int} (h : ObOk B F ρ w id (.row e 1 (xs.map intD))) :
    (ρ id = .slice none 0 0 ∧ xs = []) ∨ ∃ g cap cur, ρ id = .slice (some ⟨g, 0, none⟩) xs.length cap ∧ B ≤ g ∧ w.heap[g]? = some (.cells cur e (0, 0)) ∧ xs.length ≤ cap ∧ cap ≤ maxLen ∧ cur.size = cap ∧ (∀ i, (hi : i < xs.length) → cur[i]? = some (.int .i64 xs[i])) ∧ ¬ F g := by
  obtain ⟨ys, h1, h2, h3, h4⟩ := h
  have hl : (xs.map intD).length = xs.length := List.length_map ..
  rw [hl] at h1
  have h1' : w.ownsRow B e 1 (ρ id) xs.length (flat ys xs.length 1) := h1
  rcases h1'.2 with ⟨h5, h6⟩ | ⟨g, cap, cur, h5, h6, h7, h8, h9, h10, h11⟩
  · exact .inl ⟨h5, List.eq_nil_of_length_eq_zero h6⟩
  · refine .inr ⟨g, cap, cur, h5, h6, h7, h8, h9, by rw [h10, Nat.mul_one], fun i hi => ?_, h4 g (by rw [h5]; rfl)⟩
    have hc := row_cell h1' h5 h7 hi (show 0 < 1 by omega)
    rw [cell_of_row w g (i * 1 + 0) cur e (0, 0) h7, Nat.mul_one, Nat.add_zero] at hc
    have h12 := (h3 i (by rw [hl]; exact hi) 0 (by simp [intD])).2
    simp only [List.getElem_map, intD, List.getElem_cons_zero] at h12
    rw [hc, rep_v h12]
theorem ints_rowT {B : Nat} {F : Nat → Prop} {ρ : Nat → Value} {w : World} {id e g cap : Nat} {cur : Array Value} {xs : List Int} (h5 : ρ id = .slice (some ⟨g, 0, none⟩) xs.length cap) (h6 : B ≤ g) (h7 : w.heap[g]? = some (.cells cur e (0, 0))) (h8 : xs.length ≤ cap) (h9 : cap ≤ maxLen) (h10 : cur.size = cap)
    (hc : ∀ i, (hi : i < xs.length) → cur[i]? = some (.int .i64 xs[i])) (hF : ¬ F g) : ObOk B F ρ w id (.row e 1 (xs.map intD)) := by
  have hl : (xs.map intD).length = xs.length := List.length_map ..
  refine ⟨fun i _ => .int .i64 (xs.getD i 0), ?_, fun i hi => by simp [intD], fun i hi j hj => ⟨rfl, ?_⟩, fun g' hg' => ?_⟩
  · rw [hl]
    refine ⟨flat_length _ _ _, .inr ⟨g, cap, cur, h5, h6, h7, h8, h9, by rw [h10, Nat.mul_one], ?_⟩⟩
    apply List.ext_getElem?
    intro p
    by_cases hp : p < xs.length
    · have := flatten_get (fun i _ => Value.int .i64 (xs.getD i 0)) 1 xs.length p 0 hp (by omega)
      rw [Nat.mul_one, Nat.add_zero] at this
      rw [this, Nat.mul_one, List.getElem?_take, if_pos hp, Array.getElem?_toList, hc p hp]
      simp [List.getD_eq_getElem?_getD, List.getElem?_eq_getElem hp]
    · rw [List.getElem?_eq_none (by rw [List.length_take]; omega)]
      exact (List.getElem?_eq_none (by have := flat_length (fun i _ => Value.int .i64 (xs.getD i 0)) xs.length 1; unfold flat at this; rw [this]; omega)).symm
  · rw [hl] at hi
    simp only [List.getElem_map, intD] at hj ⊢
    obtain rfl : j = 0 := by simpa using hj
    simp only [List.getElem_cons_zero, List.getD_eq_getElem?_getD, List.getElem?_eq_getElem hi, Option.getD_some]
    exact .v _
  · rw [h5] at hg'
    simp [blk] at hg'
    subst hg'
    exact hF
theorem repSL_oneI {F : Nat → Prop} {ρ : Nat → Value} {w : World} {vs : List Value} {id : Nat} (h : RepSL F ρ w vs [.own id]) : vs = [ρ id] := by
  obtain ⟨v, rfl⟩ : ∃ v, vs = [v] := by
    match vs, h.1 with
    | [v], _ => exact ⟨v, rfl⟩
  have h1 := h.2 0 (by simp) (by simp)
  simp only [List.getElem_cons_zero] at h1
  cases h1
  rfl
/-- The world behind such a call: the row's cells hold ys (and more, up to its old end). -/
theorem put_blockI {w : World} {g n e cap : Nat} {cur : Array Value} {os : Array Obj} {zs : List Int} (h : w.heap[g]? = some (.cells cur e (0, 0))) :
    (Sort.grow (Sort.putRow (Value.int .i64) (Sort.ahead w n) g 0 zs.toArray) os).heap[g]? = some (.cells (Sort.putCells (Value.int .i64) 0 zs.toArray cur) e (0, 0)) ∧
    (∀ k, k < w.heap.size → k ≠ g → (Sort.grow (Sort.putRow (Value.int .i64) (Sort.ahead w n) g 0 zs.toArray) os).heap[k]? = w.heap[k]?) := by
  have hg : g < w.heap.size := (Array.getElem?_eq_some_iff.1 h).1
  have hs : ∀ k, k < w.heap.size → (Sort.grow (Sort.putRow (Value.int .i64) (Sort.ahead w n) g 0 zs.toArray) os).heap[k]? = (Sort.putRow (Value.int .i64) (Sort.ahead w n) g 0 zs.toArray).heap[k]? := fun k hk => Sort.heap_grow_old _ _ (by rw [Sort.size_putRow]; exact hk)
  refine ⟨?_, fun k hk hne => ?_⟩
  · rw [hs g hg]
    show (w.heap.modify g _)[g]? = _
    rw [Array.getElem?_modify, if_pos rfl, h]
    rfl
  · rw [hs k hk]
    show (w.heap.modify g _)[k]? = _
    rw [Array.getElem?_modify, if_neg (Ne.symm hne)]
theorem put_cellsI (zs : List Int) (cur : Array Value) (hl : zs.length ≤ cur.size) (i : Nat) (hi : i < zs.length) : (Sort.putCells (Value.int .i64) 0 zs.toArray cur)[i]? = some (.int .i64 zs[i]) := by
  unfold Sort.putCells
  rw [Array.getElem?_mapIdx, Array.getElem?_eq_getElem (by omega), Option.map_some, if_pos ⟨Nat.zero_le _, by simpa using hi⟩]
  simp [hi]
theorem holds_ints {w : World} {g e cap : Nat} {cur : Array Value} {xs : List Int} (h7 : w.heap[g]? = some (.cells cur e (0, 0))) (hc : ∀ i, (hi : i < xs.length) → cur[i]? = some (.int .i64 xs[i])) : Sort.Holds (Value.int .i64) w g 0 xs.toArray := by
  intro j hj
  have hj' : j < xs.length := by simpa using hj
  rw [Nat.zero_add, cell_of_row w g j cur e (0, 0) h7, hc j hj']
  refine ⟨by simp [hj'], ?_⟩
  unfold World.frozen?
  rw [h7]
  simp
theorem c_sortInt (xs : List Int) (hn : xs.length < 4611686018427387904) (e : Nat) : RCall Tryz.prog 103 e 1 (xs.map intD) ((sortI xs).map intD) [] (.tup []) := by
  intro id
  refine ⟨.of Tryz.func103 (by kernel_rfl) rfl, fun F ρ B w vs hF hB hσ hv => ?_⟩
  obtain rfl := repSL_oneI hv
  have hsl : (sortI xs).length = xs.length := by unfold sortI; exact List.length_mergeSort _
  rcases row_intsT (hσ.ok _ (List.mem_singleton.2 rfl)) with ⟨h1, h2⟩ | ⟨g, cap, cur, h5, h6, h7, h8, h9, h10, h11, h12⟩
  · subst h2
    rw [h1]
    have h := Any.slices_Sort_int_none Tryz.l189 none 0 w
    change Calls Tryz.prog 103 #[.slice none 0 0] w _ at h
    refine h.mono fun e' w' ⟨he, hw⟩ => ?_
    subst hw
    refine ⟨_, F, ρ, he, .tup [] [] rfl (fun i h1 => by simp at h1), fun _ hb => hb, fun _ hb => .inl hb, hF, Kept.refl _ _, ?_, ?_, fun _ _ => rfl⟩
    · have : (sortI ([] : List Int)).map intD = ([] : List Int).map intD := by unfold sortI; rw [List.mergeSort_nil]
      rw [this]
      exact hσ
    intro p hp g hg
    have : p = (id, .row e 1 ((sortI ([] : List Int)).map intD)) := by simpa using hp
    subst this
    rw [h1] at hg
    simp [blk] at hg
  rw [h5]
  have hg : g < w.heap.size := (Array.getElem?_eq_some_iff.1 h7).1
  have h := Any.slices_Sort_int Tryz.l189 g 0 cap xs w (holds_ints (cap := cap) h7 h11) hg hn
  change Calls Tryz.prog 103 #[.slice (some ⟨g, 0, none⟩) xs.length cap] w _ at h
  refine h.mono fun e' w' ⟨he, n, os, hw⟩ => ?_
  obtain ⟨hb1, hb2⟩ := put_blockI (n := n) (os := os) (zs := sortI xs) (cap := cap) h7
  have hw2 : w' = Sort.grow (Sort.putRow (Value.int .i64) (Sort.ahead w n) g 0 (sortI xs).toArray) os := hw
  have hsz : w.heap.size ≤ w'.heap.size := by rw [hw2, Sort.size_grow, Sort.size_putRow]; exact Nat.le_add_right _ _
  have hob : ownB [(id, Ob.row e 1 (xs.map intD))] ρ g := ⟨_, List.mem_singleton.2 rfl, by rw [h5]; rfl⟩
  refine ⟨_, F, ρ, he, .tup [] [] rfl (fun i h1 => by simp at h1), fun _ hb => hb, fun _ hb => .inl hb, fun b hb => Nat.lt_of_lt_of_le (hF b hb) hsz, ⟨by rw [hw2]; rfl, by rw [hw2]; rfl, by rw [hw2]; rfl, hsz, fun k hk hne => ?_⟩, ?_, ?_, fun _ _ => rfl⟩
  · rw [hw2]
    exact hb2 k hk (fun he => hne (.inr (he ▸ hob)))
  · refine ⟨fun p hp => ?_, fun p hp q hq hne => ?_, fun p hp q hq _ => ?_⟩
    · have : p = (id, .row e 1 ((sortI xs).map intD)) := by simpa using hp
      subst this
      exact ints_rowT (by rw [hsl]; exact h5) h6 (by rw [hw2]; exact hb1) (by rw [hsl]; exact h8) h9 (by simp [Sort.putCells, h10]) (fun i hi => put_cellsI _ _ (by rw [hsl, h10]; exact h8) i hi) h12
    · have h1 : p = (id, .row e 1 ((sortI xs).map intD)) := by simpa using hp
      have h2 : q = (id, .row e 1 ((sortI xs).map intD)) := by simpa using hq
      rw [h1, h2] at hne
      exact absurd rfl hne
    have h1 : p = (id, .row e 1 ((sortI xs).map intD)) := by simpa using hp
    have h2 : q = (id, .row e 1 ((sortI xs).map intD)) := by simpa using hq
    rw [h1, h2]
  intro p hp g' hg'
  have : p = (id, .row e 1 ((sortI xs).map intD)) := by simpa using hp
  subst this
  exact .inr ⟨_, List.mem_singleton.2 rfl, hg'⟩


end Go.Proofs.YtieccphckobhjaaGreatDoor
