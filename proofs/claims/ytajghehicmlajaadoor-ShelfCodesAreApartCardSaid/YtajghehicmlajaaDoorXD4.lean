/- Walks and laws over abstract values, merged by tools/merge.py. No statement of the seat. -/
import Derived.Test.YtajghehicmlajaaDoorXD3

namespace Go.Proofs.YtajghehicmlajaaDoor
open Go.RowKit
set_option linter.unusedVariables false

/-! Types. -/
namespace TyJ5
theorem cv_5_3 : convB Tryd.prog 5 3 .i64 = true := by kernel_rfl
theorem st_9 : Tryd.prog.underlying 9 = some .string := by kernel_rfl
end TyJ5
open TyJ5


open Go.Lib
theorem take_true {α : Type} {p : α → Bool} {l : List α} {k : Nat} (hk : k < l.length) (h : ∀ c ∈ l.take k, p c = true) (h2 : p l[k] = true) : ∀ c ∈ l.take (k + 1), p c = true := fun c hc => by
  rw [List.take_add_one, List.getElem?_eq_getElem hk, Option.toList_some, List.mem_append, List.mem_singleton] at hc
  rcases hc with hc | hc
  · exact h c hc
  · rw [hc]; exact h2
theorem all_of {α : Type} {p : α → Bool} {l : List α} {k : Nat} (hk : l.length ≤ k) (h : ∀ c ∈ l.take k, p c = true) : l.all p = true := by
  rw [List.take_of_length_le hk] at h
  rw [List.all_eq_true]; exact h
theorem all_not {α : Type} {p : α → Bool} {l : List α} {k : Nat} (hk : k < l.length) (h : p l[k] = false) : l.all p = false := by
  cases ha : l.all p with
  | false => rfl
  | true => rw [List.all_eq_true.1 ha _ (List.getElem_mem hk)] at h; cases h
theorem body_r1 {l : List UInt8} (h1 : (l.length : Int) = 10) (h2 : ((at0 l 0).toNat : Int) = 84) : (l.drop 1).all (among false) = bodyB 1 l := by
  unfold bodyB
  rw [if_pos rfl, decide_eq_true (show l.length = 10 by omega), decide_eq_true (show at0 l 0 = 84 from UInt8.toNat_inj.1 (by show (at0 l 0).toNat = 84; omega)), Bool.true_and, Bool.true_and]
  rfl
theorem body_r1a {l : List UInt8} (h1 : ¬ (l.length : Int) = 10) : bodyB 1 l = false := by
  unfold bodyB
  rw [if_pos rfl, decide_eq_false (show ¬ l.length = 10 by omega), Bool.false_and, Bool.false_and]
theorem body_r1b {l : List UInt8} (h2 : ¬ ((at0 l 0).toNat : Int) = 84) : bodyB 1 l = false := by
  unfold bodyB
  rw [if_pos rfl, decide_eq_false (show ¬ at0 l 0 = 84 from fun e => h2 (by rw [e]; rfl)), Bool.and_false, Bool.false_and]
theorem among_at (b : Bool) (k : Nat) (h : k < (signsOf b).length) : among b (at0 (signsOf b) k) = true := by
  cases b with
  | false => have h2 := dig_at (v := k) (show k < 10 from h); show isDig (at0 digL k) = true; rw [h2.2]; exact h2.1
  | true => exact (sgn_at (v := k) (show k < 36 from h)).2
theorem chk_get (kind : Int) (l : List UInt8) : (chk kind l).toNat < (signsOf (two kind)).length ∧ at0 (signsOf (two kind)) (chk kind l).toNat = chkS kind l := by
  have h := chk_bound kind l
  by_cases h2 : kind = 2
  · have e : two kind = true := decide_eq_true h2
    rw [e]
    exact ⟨by show _ < 36; omega, rfl⟩
  · have e : two kind = false := decide_eq_false h2
    rw [e]
    have h3 := h.2.2 h2
    refine ⟨by show _ < 10; omega, (dig_at (v := (chk kind l).toNat) (by omega)).2⟩
theorem cut_one {S : List UInt8} {k : Nat} (h : k < S.length) : (S.drop k).take (k + 1 - k) = [at0 S k] := by
  rw [show k + 1 - k = 1 by omega, at0_eq h]
  rw [List.drop_eq_getElem_cons h]
  rfl
theorem start_z (f : Nat → Int) (a : Int) : a = a + sumTo f 0 := by rw [show sumTo f 0 = 0 from rfl, Int.add_zero]


set_option maxRecDepth 100000 in
set_option maxHeartbeats 1000000 in
theorem c_of (b : Bool) (l : List UInt8) (hl : l.length ≤ 9223372036854775807) : ACall Tryd.prog 34 [.v (.string (bStr l)), .v (.string (bStr (signsOf b)))] (.v (.bool (l.all (among b)))) := by
  refine acall_of (n := 18) (ds' := [.v (.bool (l.all (among b)))]) Tryd.func34 rfl (by kernel_rfl) rfl [4] rfl rfl ?_
  intro B w0 F0 fr
  refine AWP.seq ?_
  refine AWP.region ?_
  refine AOps.step rfl rfl rfl (AOp.assignD rfl rfl) ?_
  refine AOps.nil ?_
  refine AWP.seq ?_
  refine AWP.seq ?_
  refine AWP.region ?_
  refine AOps.step rfl rfl rfl (AOp.moveD rfl rfl) ?_
  refine AOps.step rfl rfl rfl (AOp.lenStr rfl st_9 rfl) ?_
  rw [bStr_size]
  refine AOps.step rfl rfl rfl (AOp.moveD rfl rfl) ?_
  refine AOps.nil ?_
  refine AWP.block ?_
  refine AWP.loop (G := Nat) (fun k => Env.of [(8, .d (.v (.int .i64 (k : Int)))), (7, .d (.v (.int .i64 (l.length : Int)))), (0, .d (.v (.string (bStr l)))), (1, .d (.v (.string (bStr (signsOf b)))))]) (fun k => []) (fun k => k ≤ l.length ∧ ∀ c ∈ l.take k, among b c = true) (fun k => l.length - k) 0 ⟨Nat.zero_le _, fun c h => by simp at h⟩ (Sub.less ⟨(SLe.of_eq rfl), SLe.refl _, SLe.refl _, SLe.refl _, trivial⟩ (fun _ h => h)) ?_
  intro k hk
  refine AWP.seq ?_
  refine AWP.region ?_
  refine AOps.step rfl rfl rfl (AOp.lss rfl rfl rfl) ?_
  refine AOps.nil ?_
  refine AWP.seq ?_
  refine AWP.cond rfl (fun h1 => ?_) (fun h1 => ?_)
  · replace h1 := of_decide_eq_true h1
    have hlt : k < l.length := by omega
    refine AWP.skip ?_
    refine AWP.seq ?_
    refine AWP.block ?_
    refine AWP.seq ?_
    refine AWP.region ?_
    refine AOps.step rfl rfl rfl (AOp.moveD rfl rfl) ?_
    refine AOps.step rfl rfl rfl (AOp.assignD rfl rfl) ?_
    refine AOps.nil ?_
    refine AWP.seq ?_
    refine AWP.region ?_
    refine AOps.step rfl rfl rfl (AOp.moveD rfl rfl) ?_
    refine AOps.step rfl rfl rfl (AOp.moveD rfl rfl) ?_
    refine AOps.step rfl rfl rfl (AOp.moveD rfl rfl) ?_
    refine AOps.step rfl rfl rfl (AOp.indexStr rfl st_9 rfl rfl k rfl (at0_s hlt)) ?_
    refine AOps.step rfl rfl rfl (AOp.call rfl (.cons (ArgOk.rfl' rfl) (.cons (ArgOk.rfl' rfl) .nil)) (c_idx (signsOf b) (at0 l k))) ?_
    refine AOps.step rfl rfl rfl (AOp.lss rfl rfl rfl) ?_
    refine AOps.nil ?_
    refine AWP.cond rfl (fun h2 => ?_) (fun h2 => ?_)
    · replace h2 := of_decide_eq_true h2
      rw [all_not hlt (by rw [← at0_eq hlt]; exact among_no h2)]
      refine AWP.seq ?_
      refine AWP.region ?_
      refine AOps.step rfl rfl rfl (AOp.assignD rfl rfl) ?_
      refine AOps.nil ?_
      refine AWP.ret ?_
      refine ⟨RetD.eq rfl ?_, trivial⟩
      all_goals (rfl)
    · replace h2 := of_decide_eq_false h2
      have HT := take_true hlt hk.2 (by rw [← at0_eq hlt]; exact among_yes h2)
      refine AWP.skip ?_
      refine AWP.region ?_
      refine AOps.step rfl rfl rfl (AOp.add64 rfl rfl rfl (by omega) (by omega)) ?_
      refine AOps.step rfl rfl rfl (AOp.moveD rfl rfl) ?_
      refine AOps.nil ?_
      refine ⟨k + 1, ⟨by omega, HT⟩, (by dsimp only; omega), Sub.less ⟨(SLe.of_eq rfl), SLe.refl _, SLe.refl _, SLe.refl _, trivial⟩ (fun _ h => h)⟩
  · replace h1 := of_decide_eq_false h1
    rw [all_of (by omega) hk.2]
    refine AWP.exit ?_
    refine AWP.seq ?_
    refine AWP.region ?_
    refine AOps.step rfl rfl rfl (AOp.assignD rfl rfl) ?_
    refine AOps.nil ?_
    refine AWP.ret ?_
    refine ⟨RetD.eq rfl ?_, trivial⟩
    all_goals (rfl)


theorem c_ofS (b : Bool) (l : List UInt8) (h : ¬ l.length = 0) : ACall Tryd.prog 34 [.v (.string (bStr (l.drop (l.length - 1)))), .v (.string (bStr (signsOf b)))] (.v (.bool (among b (cSign l)))) := by
  have h1 := c_of b (l.drop (l.length - 1)) (by rw [List.length_drop]; omega)
  have h2 : l.drop (l.length - 1) = [cSign l] := by
    rw [List.drop_eq_getElem_cons (by omega), List.drop_of_length_le (by omega)]
    unfold cSign
    rw [at0_eq (by omega)]
  rw [h2] at h1 ⊢
  rw [show [cSign l].all (among b) = among b (cSign l) by simp] at h1
  exact h1


set_option maxRecDepth 100000 in
set_option maxHeartbeats 1000000 in
theorem c_rBody (kind : Int) (l : List UInt8) (hl : l.length ≤ 9223372036854775807) : ACall Tryd.prog 31 [.v (.int .i64 kind), .v (.string (bStr l))] (.v (.bool (bodyB kind l))) := by
  refine acall_of (n := 37) (ds' := [.v (.bool (bodyB kind l))]) Tryd.func31 rfl (by kernel_rfl) rfl [4] rfl rfl ?_
  intro B w0 F0 fr
  refine AWP.seq ?_
  refine AWP.region ?_
  refine AOps.step rfl rfl rfl (AOp.assignD rfl rfl) ?_
  refine AOps.nil ?_
  refine AWP.seq ?_
  refine AWP.seq ?_
  refine AWP.region ?_
  refine AOps.step rfl rfl rfl (AOp.moveD rfl rfl) ?_
  refine AOps.nil ?_
  refine AWP.block ?_
  refine AWP.seq ?_
  refine AWP.region ?_
  refine AOps.step rfl rfl rfl (AOp.eql rfl rfl rfl) ?_
  refine AOps.step rfl rfl rfl (AOp.assignD rfl rfl) ?_
  refine AOps.nil ?_
  refine AWP.cond rfl (fun h1 => ?_) (fun h1 => ?_)
  · replace h1 := of_decide_eq_true h1
    subst h1
    refine AWP.seq ?_
    refine AWP.region ?_
    refine AOps.step rfl rfl rfl (AOp.moveD rfl rfl) ?_
    refine AOps.step rfl rfl rfl (AOp.lenStr rfl st_9 rfl) ?_
    rw [bStr_size]
    refine AOps.step rfl rfl rfl (AOp.eql rfl rfl rfl) ?_
    refine AOps.step rfl rfl rfl (AOp.moveD rfl rfl) ?_
    refine AOps.split 11 rfl (fun g2 => ?_) (fun g2 => ?_)
    · replace g2 := of_decide_eq_true g2
      have hl0 := g2
      refine AOps.step ⟨11, rfl, .inl ⟨_, rfl, rfl⟩⟩ rfl rfl (AOp.moveD rfl rfl) ?_
      refine AOps.step ⟨11, rfl, .inl ⟨_, rfl, rfl⟩⟩ rfl rfl (AOp.indexStr rfl st_9 rfl rfl 0 rfl (at0_s (by omega))) ?_
      refine AOps.step ⟨11, rfl, .inl ⟨_, rfl, rfl⟩⟩ rfl rfl (AOp.eql rfl rfl rfl) ?_
      refine AOps.step rfl rfl rfl (AOp.pickT rfl rfl rfl) ?_
      refine AOps.step rfl rfl rfl (AOp.moveD rfl rfl) ?_
      refine AOps.split 16 rfl (fun g3 => ?_) (fun g3 => ?_)
      · replace g3 := of_decide_eq_true g3
        rw [← body_r1 hl0 g3]
        refine AOps.step ⟨16, rfl, .inl ⟨_, rfl, rfl⟩⟩ rfl rfl (AOp.moveD rfl rfl) ?_
        refine AOps.step ⟨16, rfl, .inl ⟨_, rfl, rfl⟩⟩ rfl rfl (AOp.sliceFrom rfl Tryd.underlying9 rfl rfl 1 rfl (by omega)) ?_
        refine AOps.step ⟨16, rfl, .inl ⟨_, rfl, rfl⟩⟩ rfl rfl (AOp.call rfl (.cons (ArgOk.rfl' rfl) (.cons (ArgOk.rfl' rfl) .nil)) (c_of false (l.drop 1) (by rw [List.length_drop]; omega))) ?_
        refine AOps.step rfl rfl rfl (AOp.pickT rfl rfl rfl) ?_
        refine AOps.step rfl rfl rfl (AOp.assignD rfl rfl) ?_
        refine AOps.nil ?_
        refine AWP.ret ?_
        refine ⟨RetD.eq rfl ?_, trivial⟩
        all_goals (rfl)
      · replace g3 := of_decide_eq_false g3
        rw [body_r1b g3]
        refine AOps.pass ⟨16, rfl, .inl ⟨_, rfl, rfl⟩⟩ rfl rfl ?_
        refine AOps.pass ⟨16, rfl, .inl ⟨_, rfl, rfl⟩⟩ rfl rfl ?_
        refine AOps.pass ⟨16, rfl, .inl ⟨_, rfl, rfl⟩⟩ rfl rfl ?_
        refine AOps.step rfl rfl rfl (AOp.pickF rfl rfl rfl) ?_
        refine AOps.step rfl rfl rfl (AOp.assignD rfl rfl) ?_
        refine AOps.nil ?_
        refine AWP.ret ?_
        refine ⟨RetD.eq rfl ?_, trivial⟩
        all_goals (rfl)
    · replace g2 := of_decide_eq_false g2
      have HR := body_r1a g2
      rw [HR]
      refine AOps.pass ⟨11, rfl, .inl ⟨_, rfl, rfl⟩⟩ rfl rfl ?_
      refine AOps.pass ⟨11, rfl, .inl ⟨_, rfl, rfl⟩⟩ rfl rfl ?_
      refine AOps.pass ⟨11, rfl, .inl ⟨_, rfl, rfl⟩⟩ rfl rfl ?_
      refine AOps.step rfl rfl rfl (AOp.pickF rfl rfl rfl) ?_
      refine AOps.step rfl rfl rfl (AOp.moveD rfl rfl) ?_
      refine AOps.pass ⟨16, rfl, .inl ⟨_, rfl, rfl⟩⟩ rfl rfl ?_
      refine AOps.pass ⟨16, rfl, .inl ⟨_, rfl, rfl⟩⟩ rfl rfl ?_
      refine AOps.pass ⟨16, rfl, .inl ⟨_, rfl, rfl⟩⟩ rfl rfl ?_
      refine AOps.step rfl rfl rfl (AOp.pickF rfl rfl rfl) ?_
      refine AOps.step rfl rfl rfl (AOp.assignD rfl rfl) ?_
      refine AOps.nil ?_
      refine AWP.ret ?_
      refine ⟨RetD.eq rfl ?_, trivial⟩
      all_goals (rfl)
  · replace h1 := of_decide_eq_false h1
    refine AWP.seq ?_
    refine AWP.region ?_
    refine AOps.step rfl rfl rfl (AOp.eql rfl rfl rfl) ?_
    refine AOps.step rfl rfl rfl (AOp.assignD rfl rfl) ?_
    refine AOps.nil ?_
    refine AWP.cond rfl (fun h4 => ?_) (fun h4 => ?_)
    · replace h4 := of_decide_eq_true h4
      subst h4
      rw [← body_p2]
      refine AWP.seq ?_
      refine AWP.region ?_
      refine AOps.step rfl rfl rfl (AOp.moveD rfl rfl) ?_
      refine AOps.step rfl rfl rfl (AOp.lenStr rfl st_9 rfl) ?_
      rw [bStr_size]
      refine AOps.step rfl rfl rfl (AOp.eql rfl rfl rfl) ?_
      refine AOps.step rfl rfl rfl (AOp.moveD rfl rfl) ?_
      refine AOps.split 26 rfl (fun g5 => ?_) (fun g5 => ?_)
      · replace g5 := of_decide_eq_true g5
        rw [decide_eq_true g5, Bool.true_and]
        refine AOps.step ⟨26, rfl, .inl ⟨_, rfl, rfl⟩⟩ rfl rfl (AOp.moveD rfl rfl) ?_
        refine AOps.step ⟨26, rfl, .inl ⟨_, rfl, rfl⟩⟩ rfl rfl (AOp.call rfl (.cons (ArgOk.rfl' rfl) (.cons (ArgOk.rfl' rfl) .nil)) (c_of true l hl)) ?_
        refine AOps.step rfl rfl rfl (AOp.pickT rfl rfl rfl) ?_
        refine AOps.step rfl rfl rfl (AOp.assignD rfl rfl) ?_
        refine AOps.nil ?_
        refine AWP.ret ?_
        refine ⟨RetD.eq rfl ?_, trivial⟩
        all_goals (rfl)
      · replace g5 := of_decide_eq_false g5
        rw [decide_eq_false g5, Bool.false_and]
        refine AOps.pass ⟨26, rfl, .inl ⟨_, rfl, rfl⟩⟩ rfl rfl ?_
        refine AOps.pass ⟨26, rfl, .inl ⟨_, rfl, rfl⟩⟩ rfl rfl ?_
        refine AOps.step rfl rfl rfl (AOp.pickF rfl rfl rfl) ?_
        refine AOps.step rfl rfl rfl (AOp.assignD rfl rfl) ?_
        refine AOps.nil ?_
        refine AWP.ret ?_
        refine ⟨RetD.eq rfl ?_, trivial⟩
        all_goals (rfl)
    · replace h4 := of_decide_eq_false h4
      rw [← body_p3 h1 h4]
      refine AWP.skip ?_
      refine AWP.seq ?_
      refine AWP.region ?_
      refine AOps.step rfl rfl rfl (AOp.moveD rfl rfl) ?_
      refine AOps.step rfl rfl rfl (AOp.lenStr rfl st_9 rfl) ?_
      rw [bStr_size]
      refine AOps.step rfl rfl rfl (AOp.eql rfl rfl rfl) ?_
      refine AOps.step rfl rfl rfl (AOp.moveD rfl rfl) ?_
      refine AOps.split 33 rfl (fun g6 => ?_) (fun g6 => ?_)
      · replace g6 := of_decide_eq_true g6
        rw [decide_eq_true g6, Bool.true_and]
        refine AOps.step ⟨33, rfl, .inl ⟨_, rfl, rfl⟩⟩ rfl rfl (AOp.moveD rfl rfl) ?_
        refine AOps.step ⟨33, rfl, .inl ⟨_, rfl, rfl⟩⟩ rfl rfl (AOp.call rfl (.cons (ArgOk.rfl' rfl) (.cons (ArgOk.rfl' rfl) .nil)) (c_of false l hl)) ?_
        refine AOps.step rfl rfl rfl (AOp.pickT rfl rfl rfl) ?_
        refine AOps.step rfl rfl rfl (AOp.assignD rfl rfl) ?_
        refine AOps.nil ?_
        refine AWP.ret ?_
        refine ⟨RetD.eq rfl ?_, trivial⟩
        all_goals (rfl)
      · replace g6 := of_decide_eq_false g6
        rw [decide_eq_false g6, Bool.false_and]
        refine AOps.pass ⟨33, rfl, .inl ⟨_, rfl, rfl⟩⟩ rfl rfl ?_
        refine AOps.pass ⟨33, rfl, .inl ⟨_, rfl, rfl⟩⟩ rfl rfl ?_
        refine AOps.step rfl rfl rfl (AOp.pickF rfl rfl rfl) ?_
        refine AOps.step rfl rfl rfl (AOp.assignD rfl rfl) ?_
        refine AOps.nil ?_
        refine AWP.ret ?_
        refine ⟨RetD.eq rfl ?_, trivial⟩
        all_goals (rfl)

set_option maxRecDepth 100000 in
set_option maxHeartbeats 1000000 in
theorem c_fits (kind : Int) (l : List UInt8) (c : UInt8) (hb : bodyB kind l = true) (hc : among (two kind) c = true) : ACall Tryd.prog 33 [.v (.int .i64 kind), .v (.string (bStr l)), .v (.int .u8 (c.toNat : Int))] (.v (.bool (fitsB kind l c))) := by
  refine acall_of (n := 86) (ds' := [.v (.bool (fitsB kind l c))]) Tryd.func33 rfl (by kernel_rfl) rfl [6] rfl rfl ?_
  intro B w0 F0 fr
  have hv0 := sg_pos.2 (among_sgn hc)
  have hv1 := (sg_all c).2.2.1
  refine AWP.seq ?_
  refine AWP.region ?_
  refine AOps.step rfl rfl rfl (AOp.assignD rfl rfl) ?_
  refine AOps.nil ?_
  refine AWP.seq ?_
  refine AWP.region ?_
  refine AOps.step rfl rfl rfl (AOp.moveD rfl rfl) ?_
  refine AOps.step rfl rfl rfl (AOp.call rfl (.cons (ArgOk.rfl' rfl) (.cons (ArgOk.rfl' rfl) .nil)) (c_idx sgnL c)) ?_
  refine AOps.step rfl rfl rfl (AOp.assignD rfl rfl) ?_
  refine AOps.nil ?_
  refine AWP.seq ?_
  refine AWP.seq ?_
  refine AWP.region ?_
  refine AOps.step rfl rfl rfl (AOp.moveD rfl rfl) ?_
  refine AOps.nil ?_
  refine AWP.block ?_
  refine AWP.seq ?_
  refine AWP.region ?_
  refine AOps.step rfl rfl rfl (AOp.eql rfl rfl rfl) ?_
  refine AOps.step rfl rfl rfl (AOp.assignD rfl rfl) ?_
  refine AOps.nil ?_
  refine AWP.cond rfl (fun h1 => ?_) (fun h1 => ?_)
  · replace h1 := of_decide_eq_true h1
    subst h1
    have hlen := (body1 hb).1
    rw [← fits_w hc hb]
    refine AWP.seq ?_
    refine AWP.region ?_
    refine AOps.step rfl rfl rfl (AOp.moveD rfl rfl) ?_
    refine AOps.step rfl rfl rfl (AOp.add64 rfl rfl rfl (by omega) (by omega)) ?_
    refine AOps.step rfl rfl rfl (AOp.assignD rfl rfl) ?_
    refine AOps.nil ?_
    refine AWP.seq ?_
    refine AWP.seq ?_
    refine AWP.region ?_
    refine AOps.step rfl rfl rfl (AOp.assignD rfl rfl) ?_
    refine AOps.nil ?_
    refine AWP.block ?_
    refine AWP.loop (G := Nat) (fun k => Env.of [(9, .d (.v (.int .i64 ((k : Int) + 1)))), (8, .d (.v (.int .i64 (1 + indexByte sgnL c + sumTo (wTerm l) k)))), (1, .d (.v (.string (bStr l))))]) (fun k => []) (fun k => k ≤ 9) (fun k => 9 - k) 0 (Nat.zero_le _) (Sub.less ⟨(SLe.of_eq rfl), (SLe.of_eq (by rw [← start_z]; rfl)), SLe.refl _, trivial⟩ (fun _ h => h)) ?_
    intro k hk
    refine AWP.seq ?_
    refine AWP.seq ?_
    refine AWP.region ?_
    refine AOps.step rfl rfl rfl (AOp.moveD rfl rfl) ?_
    refine AOps.step rfl rfl rfl (AOp.moveD rfl rfl) ?_
    refine AOps.step rfl rfl rfl (AOp.lenStr rfl st_9 rfl) ?_
    rw [bStr_size]
    refine AOps.step rfl rfl rfl (AOp.lss rfl rfl rfl) ?_
    refine AOps.nil ?_
    refine AWP.cond rfl (fun h2 => ?_) (fun h2 => ?_)
    · replace h2 := of_decide_eq_true h2
      have hlt : k < 9 := by omega
      have hdg := (body1 hb).2.2 (k + 1) (by omega) (by omega)
      have hwt := wTerm_bound hb hlt
      have hws := wSum_bound hb k (by omega)
      unfold wTerm at hwt
      refine AWP.skip ?_
      refine AWP.seq ?_
      refine AWP.block ?_
      refine AWP.region ?_
      refine AOps.step rfl rfl rfl (AOp.moveD rfl rfl) ?_
      refine AOps.step rfl rfl rfl (AOp.moveD rfl rfl) ?_
      refine AOps.step rfl rfl rfl (AOp.moveD rfl rfl) ?_
      refine AOps.step rfl rfl rfl (AOp.moveD rfl rfl) ?_
      refine AOps.step rfl rfl rfl (AOp.indexStr rfl st_9 rfl rfl (k + 1) rfl (at0_s (by omega))) ?_
      refine AOps.step rfl rfl rfl (AOp.sub rfl rfl rfl) ?_
      refine AOps.step rfl rfl rfl (AOp.convInt rfl cv_5_3 rfl) ?_
      rw [dv_wrap hdg]
      refine AOps.step rfl rfl rfl (AOp.mul64 rfl rfl rfl (by omega) (by omega)) ?_
      refine AOps.step rfl rfl rfl (AOp.add64 rfl rfl rfl (by omega) (by omega)) ?_
      refine AOps.step rfl rfl rfl (AOp.assignD rfl rfl) ?_
      refine AOps.nil ?_
      refine AWP.region ?_
      refine AOps.step rfl rfl rfl (AOp.moveD rfl rfl) ?_
      refine AOps.step rfl rfl rfl (AOp.add64 rfl rfl rfl (by omega) (by omega)) ?_
      refine AOps.step rfl rfl rfl (AOp.assignD rfl rfl) ?_
      refine AOps.nil ?_
      refine ⟨k + 1, (by omega), (by dsimp only; omega), Sub.less ⟨(SLe.of_eq rfl), (SLe.of_eq (by rw [w_next]; rfl)), SLe.refl _, trivial⟩ (fun _ h => h)⟩
    · replace h2 := of_decide_eq_false h2
      obtain rfl : k = 9 := by omega
      have hws := wSum_bound hb 9 (by omega)
      refine AWP.exit ?_
      refine AWP.seq ?_
      refine AWP.region ?_
      refine AOps.step rfl rfl rfl (AOp.moveD rfl rfl) ?_
      refine AOps.step rfl rfl rfl (AOp.rem64 rfl rfl rfl (by omega) (by omega)) ?_
      refine AOps.step rfl rfl rfl (AOp.eql rfl rfl rfl) ?_
      refine AOps.step rfl rfl rfl (AOp.assignD rfl rfl) ?_
      refine AOps.nil ?_
      refine AWP.ret ?_
      refine ⟨RetD.eq rfl ?_, trivial⟩
      all_goals (rfl)
  · replace h1 := of_decide_eq_false h1
    have k1 : ¬ kind = 1 := h1
    refine AWP.seq ?_
    refine AWP.region ?_
    refine AOps.step rfl rfl rfl (AOp.eql rfl rfl rfl) ?_
    refine AOps.step rfl rfl rfl (AOp.assignD rfl rfl) ?_
    refine AOps.nil ?_
    refine AWP.cond rfl (fun h3 => ?_) (fun h3 => ?_)
    · replace h3 := of_decide_eq_true h3
      subst h3
      have hlen := (body2 hb).1
      rw [← fits_r hc]
      refine AWP.seq ?_
      refine AWP.region ?_
      refine AOps.step rfl rfl rfl (AOp.assignD rfl rfl) ?_
      refine AOps.nil ?_
      refine AWP.seq ?_
      refine AWP.seq ?_
      refine AWP.region ?_
      refine AOps.step rfl rfl rfl (AOp.moveD rfl rfl) ?_
      refine AOps.step rfl rfl rfl (AOp.lenStr rfl st_9 rfl) ?_
      rw [bStr_size]
      refine AOps.step rfl rfl rfl (AOp.moveD rfl rfl) ?_
      refine AOps.nil ?_
      refine AWP.block ?_
      refine AWP.loop (G := Nat) (fun k => Env.of [(43, .d (.v (.int .i64 (k : Int)))), (42, .d (.v (.int .i64 (l.length : Int)))), (10, .d (.v (.int .i64 (qTo l k)))), (1, .d (.v (.string (bStr l)))), (7, .d (.v (.int .i64 (indexByte sgnL c))))]) (fun k => []) (fun k => k ≤ l.length) (fun k => l.length - k) 0 (Nat.zero_le _) (Sub.less ⟨(SLe.of_eq rfl), SLe.refl _, (SLe.of_eq rfl), SLe.refl _, SLe.refl _, trivial⟩ (fun _ h => h)) ?_
      intro k hk
      refine AWP.seq ?_
      refine AWP.region ?_
      refine AOps.step rfl rfl rfl (AOp.lss rfl rfl rfl) ?_
      refine AOps.nil ?_
      refine AWP.seq ?_
      refine AWP.cond rfl (fun h4 => ?_) (fun h4 => ?_)
      · replace h4 := of_decide_eq_true h4
        have hlt : k < l.length := by omega
        have hqb := qTo_bound l k
        have hsg := sg_pos.2 ((body2 hb).2 (at0 l k) (by rw [at0_eq hlt]; exact List.getElem_mem _))
        have hsu := (sg_all (at0 l k)).2.2.1
        refine AWP.skip ?_
        refine AWP.seq ?_
        refine AWP.block ?_
        refine AWP.seq ?_
        refine AWP.region ?_
        refine AOps.step rfl rfl rfl (AOp.moveD rfl rfl) ?_
        refine AOps.step rfl rfl rfl (AOp.assignD rfl rfl) ?_
        refine AOps.nil ?_
        refine AWP.seq ?_
        refine AWP.region ?_
        refine AOps.step rfl rfl rfl (AOp.moveD rfl rfl) ?_
        refine AOps.step rfl rfl rfl (AOp.moveD rfl rfl) ?_
        refine AOps.step rfl rfl rfl (AOp.moveD rfl rfl) ?_
        refine AOps.step rfl rfl rfl (AOp.indexStr rfl st_9 rfl rfl k rfl (at0_s hlt)) ?_
        refine AOps.step rfl rfl rfl (AOp.call rfl (.cons (ArgOk.rfl' rfl) (.cons (ArgOk.rfl' rfl) .nil)) (c_idx sgnL (at0 l k))) ?_
        refine AOps.step rfl rfl rfl (AOp.add64 rfl rfl rfl (by omega) (by omega)) ?_
        refine AOps.step rfl rfl rfl (AOp.rem64 rfl rfl rfl (by omega) (by omega)) ?_
        refine AOps.step rfl rfl rfl (AOp.assignD rfl rfl) ?_
        refine AOps.nil ?_
        refine AWP.seq ?_
        refine AWP.seq ?_
        refine AWP.region ?_
        refine AOps.step rfl rfl rfl (AOp.moveD rfl rfl) ?_
        refine AOps.step rfl rfl rfl (AOp.eql rfl rfl rfl) ?_
        refine AOps.nil ?_
        refine AWP.cond rfl (fun h5 => ?_) (fun h5 => ?_)
        · replace h5 := of_decide_eq_true h5
          have HN := q_next0 hlt h5
          refine AWP.region ?_
          refine AOps.step rfl rfl rfl (AOp.assignD rfl rfl) ?_
          refine AOps.nil ?_
          refine AWP.region ?_
          refine AOps.step rfl rfl rfl (AOp.moveD rfl rfl) ?_
          refine AOps.step rfl rfl rfl (AOp.mul64 rfl rfl rfl (by omega) (by omega)) ?_
          refine AOps.step rfl rfl rfl (AOp.rem64 rfl rfl rfl (by omega) (by omega)) ?_
          refine AOps.step rfl rfl rfl (AOp.assignD rfl rfl) ?_
          refine AOps.nil ?_
          refine AWP.region ?_
          refine AOps.step rfl rfl rfl (AOp.add64 rfl rfl rfl (by omega) (by omega)) ?_
          refine AOps.step rfl rfl rfl (AOp.moveD rfl rfl) ?_
          refine AOps.nil ?_
          refine ⟨k + 1, (by omega), (by dsimp only; omega), Sub.less ⟨(SLe.of_eq rfl), SLe.refl _, (SLe.of_eq (by rw [HN]; rfl)), SLe.refl _, SLe.refl _, trivial⟩ (fun _ h => h)⟩
        · replace h5 := of_decide_eq_false h5
          have HN := q_next1 hlt h5
          refine AWP.skip ?_
          refine AWP.region ?_
          refine AOps.step rfl rfl rfl (AOp.moveD rfl rfl) ?_
          refine AOps.step rfl rfl rfl (AOp.mul64 rfl rfl rfl (by omega) (by omega)) ?_
          refine AOps.step rfl rfl rfl (AOp.rem64 rfl rfl rfl (by omega) (by omega)) ?_
          refine AOps.step rfl rfl rfl (AOp.assignD rfl rfl) ?_
          refine AOps.nil ?_
          refine AWP.region ?_
          refine AOps.step rfl rfl rfl (AOp.add64 rfl rfl rfl (by omega) (by omega)) ?_
          refine AOps.step rfl rfl rfl (AOp.moveD rfl rfl) ?_
          refine AOps.nil ?_
          refine ⟨k + 1, (by omega), (by dsimp only; omega), Sub.less ⟨(SLe.of_eq rfl), SLe.refl _, (SLe.of_eq (by rw [HN]; rfl)), SLe.refl _, SLe.refl _, trivial⟩ (fun _ h => h)⟩
      · replace h4 := of_decide_eq_false h4
        obtain rfl : k = 10 := by omega
        have hqb := qTo_bound l 10
        refine AWP.exit ?_
        refine AWP.seq ?_
        refine AWP.region ?_
        refine AOps.step rfl rfl rfl (AOp.moveD rfl rfl) ?_
        refine AOps.step rfl rfl rfl (AOp.moveD rfl rfl) ?_
        refine AOps.step rfl rfl rfl (AOp.add64 rfl rfl rfl (by omega) (by omega)) ?_
        refine AOps.step rfl rfl rfl (AOp.rem64 rfl rfl rfl (by omega) (by omega)) ?_
        refine AOps.step rfl rfl rfl (AOp.eql rfl rfl rfl) ?_
        refine AOps.step rfl rfl rfl (AOp.assignD rfl rfl) ?_
        refine AOps.nil ?_
        refine AWP.ret ?_
        refine ⟨RetD.eq rfl ?_, trivial⟩
        all_goals (rfl)
    · replace h3 := of_decide_eq_false h3
      have k2 : ¬ kind = 2 := h3
      have hlen := (body3 k1 k2 hb).1
      rw [← fits_e k1 k2 hc hb]
      refine AWP.skip ?_
      refine AWP.seq ?_
      refine AWP.region ?_
      refine AOps.step rfl rfl rfl (AOp.moveD rfl rfl) ?_
      refine AOps.step rfl rfl rfl (AOp.assignD rfl rfl) ?_
      refine AOps.nil ?_
      refine AWP.seq ?_
      refine AWP.seq ?_
      refine AWP.region ?_
      refine AOps.step rfl rfl rfl (AOp.moveD rfl rfl) ?_
      refine AOps.step rfl rfl rfl (AOp.lenStr rfl st_9 rfl) ?_
      rw [bStr_size]
      refine AOps.step rfl rfl rfl (AOp.moveD rfl rfl) ?_
      refine AOps.nil ?_
      refine AWP.block ?_
      refine AWP.loop (G := Nat) (fun k => Env.of [(67, .d (.v (.int .i64 (k : Int)))), (66, .d (.v (.int .i64 (l.length : Int)))), (12, .d (.v (.int .i64 (indexByte sgnL c + sumTo (eTerm l) k)))), (1, .d (.v (.string (bStr l))))]) (fun k => []) (fun k => k ≤ l.length) (fun k => l.length - k) 0 (Nat.zero_le _) (Sub.less ⟨(SLe.of_eq rfl), SLe.refl _, (SLe.of_eq (by rw [← start_z]; rfl)), SLe.refl _, trivial⟩ (fun _ h => h)) ?_
      intro k hk
      refine AWP.seq ?_
      refine AWP.region ?_
      refine AOps.step rfl rfl rfl (AOp.lss rfl rfl rfl) ?_
      refine AOps.nil ?_
      refine AWP.seq ?_
      refine AWP.cond rfl (fun h6 => ?_) (fun h6 => ?_)
      · replace h6 := of_decide_eq_true h6
        have hlt : k < l.length := by omega
        have hdg := (body3 k1 k2 hb).2 (at0 l k) (by rw [at0_eq hlt]; exact List.getElem_mem _)
        have het : 0 ≤ dv (at0 l k) * (1 + (k : Int) % 2 * 2) ∧ dv (at0 l k) * (1 + (k : Int) % 2 * 2) ≤ 27 := by rw [Int.mul_comm (dv _)]; exact eTerm_bound k1 k2 hb (i := k) (by omega)
        have hes := eSum_bound k1 k2 hb k (by omega)
        refine AWP.skip ?_
        refine AWP.seq ?_
        refine AWP.block ?_
        refine AWP.seq ?_
        refine AWP.region ?_
        refine AOps.step rfl rfl rfl (AOp.moveD rfl rfl) ?_
        refine AOps.step rfl rfl rfl (AOp.assignD rfl rfl) ?_
        refine AOps.nil ?_
        refine AWP.region ?_
        refine AOps.step rfl rfl rfl (AOp.moveD rfl rfl) ?_
        refine AOps.step rfl rfl rfl (AOp.moveD rfl rfl) ?_
        refine AOps.step rfl rfl rfl (AOp.moveD rfl rfl) ?_
        refine AOps.step rfl rfl rfl (AOp.indexStr rfl st_9 rfl rfl k rfl (at0_s hlt)) ?_
        refine AOps.step rfl rfl rfl (AOp.sub rfl rfl rfl) ?_
        refine AOps.step rfl rfl rfl (AOp.convInt rfl cv_5_3 rfl) ?_
        rw [dv_wrap hdg]
        refine AOps.step rfl rfl rfl (AOp.moveD rfl rfl) ?_
        refine AOps.step rfl rfl rfl (AOp.rem64 rfl rfl rfl (by omega) (by omega)) ?_
        refine AOps.step rfl rfl rfl (AOp.mul64 rfl rfl rfl (by omega) (by omega)) ?_
        refine AOps.step rfl rfl rfl (AOp.add64 rfl rfl rfl (by omega) (by omega)) ?_
        refine AOps.step rfl rfl rfl (AOp.mul64 rfl rfl rfl (by omega) (by omega)) ?_
        refine AOps.step rfl rfl rfl (AOp.add64 rfl rfl rfl (by omega) (by omega)) ?_
        refine AOps.step rfl rfl rfl (AOp.assignD rfl rfl) ?_
        refine AOps.nil ?_
        refine AWP.region ?_
        refine AOps.step rfl rfl rfl (AOp.add64 rfl rfl rfl (by omega) (by omega)) ?_
        refine AOps.step rfl rfl rfl (AOp.moveD rfl rfl) ?_
        refine AOps.nil ?_
        refine ⟨k + 1, (by omega), (by dsimp only; omega), Sub.less ⟨(SLe.of_eq rfl), SLe.refl _, (SLe.of_eq (by rw [e_next2]; rfl)), SLe.refl _, trivial⟩ (fun _ h => h)⟩
      · replace h6 := of_decide_eq_false h6
        obtain rfl : k = 12 := by omega
        have hes := eSum_bound k1 k2 hb 12 (by omega)
        refine AWP.exit ?_
        refine AWP.seq ?_
        refine AWP.region ?_
        refine AOps.step rfl rfl rfl (AOp.moveD rfl rfl) ?_
        refine AOps.step rfl rfl rfl (AOp.rem64 rfl rfl rfl (by omega) (by omega)) ?_
        refine AOps.step rfl rfl rfl (AOp.eql rfl rfl rfl) ?_
        refine AOps.step rfl rfl rfl (AOp.assignD rfl rfl) ?_
        refine AOps.nil ?_
        refine AWP.ret ?_
        refine ⟨RetD.eq rfl ?_, trivial⟩
        all_goals (rfl)

set_option maxRecDepth 100000 in
set_option maxHeartbeats 1000000 in
theorem c_rDigit (kind : Int) (l : List UInt8) (hl : l.length ≤ 9223372036854775807) : ACall Tryd.prog 13 [.v (.int .i64 kind), .v (.string (bStr l))] (.tup [.v (.string (bStr (digS kind l))), .v (.int .i64 (digF kind l))]) := by
  refine acall_of (n := 34) (ds' := [.v (.string (bStr (digS kind l))), .v (.int .i64 (digF kind l))]) Tryd.func13 rfl (by kernel_rfl) rfl [4, 5] rfl rfl ?_
  intro B w0 F0 fr
  refine AWP.seq ?_
  refine AWP.region ?_
  refine AOps.step rfl rfl rfl (AOp.assignD rfl rfl) ?_
  refine AOps.step rfl rfl rfl (AOp.assignD rfl rfl) ?_
  refine AOps.nil ?_
  refine AWP.seq ?_
  refine AWP.seq ?_
  refine AWP.region ?_
  refine AOps.step rfl rfl rfl (AOp.moveD rfl rfl) ?_
  refine AOps.step rfl rfl rfl (AOp.call rfl (.cons (ArgOk.rfl' rfl) .nil) (c_rKind kind)) ?_
  refine AOps.step rfl rfl rfl (AOp.not rfl rfl) ?_
  refine AOps.nil ?_
  refine AWP.cond rfl (fun h1 => ?_) (fun h1 => ?_)
  · replace h1 := bnot_t h1
    obtain ⟨E1, E2⟩ := dig_1 l h1
    rw [E1, E2]
    refine AWP.seq ?_
    refine AWP.region ?_
    refine AOps.step rfl rfl rfl (AOp.assignD rfl rfl) ?_
    refine AOps.step rfl rfl rfl (AOp.assignD rfl rfl) ?_
    refine AOps.nil ?_
    refine AWP.ret ?_
    refine ⟨RetD.eq rfl ?_, RetD.eq rfl ?_, trivial⟩
    all_goals (rfl)
  · replace h1 := bnot_f h1
    have hk0 := h1
    refine AWP.skip ?_
    refine AWP.seq ?_
    refine AWP.seq ?_
    refine AWP.region ?_
    refine AOps.step rfl rfl rfl (AOp.moveD rfl rfl) ?_
    refine AOps.step rfl rfl rfl (AOp.moveD rfl rfl) ?_
    refine AOps.step rfl rfl rfl (AOp.call rfl (.cons (ArgOk.rfl' rfl) (.cons (ArgOk.rfl' rfl) .nil)) (c_rBody kind l hl)) ?_
    refine AOps.step rfl rfl rfl (AOp.not rfl rfl) ?_
    refine AOps.nil ?_
    refine AWP.cond rfl (fun h2 => ?_) (fun h2 => ?_)
    · replace h2 := bnot_t h2
      obtain ⟨E1, E2⟩ := dig_2 hk0 h2
      rw [E1, E2]
      refine AWP.seq ?_
      refine AWP.region ?_
      refine AOps.step rfl rfl rfl (AOp.assignD rfl rfl) ?_
      refine AOps.step rfl rfl rfl (AOp.assignD rfl rfl) ?_
      refine AOps.nil ?_
      refine AWP.ret ?_
      refine ⟨RetD.eq rfl ?_, RetD.eq rfl ?_, trivial⟩
      all_goals (rfl)
    · replace h2 := bnot_f h2
      have hb := h2
      obtain ⟨E1, E2⟩ := dig_3 hk0 hb
      rw [E1, E2]
      have hsl : (signsOf (two kind)).length ≤ 36 := by cases two kind <;> decide
      have hcg := chk_get kind l
      refine AWP.skip ?_
      refine AWP.seq ?_
      refine AWP.region ?_
      refine AOps.step rfl rfl rfl (AOp.moveD rfl rfl) ?_
      refine AOps.step rfl rfl rfl (AOp.call rfl (.cons (ArgOk.rfl' rfl) .nil) (c_checks kind)) ?_
      refine AOps.step rfl rfl rfl (AOp.assignD rfl rfl) ?_
      refine AOps.nil ?_
      refine AWP.seq ?_
      refine AWP.seq ?_
      refine AWP.region ?_
      refine AOps.step rfl rfl rfl (AOp.moveD rfl rfl) ?_
      refine AOps.step rfl rfl rfl (AOp.lenStr rfl st_9 rfl) ?_
      rw [bStr_size]
      refine AOps.step rfl rfl rfl (AOp.moveD rfl rfl) ?_
      refine AOps.nil ?_
      refine AWP.block ?_
      refine AWP.loop (G := Nat) (fun k => Env.of [(19, .d (.v (.int .i64 (k : Int)))), (18, .d (.v (.int .i64 ((signsOf (two kind)).length : Int)))), (6, .d (.v (.string (bStr (signsOf (two kind)))))), (0, .d (.v (.int .i64 kind))), (1, .d (.v (.string (bStr l))))]) (fun k => []) (fun k => k ≤ (signsOf (two kind)).length ∧ ∀ j, j < k → at0 (signsOf (two kind)) j ≠ chkS kind l) (fun k => (signsOf (two kind)).length - k) 0 ⟨Nat.zero_le _, fun j hj => by omega⟩ (Sub.less ⟨(SLe.of_eq rfl), SLe.refl _, SLe.refl _, SLe.refl _, SLe.refl _, trivial⟩ (fun _ h => h)) ?_
      intro k hk
      refine AWP.seq ?_
      refine AWP.region ?_
      refine AOps.step rfl rfl rfl (AOp.lss rfl rfl rfl) ?_
      refine AOps.nil ?_
      refine AWP.seq ?_
      refine AWP.cond rfl (fun h3 => ?_) (fun h3 => ?_)
      · replace h3 := of_decide_eq_true h3
        have hlt : k < (signsOf (two kind)).length := by omega
        refine AWP.skip ?_
        refine AWP.seq ?_
        refine AWP.block ?_
        refine AWP.seq ?_
        refine AWP.region ?_
        refine AOps.step rfl rfl rfl (AOp.moveD rfl rfl) ?_
        refine AOps.step rfl rfl rfl (AOp.assignD rfl rfl) ?_
        refine AOps.nil ?_
        refine AWP.seq ?_
        refine AWP.region ?_
        refine AOps.step rfl rfl rfl (AOp.moveD rfl rfl) ?_
        refine AOps.step rfl rfl rfl (AOp.moveD rfl rfl) ?_
        refine AOps.step rfl rfl rfl (AOp.moveD rfl rfl) ?_
        refine AOps.step rfl rfl rfl (AOp.moveD rfl rfl) ?_
        refine AOps.step rfl rfl rfl (AOp.indexStr rfl st_9 rfl rfl k rfl (at0_s hlt)) ?_
        refine AOps.step rfl rfl rfl (AOp.call rfl (.cons (ArgOk.rfl' rfl) (.cons (ArgOk.rfl' rfl) (.cons (ArgOk.rfl' rfl) .nil))) (c_fits kind l (at0 (signsOf (two kind)) k) hb (among_at _ k hlt))) ?_
        refine AOps.nil ?_
        refine AWP.cond rfl (fun h4 => ?_) (fun h4 => ?_)
        · skip
          have HE : at0 (signsOf (two kind)) k = chkS kind l := of_decide_eq_true h4
          rw [← HE]
          refine AWP.seq ?_
          refine AWP.region ?_
          refine AOps.step rfl rfl rfl (AOp.moveD rfl rfl) ?_
          refine AOps.step rfl rfl rfl (AOp.moveD rfl rfl) ?_
          refine AOps.step rfl rfl rfl (AOp.moveD rfl rfl) ?_
          refine AOps.step rfl rfl rfl (AOp.add64 rfl rfl rfl (by omega) (by omega)) ?_
          refine AOps.step rfl rfl rfl (AOp.sliceMid rfl Tryd.underlying9 rfl rfl rfl k (k + 1) rfl rfl (by omega) (by omega)) ?_
          rw [cut_one hlt]
          refine AOps.step rfl rfl rfl (AOp.assignD rfl rfl) ?_
          refine AOps.step rfl rfl rfl (AOp.assignD rfl rfl) ?_
          refine AOps.nil ?_
          refine AWP.ret ?_
          refine ⟨RetD.eq rfl ?_, RetD.eq rfl ?_, trivial⟩
          all_goals (rfl)
        · skip
          have HN : ∀ j, j < k + 1 → at0 (signsOf (two kind)) j ≠ chkS kind l := fun j hj => by
            rcases Nat.lt_or_ge j k with hj2 | hj2
            · exact hk.2 j hj2
            · obtain rfl : j = k := by omega
              exact of_decide_eq_false h4
          refine AWP.skip ?_
          refine AWP.region ?_
          refine AOps.step rfl rfl rfl (AOp.add64 rfl rfl rfl (by omega) (by omega)) ?_
          refine AOps.step rfl rfl rfl (AOp.moveD rfl rfl) ?_
          refine AOps.nil ?_
          refine ⟨k + 1, ⟨by omega, HN⟩, (by dsimp only; omega), Sub.less ⟨(SLe.of_eq rfl), SLe.refl _, SLe.refl _, SLe.refl _, SLe.refl _, trivial⟩ (fun _ h => h)⟩
      · replace h3 := of_decide_eq_false h3
        exact absurd hcg.2 (hk.2 _ (by omega))

set_option maxRecDepth 100000 in
set_option maxHeartbeats 1000000 in
theorem c_rCode (kind : Int) (l : List UInt8) (hl : l.length ≤ 9223372036854775807) : ACall Tryd.prog 14 [.v (.int .i64 kind), .v (.string (bStr l))] (.v (.int .i64 (codeF kind l))) := by
  refine acall_of (n := 40) (ds' := [.v (.int .i64 (codeF kind l))]) Tryd.func14 rfl (by kernel_rfl) rfl [4] rfl rfl ?_
  intro B w0 F0 fr
  refine AWP.seq ?_
  refine AWP.region ?_
  refine AOps.step rfl rfl rfl (AOp.assignD rfl rfl) ?_
  refine AOps.nil ?_
  refine AWP.seq ?_
  refine AWP.seq ?_
  refine AWP.region ?_
  refine AOps.step rfl rfl rfl (AOp.moveD rfl rfl) ?_
  refine AOps.step rfl rfl rfl (AOp.call rfl (.cons (ArgOk.rfl' rfl) .nil) (c_rKind kind)) ?_
  refine AOps.step rfl rfl rfl (AOp.not rfl rfl) ?_
  refine AOps.nil ?_
  refine AWP.cond rfl (fun h1 => ?_) (fun h1 => ?_)
  · replace h1 := bnot_t h1
    have HR := codeF_k l h1
    refine AWP.seq ?_
    refine AWP.region ?_
    refine AOps.step rfl rfl rfl (AOp.assignD rfl rfl) ?_
    refine AOps.nil ?_
    refine AWP.ret ?_
    refine ⟨RetD.eq rfl ?_, trivial⟩
    all_goals (rw [HR])
  · replace h1 := bnot_f h1
    have hk := h1
    refine AWP.skip ?_
    refine AWP.seq ?_
    refine AWP.region ?_
    refine AOps.step rfl rfl rfl (AOp.moveD rfl rfl) ?_
    refine AOps.step rfl rfl rfl (AOp.lenStr rfl st_9 rfl) ?_
    rw [bStr_size]
    refine AOps.step rfl rfl rfl (AOp.sub64 rfl rfl rfl (by omega) (by omega)) ?_
    refine AOps.step rfl rfl rfl (AOp.assignD rfl rfl) ?_
    refine AOps.nil ?_
    refine AWP.seq ?_
    refine AWP.seq ?_
    refine AWP.draw (by kernel_rfl) (by kernel_rfl) ?_
    refine DRun.step rfl rfl rfl (AOp.moveD rfl rfl) ?_
    refine DRun.step rfl rfl rfl (AOp.lss rfl rfl rfl) ?_
    refine DRun.step rfl rfl rfl (AOp.moveD rfl rfl) ?_
    refine DRun.split 14 rfl (fun g2 => ?_) (fun g2 => ?_)
    · replace g2 := of_decide_eq_true g2
      have HR := codeF_0 (l := l) hk (by omega)
      refine DRun.pass ⟨14, rfl, .inl ⟨_, rfl, rfl⟩⟩ rfl rfl ?_
      refine DRun.pass ⟨14, rfl, .inl ⟨_, rfl, rfl⟩⟩ rfl rfl ?_
      refine DRun.pass ⟨14, rfl, .inl ⟨_, rfl, rfl⟩⟩ rfl rfl ?_
      refine DRun.pass ⟨14, rfl, .inl ⟨_, rfl, rfl⟩⟩ rfl rfl ?_
      refine DRun.pass ⟨14, rfl, .inl ⟨_, rfl, rfl⟩⟩ rfl rfl ?_
      refine DRun.pass ⟨14, rfl, .inl ⟨_, rfl, rfl⟩⟩ rfl rfl ?_
      refine DRun.step rfl rfl rfl (AOp.pickT rfl rfl rfl) ?_
      refine DRun.step rfl rfl rfl (AOp.moveD rfl rfl) ?_
      refine DRun.pass ⟨22, rfl, .inl ⟨_, rfl, rfl⟩⟩ rfl rfl ?_
      refine DRun.pass ⟨22, rfl, .inl ⟨_, rfl, rfl⟩⟩ rfl rfl ?_
      refine DRun.pass ⟨22, rfl, .inl ⟨_, rfl, rfl⟩⟩ rfl rfl ?_
      refine DRun.pass ⟨22, rfl, .inl ⟨_, rfl, rfl⟩⟩ rfl rfl ?_
      refine DRun.pass ⟨22, rfl, .inl ⟨_, rfl, rfl⟩⟩ rfl rfl ?_
      refine DRun.pass ⟨22, rfl, .inl ⟨_, rfl, rfl⟩⟩ rfl rfl ?_
      refine DRun.pass ⟨22, rfl, .inl ⟨_, rfl, rfl⟩⟩ rfl rfl ?_
      refine DRun.step rfl rfl rfl (AOp.pickT rfl rfl rfl) ?_
      refine DRun.nil ?_
      refine AWP.cond rfl (fun _ => ?_) (fun h => nomatch h)
      refine AWP.seq ?_
      refine AWP.region ?_
      refine AOps.step rfl rfl rfl (AOp.assignD rfl rfl) ?_
      refine AOps.nil ?_
      refine AWP.ret ?_
      refine ⟨RetD.eq rfl ?_, trivial⟩
      all_goals (rw [HR])
    · replace g2 := of_decide_eq_false g2
      have h0 : ¬ l.length = 0 := by omega
      refine DRun.step ⟨14, rfl, .inl ⟨_, rfl, rfl⟩⟩ rfl rfl (AOp.moveD rfl rfl) ?_
      refine DRun.step ⟨14, rfl, .inl ⟨_, rfl, rfl⟩⟩ rfl rfl (AOp.moveD rfl rfl) ?_
      refine DRun.step ⟨14, rfl, .inl ⟨_, rfl, rfl⟩⟩ rfl rfl (AOp.moveD rfl rfl) ?_
      refine DRun.step ⟨14, rfl, .inl ⟨_, rfl, rfl⟩⟩ rfl rfl (AOp.sliceTo rfl Tryd.underlying9 rfl rfl (l.length - 1) (by omega) (by omega)) ?_
      refine DRun.step ⟨14, rfl, .inl ⟨_, rfl, rfl⟩⟩ rfl rfl (AOp.call rfl (.cons (ArgOk.rfl' rfl) (.cons (ArgOk.rfl' rfl) .nil)) (c_rBody kind (cBody l) (by unfold cBody; rw [List.length_take]; omega))) ?_
      refine DRun.step ⟨14, rfl, .inl ⟨_, rfl, rfl⟩⟩ rfl rfl (AOp.not rfl rfl) ?_
      refine DRun.step rfl rfl rfl (AOp.pickF rfl rfl rfl) ?_
      refine DRun.step rfl rfl rfl (AOp.moveD rfl rfl) ?_
      refine DRun.split 22 rfl (fun g3 => ?_) (fun g3 => ?_)
      · replace g3 := bnot_t g3
        have HR := codeF_b hk g3
        refine DRun.pass ⟨22, rfl, .inl ⟨_, rfl, rfl⟩⟩ rfl rfl ?_
        refine DRun.pass ⟨22, rfl, .inl ⟨_, rfl, rfl⟩⟩ rfl rfl ?_
        refine DRun.pass ⟨22, rfl, .inl ⟨_, rfl, rfl⟩⟩ rfl rfl ?_
        refine DRun.pass ⟨22, rfl, .inl ⟨_, rfl, rfl⟩⟩ rfl rfl ?_
        refine DRun.pass ⟨22, rfl, .inl ⟨_, rfl, rfl⟩⟩ rfl rfl ?_
        refine DRun.pass ⟨22, rfl, .inl ⟨_, rfl, rfl⟩⟩ rfl rfl ?_
        refine DRun.pass ⟨22, rfl, .inl ⟨_, rfl, rfl⟩⟩ rfl rfl ?_
        refine DRun.step rfl rfl rfl (AOp.pickT rfl rfl rfl) ?_
        refine DRun.nil ?_
        refine AWP.cond rfl (fun _ => ?_) (fun h => nomatch h)
        refine AWP.seq ?_
        refine AWP.region ?_
        refine AOps.step rfl rfl rfl (AOp.assignD rfl rfl) ?_
        refine AOps.nil ?_
        refine AWP.ret ?_
        refine ⟨RetD.eq rfl ?_, trivial⟩
        all_goals (rw [HR])
      · replace g3 := bnot_f g3
        have hb := g3
        refine DRun.step ⟨22, rfl, .inl ⟨_, rfl, rfl⟩⟩ rfl rfl (AOp.moveD rfl rfl) ?_
        refine DRun.step ⟨22, rfl, .inl ⟨_, rfl, rfl⟩⟩ rfl rfl (AOp.moveD rfl rfl) ?_
        refine DRun.step ⟨22, rfl, .inl ⟨_, rfl, rfl⟩⟩ rfl rfl (AOp.sliceFrom rfl Tryd.underlying9 rfl rfl (l.length - 1) (by omega) (by omega)) ?_
        refine DRun.step ⟨22, rfl, .inl ⟨_, rfl, rfl⟩⟩ rfl rfl (AOp.moveD rfl rfl) ?_
        refine DRun.step ⟨22, rfl, .inl ⟨_, rfl, rfl⟩⟩ rfl rfl (AOp.call rfl (.cons (ArgOk.rfl' rfl) .nil) (c_checks kind)) ?_
        refine DRun.step ⟨22, rfl, .inl ⟨_, rfl, rfl⟩⟩ rfl rfl (AOp.call rfl (.cons (ArgOk.rfl' rfl) (.cons (ArgOk.rfl' rfl) .nil)) (c_ofS (two kind) l h0)) ?_
        refine DRun.step ⟨22, rfl, .inl ⟨_, rfl, rfl⟩⟩ rfl rfl (AOp.not rfl rfl) ?_
        refine DRun.step rfl rfl rfl (AOp.pickF rfl rfl rfl) ?_
        refine DRun.nil ?_
        refine AWP.cond rfl (fun h4 => ?_) (fun h4 => ?_)
        · replace h4 := bnot_t h4
          have HR := codeF_s hk h4
          refine AWP.seq ?_
          refine AWP.region ?_
          refine AOps.step rfl rfl rfl (AOp.assignD rfl rfl) ?_
          refine AOps.nil ?_
          refine AWP.ret ?_
          refine ⟨RetD.eq rfl ?_, trivial⟩
          all_goals (rw [HR])
        · replace h4 := bnot_f h4
          have hs := h4
          have HF := codeF_f hk h0 hb hs
          refine AWP.skip ?_
          refine AWP.seq ?_
          refine AWP.seq ?_
          refine AWP.draw (by kernel_rfl) (by kernel_rfl) ?_
          refine DRun.step rfl rfl rfl (AOp.moveD rfl rfl) ?_
          refine DRun.step rfl rfl rfl (AOp.moveD rfl rfl) ?_
          refine DRun.step rfl rfl rfl (AOp.moveD rfl rfl) ?_
          refine DRun.step rfl rfl rfl (AOp.sliceTo rfl Tryd.underlying9 rfl rfl (l.length - 1) (by omega) (by omega)) ?_
          refine DRun.step rfl rfl rfl (AOp.moveD rfl rfl) ?_
          refine DRun.step rfl rfl rfl (AOp.moveD rfl rfl) ?_
          refine DRun.step rfl rfl rfl (AOp.indexStr rfl st_9 rfl rfl (l.length - 1) (by omega) (at0_s (by omega))) ?_
          refine DRun.step rfl rfl rfl (AOp.call rfl (.cons (ArgOk.rfl' rfl) (.cons (ArgOk.rfl' rfl) (.cons (ArgOk.rfl' rfl) .nil))) (c_fits kind (cBody l) (cSign l) hb hs)) ?_
          refine DRun.step rfl rfl rfl (AOp.not rfl rfl) ?_
          refine DRun.nil ?_
          refine AWP.cond rfl (fun h5 => ?_) (fun h5 => ?_)
          · replace h5 := bnot_t h5
            have HR := HF.trans (if_pos h5)
            refine AWP.seq ?_
            refine AWP.region ?_
            refine AOps.step rfl rfl rfl (AOp.assignD rfl rfl) ?_
            refine AOps.nil ?_
            refine AWP.ret ?_
            refine ⟨RetD.eq rfl ?_, trivial⟩
            all_goals (rw [HR])
          · replace h5 := bnot_f h5
            have HR := HF.trans (if_neg (by rw [h5]; decide))
            refine AWP.skip ?_
            refine AWP.seq ?_
            refine AWP.region ?_
            refine AOps.step rfl rfl rfl (AOp.assignD rfl rfl) ?_
            refine AOps.nil ?_
            refine AWP.ret ?_
            refine ⟨RetD.eq rfl ?_, trivial⟩
            all_goals (rw [HR])

end Go.Proofs.YtajghehicmlajaaDoor


namespace Go.Proofs.YtajghehicmlajaaDoor
open Go.RowKit
set_option linter.unusedVariables false

/-! Types. -/
namespace TyJ6
theorem et_28 : ElemTy Tryd.prog 28 9 1 16 (.string ⟨#[]⟩) := ⟨by kernel_rfl, by kernel_rfl, by kernel_rfl, by decide⟩
theorem et_36 : ElemTy Tryd.prog 36 5 1 1 (.int .u8 0) := ⟨by kernel_rfl, by kernel_rfl, by kernel_rfl, by decide⟩
theorem sc_28 : Scal Tryd.prog 28 := .of (by kernel_rfl)
theorem sc_3 : Scal Tryd.prog 3 := .of (by kernel_rfl)
theorem sc_5 : Scal Tryd.prog 5 := .of (by kernel_rfl)
theorem sc_9 : Scal Tryd.prog 9 := .of (by kernel_rfl)
theorem st_9 : Tryd.prog.underlying 9 = some .string := by kernel_rfl
theorem sz_28 : ∀ w, (sizeOf 28).run Tryd.prog w = .ok 1 w := SizeT.of (by kernel_rfl)
theorem sz_5 : ∀ w, (sizeOf 5).run Tryd.prog w = .ok 1 w := SizeT.of (by kernel_rfl)
theorem u8_5 : U8T Tryd.prog 5 := ⟨by kernel_rfl⟩
theorem zt_28 : (Tryd.prog.info? 28).bind (·.zero) = some (.slice none 0 0) := by kernel_rfl
end TyJ6
open TyJ6


open Go.Lib
theorem at_lst {α : Type} {l : List α} {f : α → List D} {k : Nat} (h : k < l.length) : (l.map f)[k]? = some (f l[k]) := by simp [h]
theorem row_cell2 {c id e size : Nat} {o : Ob} {els els' : List (List D)} {τ : Obs} (h : els = els') : ∀ p ∈ [(id, Ob.row e size els'), (c, o)], p ∈ (id, Ob.row e size els) :: (c, o) :: τ := fun p hp => by
  subst h
  rcases List.mem_cons.1 hp with rfl | hp
  · exact .head _
  · rw [List.mem_singleton] at hp; subst hp; exact .tail _ (.head _)
def addN (kind : Int) (l : List UInt8) (E : List (List UInt8)) (s : List UInt8) : List (List UInt8) := E ++ [s].filter (okN kind l)
theorem addN_t {kind : Int} {l : List UInt8} {E : List (List UInt8)} {s : List UInt8} (h1 : s ≠ l) (h2 : codeF kind s = 0) : addN kind l E s = E ++ [s] := by
  unfold addN
  rw [List.filter_cons_of_pos (by unfold okN; rw [decide_eq_true h1, decide_eq_true h2]; rfl)]; rfl
theorem addN_f1 {kind : Int} {l : List UInt8} {E : List (List UInt8)} {s : List UInt8} (h1 : ¬ s ≠ l) : addN kind l E s = E := by
  unfold addN
  rw [List.filter_cons_of_neg (by unfold okN; rw [decide_eq_false h1]; simp)]; simp
theorem addN_f2 {kind : Int} {l : List UInt8} {E : List (List UInt8)} {s : List UInt8} (h2 : ¬ codeF kind s = 0) : addN kind l E s = E := by
  unfold addN
  rw [List.filter_cons_of_neg (by unfold okN; rw [decide_eq_false h2]; simp)]; simp
def outP (kind : Int) (l : List UInt8) (i : Nat) : List (List UInt8) := (toP l i).filter (okN kind l)
def outPK (kind : Int) (l : List UInt8) (i k : Nat) : List (List UInt8) := (toP l i ++ (setsL l i).take k).filter (okN kind l)
def outR (kind : Int) (l : List UInt8) (i : Nat) : List (List UInt8) := (toR l i).filter (okN kind l)
def outRK (kind : Int) (l : List UInt8) (i k : Nat) : List (List UInt8) := (toR l i ++ (setsL l i).take k).filter (okN kind l)
theorem outP_len (kind : Int) (l : List UInt8) (i : Nat) : (outP kind l i).length ≤ 37 * i := Nat.le_trans (List.length_filter_le _ _) (toP_len l i)
theorem outR_len (kind : Int) (l : List UInt8) (i : Nat) : (outR kind l i).length ≤ 37 * i := Nat.le_trans (List.length_filter_le _ _) (toR_len l i)
theorem outPK_len (kind : Int) (l : List UInt8) (i k : Nat) : (outPK kind l i k).length ≤ 37 * i + 36 := by
  refine Nat.le_trans (List.length_filter_le _ _) ?_
  have := toP_len l i
  rw [List.length_append, List.length_take, sets_len]; omega
theorem outRK_len (kind : Int) (l : List UInt8) (i k : Nat) : (outRK kind l i k).length ≤ 37 * i + 36 := by
  refine Nat.le_trans (List.length_filter_le _ _) ?_
  have := toR_len l i
  rw [List.length_append, List.length_take, sets_len]; omega
theorem outPK_0 (kind : Int) (l : List UInt8) (i : Nat) : outPK kind l i 0 = outP kind l i := by unfold outPK outP; rw [List.take_zero, List.append_nil]
theorem outRK_0 (kind : Int) (l : List UInt8) (i : Nat) : outRK kind l i 0 = outR kind l i := by unfold outRK outR; rw [List.take_zero, List.append_nil]
theorem sets_at {l : List UInt8} {i k : Nat} (hk : k < 36) : (setsL l i)[k]'(by rw [sets_len]; exact hk) = l.set i (at0 sgnL k) := by
  unfold setsL
  rw [List.getElem_map, at0_eq (show k < sgnL.length from hk)]
theorem outPK_next (kind : Int) {l : List UInt8} (i : Nat) {k : Nat} (hk : k < 36) : addN kind l (outPK kind l i k) (l.set i (at0 sgnL k)) = outPK kind l i (k + 1) := by
  unfold addN outPK
  rw [List.take_add_one, List.getElem?_eq_getElem (by rw [sets_len]; exact hk), sets_at hk, ← List.append_assoc, Option.toList_some]
  exact (List.filter_append (toP l i ++ List.take k (setsL l i)) [l.set i (at0 sgnL k)]).symm
theorem outRK_next (kind : Int) {l : List UInt8} (i : Nat) {k : Nat} (hk : k < 36) : addN kind l (outRK kind l i k) (l.set i (at0 sgnL k)) = outRK kind l i (k + 1) := by
  unfold addN outRK
  rw [List.take_add_one, List.getElem?_eq_getElem (by rw [sets_len]; exact hk), sets_at hk, ← List.append_assoc, Option.toList_some]
  exact (List.filter_append (toR l i ++ List.take k (setsL l i)) [l.set i (at0 sgnL k)]).symm
theorem toP_next (l : List UInt8) (i : Nat) : toP l (i + 1) = toP l i ++ setsL l i ++ tailP l i := by
  unfold toP
  rw [List.range_succ, List.flatMap_append, List.flatMap_singleton, List.append_assoc]
theorem toR_next (l : List UInt8) (i : Nat) : toR l (i + 1) = toR l i ++ setsL l i ++ tailR l i := by
  unfold toR
  rw [List.range_succ, List.flatMap_append, List.flatMap_singleton, List.append_assoc]
theorem outP_T (kind : Int) (l : List UInt8) {i : Nat} (h : 0 < i) : addN kind l (outPK kind l i 36) (swapL l (i - 1)) = outP kind l (i + 1) := by
  unfold addN outPK outP
  rw [toP_next, List.take_of_length_le (by rw [sets_len]; omega), List.filter_append _ (tailP l i)]
  unfold tailP
  rw [if_pos h]
theorem outP_F (kind : Int) (l : List UInt8) {i : Nat} (h : ¬ 0 < i) : outPK kind l i 36 = outP kind l (i + 1) := by
  unfold outPK outP
  rw [toP_next, List.take_of_length_le (by rw [sets_len]; omega)]
  unfold tailP
  rw [if_neg h, List.append_nil]
theorem outR_T (kind : Int) (l : List UInt8) {i : Nat} (h : i + 1 < l.length) : addN kind l (outRK kind l i 36) (swapL l i) = outR kind l (i + 1) := by
  unfold addN outRK outR
  rw [toR_next, List.take_of_length_le (by rw [sets_len]; omega), List.filter_append _ (tailR l i)]
  unfold tailR
  rw [if_pos h]
theorem outR_F (kind : Int) (l : List UInt8) {i : Nat} (h : ¬ i + 1 < l.length) : outRK kind l i 36 = outR kind l (i + 1) := by
  unfold outRK outR
  rw [toR_next, List.take_of_length_le (by rw [sets_len]; omega)]
  unfold tailR
  rw [if_neg h, List.append_nil]
def nearF (kind : Int) (l : List UInt8) : Int := if codeF kind l = 0 ∨ codeF kind l = 16 then 0 else codeF kind l
def nearS (kind : Int) (l : List UInt8) : List (List UInt8) := if codeF kind l = 0 ∨ codeF kind l = 16 then nearL kind l else []
theorem near_bad {kind : Int} {l : List UInt8} (h1 : codeF kind l ≠ 0) (h2 : codeF kind l ≠ 16) : nearF kind l = codeF kind l ∧ nearS kind l = [] := by
  have h : ¬ (codeF kind l = 0 ∨ codeF kind l = 16) := fun e => e.elim h1 h2
  exact ⟨if_neg h, if_neg h⟩
theorem near_ok {kind : Int} {l : List UInt8} (h : codeF kind l = 0 ∨ codeF kind l = 16) : nearF kind l = 0 ∧ nearS kind l = nearL kind l := ⟨if_pos h, if_pos h⟩
theorem swap_p {l : List UInt8} {i : Nat} (h : 0 < i) : (l.set i (at0 l (i - 1))).set (i - 1) (at0 l i) = swapL l (i - 1) := by
  unfold swapL
  rw [show i - 1 + 1 = i by omega, List.set_comm _ _ (by omega)]
theorem set_cut {l : List UInt8} {i : Nat} {c : UInt8} (h : i < l.length) : l.take i ++ [c] ++ l.drop (i + 1) = l.set i c := by
  rw [List.set_eq_take_append_cons_drop, if_pos h, List.append_assoc]; rfl
theorem swap_cut {l : List UInt8} {i : Nat} (h : i + 1 < l.length) : l.take i ++ [at0 l (i + 1)] ++ [at0 l i] ++ l.drop (i + 2) = swapL l i := by
  unfold swapL
  have h2 : l.set i (at0 l (i + 1)) = l.take i ++ [at0 l (i + 1)] ++ l.drop (i + 1) := (set_cut (by omega)).symm
  have e1 : (l.take i ++ [at0 l (i + 1)]).length = i + 1 := by rw [List.length_append, List.length_take]; simp; omega
  rw [List.set_eq_take_append_cons_drop, if_pos (by rw [List.length_set]; exact h), h2, List.take_left' e1, List.append_assoc]
  congr 1
  rw [show (l.take i ++ [at0 l (i + 1)] ++ l.drop (i + 1)).drop (i + 1 + 1) = ((l.take i ++ [at0 l (i + 1)] ++ l.drop (i + 1)).drop (i + 1)).drop 1 by rw [List.drop_drop], List.drop_left' e1, List.drop_drop]
  rfl


set_option maxRecDepth 100000 in
set_option maxHeartbeats 1000000 in
theorem c_take (kind : Int) (l s : List UInt8) (E : List (List UInt8)) (hE : E.length ≤ 100000) (hs : s.length ≤ 9223372036854775807) : XCall Tryd.prog 25 [.d (.sl (s.map u8D)), .d (.fp [.v (.string (bStr l))]), .d (.fp [.v (.int .i64 kind)]), .ptr 101 0] [(1, .row 9 1 ((E).map fldD)), (101, .cells [.own 1])] [(1, .row 9 1 ((addN kind l E s).map fldD)), (101, .cells [.own 1])] (fun i => Nat.beq i 1 || Nat.ble 1000 i) (.tup []) := by
  refine xcall_of (n := 21) (ds' := []) Tryd.func25 rfl (by kernel_rfl) rfl [] rfl rfl ?_
  intro B w0 F0 fr ρ0
  refine AWP.seq ?_
  refine AWP.region ?_
  refine AOps.step rfl rfl rfl (AOp.moveD rfl rfl) ?_
  refine AOps.step rfl rfl rfl (AOp.bytesStr (l := s) rfl et_36.ht Tryd.underlying5 st_9 rfl) ?_
  refine AOps.step rfl rfl rfl (AOp.assignD rfl rfl) ?_
  refine AOps.nil ?_
  refine AWP.seq ?_
  refine AWP.region ?_
  refine AOps.step rfl rfl rfl (AOp.moveD rfl rfl) ?_
  refine AOps.step rfl rfl rfl (AOp.load rfl sc_9 rfl) ?_
  refine AOps.step rfl rfl rfl (AOp.sneq rfl rfl rfl) ?_
  rw [show decide ((⟨s.toArray⟩ : ByteArray) ≠ bStr l) = decide (s ≠ l) from bStr_decn s l]
  refine AOps.step rfl rfl rfl (AOp.moveD rfl rfl) ?_
  refine AOps.split 11 rfl (fun g1 => ?_) (fun g1 => ?_)
  · replace g1 := of_decide_eq_true g1
    have hne := g1
    refine AOps.step ⟨11, rfl, .inl ⟨_, rfl, rfl⟩⟩ rfl rfl (AOp.load rfl sc_3 rfl) ?_
    refine AOps.step ⟨11, rfl, .inl ⟨_, rfl, rfl⟩⟩ rfl rfl (AOp.moveD rfl rfl) ?_
    refine AOps.step ⟨11, rfl, .inl ⟨_, rfl, rfl⟩⟩ rfl rfl (AOp.call rfl (.cons (ArgOk.rfl' rfl) (.cons (ArgOk.rfl' rfl) .nil)) (c_pCode kind s hs)) ?_
    refine AOps.step ⟨11, rfl, .inl ⟨_, rfl, rfl⟩⟩ rfl rfl (AOp.eql rfl rfl rfl) ?_
    refine AOps.step rfl rfl rfl (AOp.pickT rfl rfl rfl) ?_
    refine AOps.nil ?_
    refine AWP.cond rfl (fun h2 => ?_) (fun h2 => ?_)
    · replace h2 := of_decide_eq_true h2
      rw [addN_t hne h2]
      refine AWP.region ?_
      refine AOps.step rfl rfl rfl (AOp.loadP rfl sc_28 rfl (.tail _ (.head _)) rfl) ?_
      refine AOps.step rfl rfl rfl (AOp.moveD rfl rfl) ?_
      refine AOps.step rfl rfl rfl (AOp.buildSlice rfl et_28 (.cons rfl rfl rfl .nil) rfl (by decide)) ?_
      -- append 20
      refine AOps.append rfl rfl rfl rfl et_28 rfl (.head _) rfl (by simp [D.parts]) (by simp; omega) (by simp; omega) ?_
      refine AOps.storeS rfl rfl rfl sz_28 rfl (.tail _ (.head _)) rfl (.head _) (Nat.le_of_ble_eq_true rfl) ?_
      refine AOps.nil ?_
      refine ⟨trivial, ⟨mem_ob_eq (.head _) ?_, mem_ob_eq (.tail _ (.head _)) ?_, trivial⟩⟩
      all_goals (first | rfl | (rw [List.map_append]; rfl))
    · replace h2 := of_decide_eq_false h2
      rw [addN_f2 h2]
      refine AWP.skip ?_
      refine ⟨trivial, ⟨mem_ob_eq (.head _) ?_, mem_ob_eq (.tail _ (.head _)) ?_, trivial⟩⟩
      all_goals (first | rfl | (rw [List.map_append]; rfl))
  · replace g1 := of_decide_eq_false g1
    rw [addN_f1 g1]
    refine AOps.pass ⟨11, rfl, .inl ⟨_, rfl, rfl⟩⟩ rfl rfl ?_
    refine AOps.pass ⟨11, rfl, .inl ⟨_, rfl, rfl⟩⟩ rfl rfl ?_
    refine AOps.pass ⟨11, rfl, .inl ⟨_, rfl, rfl⟩⟩ rfl rfl ?_
    refine AOps.pass ⟨11, rfl, .inl ⟨_, rfl, rfl⟩⟩ rfl rfl ?_
    refine AOps.step rfl rfl rfl (AOp.pickF rfl rfl rfl) ?_
    refine AOps.nil ?_
    refine AWP.cond rfl (fun h => nomatch h) (fun _ => ?_)
    refine AWP.skip ?_
    refine ⟨trivial, ⟨mem_ob_eq (.head _) ?_, mem_ob_eq (.tail _ (.head _)) ?_, trivial⟩⟩
    all_goals (first | rfl | (rw [List.map_append]; rfl))

set_option maxRecDepth 100000 in
set_option maxHeartbeats 1000000 in
theorem c_pNear (kind : Int) (l : List UInt8) (hl : l.length ≤ 9223372036854775807) : ACall Tryd.prog 10 [.v (.int .i64 kind), .v (.string (bStr l))] (.tup [.sl ((nearS kind l).map fldD), .v (.int .i64 (nearF kind l))]) := by
  refine acall_of (n := 71) (ds' := [.sl ((nearS kind l).map fldD), .v (.int .i64 (nearF kind l))]) Tryd.func10 rfl (by kernel_rfl) rfl [4, 5] rfl rfl ?_
  intro B w0 F0 fr
  refine AWP.seq ?_
  refine AWP.region ?_
  refine AOps.step rfl rfl rfl (AOp.box rfl rfl rfl) ?_
  refine AOps.step rfl rfl rfl (AOp.box rfl rfl rfl) ?_
  refine AOps.step rfl rfl rfl (AOp.assignD rfl rfl) ?_
  refine AOps.step rfl rfl rfl (AOp.assignD rfl rfl) ?_
  refine AOps.nil ?_
  refine AWP.seq ?_
  refine AWP.seq ?_
  refine AWP.region ?_
  refine AOps.step rfl rfl rfl (AOp.load rfl sc_3 rfl) ?_
  refine AOps.step rfl rfl rfl (AOp.load rfl sc_9 rfl) ?_
  refine AOps.step rfl rfl rfl (AOp.call rfl (.cons (ArgOk.rfl' rfl) (.cons (ArgOk.rfl' rfl) .nil)) (c_pCode kind l hl)) ?_
  refine AOps.step rfl rfl rfl (AOp.assignD rfl rfl) ?_
  refine AOps.nil ?_
  refine AWP.seq ?_
  refine AWP.region ?_
  refine AOps.step rfl rfl rfl (AOp.moveD rfl rfl) ?_
  refine AOps.step rfl rfl rfl (AOp.neq rfl rfl rfl) ?_
  refine AOps.step rfl rfl rfl (AOp.moveD rfl rfl) ?_
  refine AOps.split 18 rfl (fun g1 => ?_) (fun g1 => ?_)
  · replace g1 := of_decide_eq_true g1
    have hn0 := g1
    refine AOps.step ⟨18, rfl, .inl ⟨_, rfl, rfl⟩⟩ rfl rfl (AOp.moveD rfl rfl) ?_
    refine AOps.step ⟨18, rfl, .inl ⟨_, rfl, rfl⟩⟩ rfl rfl (AOp.neq rfl rfl rfl) ?_
    refine AOps.step rfl rfl rfl (AOp.pickT rfl rfl rfl) ?_
    refine AOps.nil ?_
    refine AWP.cond rfl (fun h2 => ?_) (fun h2 => ?_)
    · replace h2 := of_decide_eq_true h2
      obtain ⟨HF, HS⟩ := near_bad hn0 h2
      refine AWP.seq ?_
      refine AWP.region ?_
      refine AOps.step rfl rfl rfl (AOp.moveD rfl rfl) ?_
      refine AOps.step rfl rfl rfl (AOp.assignD rfl rfl) ?_
      refine AOps.step rfl rfl rfl (AOp.assignD rfl rfl) ?_
      refine AOps.nil ?_
      refine AWP.ret ?_
      rw [HF, HS]
      refine ⟨RetD.nil rfl, RetD.eq rfl ?_, trivial⟩
      all_goals (rfl)
    · replace h2 := of_decide_eq_false h2
      have HOK : codeF kind l = 0 ∨ codeF kind l = 16 := .inr (Decidable.not_not.1 h2)
      obtain ⟨HF, HS⟩ := near_ok HOK
      have h13 := codeF_len HOK
      refine AWP.skip ?_
      refine AWP.seq ?_
      refine AWP.region ?_
      refine AOps.alloc 101 rfl rfl rfl rfl zt_28 rfl rfl rfl ?_
      refine AOps.adoptCell 1 9 1 101 0 (.head _) rfl rfl ?_
      refine AOps.nil ?_
      refine AWP.seq ?_
      refine AWP.region ?_
      refine AOps.step rfl rfl rfl (AOp.makeClo rfl (CapsOk.d rfl (CapsOk.d rfl (CapsOk.p rfl CapsOk.nil)))) ?_
      refine AOps.step rfl rfl rfl (AOp.assignC rfl rfl) ?_
      refine AOps.nil ?_
      refine AWP.seq ?_
      refine AWP.seq ?_
      refine AWP.region ?_
      refine AOps.step rfl rfl rfl (AOp.load rfl sc_9 rfl) ?_
      refine AOps.step rfl rfl rfl (AOp.lenStr rfl st_9 rfl) ?_
      rw [bStr_size]
      refine AOps.step rfl rfl rfl (AOp.moveD rfl rfl) ?_
      refine AOps.nil ?_
      refine AWP.block ?_
      refine AWP.loop (G := Nat) (fun i => Env.of [(26, .d (.v (.int .i64 (i : Int)))), (25, .d (.v (.int .i64 (l.length : Int)))), (3, .d (.fp [.v (.string (bStr l))])), (7, .ptr 101 0), (8, .clo 25 [.d (.fp [.v (.string (bStr l))]), .d (.fp [.v (.int .i64 kind)]), .p 101 0])]) (fun i => [(1, .row 9 1 ((outP kind l i).map fldD)), (101, .cells [.own 1])]) (fun i => i ≤ l.length) (fun i => l.length - i) 0 (Nat.zero_le _) (Sub.less ⟨(SLe.of_eq rfl), SLe.refl _, SLe.refl _, SLe.refl _, SLe.refl _, trivial⟩ (row_cell2 rfl)) ?_
      intro i hi
      refine AWP.seq ?_
      refine AWP.region ?_
      refine AOps.step rfl rfl rfl (AOp.lss rfl rfl rfl) ?_
      refine AOps.nil ?_
      refine AWP.seq ?_
      refine AWP.cond rfl (fun h3 => ?_) (fun h3 => ?_)
      · replace h3 := of_decide_eq_true h3
        have hlt : i < l.length := by omega
        refine AWP.skip ?_
        refine AWP.seq ?_
        refine AWP.block ?_
        refine AWP.seq ?_
        refine AWP.region ?_
        refine AOps.step rfl rfl rfl (AOp.moveD rfl rfl) ?_
        refine AOps.step rfl rfl rfl (AOp.assignD rfl rfl) ?_
        refine AOps.nil ?_
        refine AWP.seq ?_
        refine AWP.seq ?_
        refine AWP.region ?_
        refine AOps.step rfl rfl rfl (AOp.moveD rfl rfl) ?_
        refine AOps.nil ?_
        refine AWP.block ?_
        refine AWP.loop (G := Nat) (fun k => Env.of [(29, .d (.v (.int .i64 (k : Int)))), (9, .d (.v (.int .i64 (i : Int)))), (26, .d (.v (.int .i64 (i : Int)))), (25, .d (.v (.int .i64 (l.length : Int)))), (3, .d (.fp [.v (.string (bStr l))])), (7, .ptr 101 0), (8, .clo 25 [.d (.fp [.v (.string (bStr l))]), .d (.fp [.v (.int .i64 kind)]), .p 101 0])]) (fun k => [(1, .row 9 1 ((outPK kind l i k).map fldD)), (101, .cells [.own 1])]) (fun k => k ≤ 36) (fun k => 36 - k) 0 (Nat.zero_le _) (Sub.less ⟨(SLe.of_eq rfl), SLe.refl _, SLe.refl _, SLe.refl _, SLe.refl _, SLe.refl _, SLe.refl _, trivial⟩ (row_cell2 (by rw [outPK_0]))) ?_
        intro k hk
        refine AWP.seq ?_
        refine AWP.region ?_
        refine AOps.step rfl rfl rfl (AOp.lss rfl rfl rfl) ?_
        refine AOps.nil ?_
        refine AWP.seq ?_
        refine AWP.cond rfl (fun h4 => ?_) (fun h4 => ?_)
        · replace h4 := of_decide_eq_true h4
          have hq : k < 36 := by omega
          have hol := outPK_len kind l i k
          have HN := outPK_next kind (l := l) i hq
          refine AWP.skip ?_
          refine AWP.seq ?_
          refine AWP.block ?_
          refine AWP.seq ?_
          refine AWP.region ?_
          refine AOps.step rfl rfl rfl (AOp.moveD rfl rfl) ?_
          refine AOps.step rfl rfl rfl (AOp.assignD rfl rfl) ?_
          refine AOps.nil ?_
          refine AWP.seq ?_
          refine AWP.region ?_
          refine AOps.step rfl rfl rfl (AOp.load rfl sc_9 rfl) ?_
          refine AOps.bytesOf 102 rfl rfl rfl rfl st_9 Tryd.underlying36 u8_5.hu rfl (by rw [bStr_size]; omega) rfl ?_
          rw [bStr_list]
          refine AOps.step rfl rfl rfl (AOp.assignO rfl rfl) ?_
          refine AOps.nil ?_
          refine AWP.seq ?_
          refine AWP.region ?_
          refine AOps.step rfl rfl rfl (AOp.moveO rfl rfl) ?_
          refine AOps.step rfl rfl rfl (AOp.moveD rfl rfl) ?_
          refine AOps.step rfl rfl rfl (AOp.moveD rfl rfl) ?_
          refine AOps.step rfl rfl rfl (AOp.indexStr rfl st_9 rfl rfl k rfl (at0_some (l := sgnL) hq)) ?_
          refine AOps.step rfl rfl rfl (AOp.indexBts rfl et_36 rfl rfl (.head _) i rfl hlt) ?_
          refine AOps.storeBts rfl rfl rfl sz_5 rfl (.head _) rfl hlt ?_
          refine AOps.nil ?_
          refine AWP.freezeBts 11 rfl (.head _) ?_
          refine AWP.region ?_
          refine AOps.step rfl rfl rfl (AOp.moveC rfl rfl) ?_
          refine AOps.step rfl rfl rfl (AOp.moveD rfl rfl) ?_
          -- calls a closure
          refine AOps.callXC rfl rfl rfl rfl (.cons (SLe.refl _) .nil) (c_take kind l (l.set i (at0 sgnL k)) (outPK kind l i k) (by omega) (by rw [List.length_set]; omega)) ⟨(.head _), (.tail _ (.head _)), trivial⟩ rfl rfl (fun _ h => rfl) ?_
          refine AOps.nil ?_
          refine AWP.region ?_
          refine AOps.step rfl rfl rfl (AOp.add64 rfl rfl rfl (by omega) (by omega)) ?_
          refine AOps.step rfl rfl rfl (AOp.moveD rfl rfl) ?_
          refine AOps.nil ?_
          refine ⟨k + 1, (by omega), (by dsimp only; omega), Sub.less ⟨(SLe.of_eq rfl), SLe.refl _, SLe.refl _, SLe.refl _, SLe.refl _, SLe.refl _, SLe.refl _, trivial⟩ (row_cell2 (by rw [HN]))⟩
        · replace h4 := of_decide_eq_false h4
          obtain rfl : k = 36 := by omega
          have hol := outPK_len kind l i 36
          refine AWP.exit ?_
          refine AWP.seq ?_
          refine AWP.region ?_
          refine AOps.step rfl rfl rfl (AOp.moveD rfl rfl) ?_
          refine AOps.step rfl rfl rfl (AOp.gtr rfl rfl rfl) ?_
          refine AOps.nil ?_
          refine AWP.cond rfl (fun h5 => ?_) (fun h5 => ?_)
          · replace h5 := of_decide_eq_true h5
            have hp : 0 < i := by omega
            have HN := outP_T kind l hp
            refine AWP.seq ?_
            refine AWP.region ?_
            refine AOps.step rfl rfl rfl (AOp.load rfl sc_9 rfl) ?_
            refine AOps.bytesOf 102 rfl rfl rfl rfl st_9 Tryd.underlying36 u8_5.hu rfl (by rw [bStr_size]; omega) rfl ?_
            rw [bStr_list]
            refine AOps.step rfl rfl rfl (AOp.assignO rfl rfl) ?_
            refine AOps.nil ?_
            refine AWP.seq ?_
            refine AWP.drawG (fun k => (Nat.beq k 15 || Nat.beq k 17) || (Nat.beq k 8 || Nat.beq k 9 || Nat.beq k 12 || Nat.beq k 13 || Nat.beq k 14 || Nat.beq k 16)) (fun k => Nat.beq k 15 || Nat.beq k 17) (fun k h => Bool.or_eq_true_iff.2 (.inl h)) (by kernel_rfl) (by kernel_rfl) (by kernel_rfl) ?_
            refine GRun.step rfl rfl rfl (fun _ => AOp.moveO rfl rfl) ?_
            refine GRun.step rfl rfl rfl (fun _ => AOp.moveD rfl rfl) ?_
            refine GRun.step rfl rfl rfl (fun _ => AOp.moveO rfl rfl) ?_
            refine GRun.step rfl rfl rfl (fun _ => AOp.moveD rfl rfl) ?_
            refine GRun.step rfl rfl rfl (fun _ => AOp.sub64 rfl rfl rfl (by omega) (by omega)) ?_
            refine GRun.step rfl rfl rfl (fun _ => AOp.moveO rfl rfl) ?_
            refine GRun.step rfl rfl rfl (fun _ => AOp.moveD rfl rfl) ?_
            refine GRun.step rfl rfl rfl (fun _ => AOp.sub64 rfl rfl rfl (by omega) (by omega)) ?_
            refine GRun.stepS rfl rfl rfl rfl (AOp.indexBts rfl et_36 rfl rfl (.head _) (i - 1) (by omega) (by omega)) ?_
            refine GRun.stepS rfl rfl rfl rfl (AOp.loadBts rfl sc_5 rfl (.head _) (at0_some (by omega))) ?_
            refine GRun.step rfl rfl rfl (fun _ => AOp.moveO rfl rfl) ?_
            refine GRun.step rfl rfl rfl (fun _ => AOp.moveD rfl rfl) ?_
            refine GRun.stepS rfl rfl rfl rfl (AOp.indexBts rfl et_36 rfl rfl (.head _) i rfl hlt) ?_
            refine GRun.stepS rfl rfl rfl rfl (AOp.loadBts rfl sc_5 rfl (.head _) (at0_some (by omega))) ?_
            refine GRun.stepS rfl rfl rfl rfl (AOp.indexBts rfl et_36 rfl rfl (.head _) i rfl hlt) ?_
            refine GRun.eff rfl rfl rfl (EOp.storeBts rfl rfl sz_5 rfl (.head _) rfl hlt) ?_
            refine GRun.stepS rfl rfl rfl rfl (AOp.indexBts rfl et_36 rfl rfl (.head _) (i - 1) (by omega) (by rw [List.length_set]; omega)) ?_
            refine GRun.eff rfl rfl rfl (EOp.storeBts rfl rfl sz_5 rfl (.head _) rfl (by rw [List.length_set]; omega)) ?_
            refine GRun.nil ?_
            refine AWP.freezeBts 12 rfl (.head _) ?_
            rw [swap_p hp]
            refine AWP.region ?_
            refine AOps.step rfl rfl rfl (AOp.moveC rfl rfl) ?_
            refine AOps.step rfl rfl rfl (AOp.moveD rfl rfl) ?_
            -- calls a closure
            refine AOps.callXC rfl rfl rfl rfl (.cons (SLe.refl _) .nil) (c_take kind l (swapL l (i - 1)) (outPK kind l i 36) (by omega) (by unfold swapL; rw [List.length_set, List.length_set]; omega)) ⟨(.head _), (.tail _ (.head _)), trivial⟩ rfl rfl (fun _ h => rfl) ?_
            refine AOps.nil ?_
            refine AWP.region ?_
            refine AOps.step rfl rfl rfl (AOp.add64 rfl rfl rfl (by omega) (by omega)) ?_
            refine AOps.step rfl rfl rfl (AOp.moveD rfl rfl) ?_
            refine AOps.nil ?_
            refine ⟨i + 1, (by omega), (by dsimp only; omega), Sub.less ⟨(SLe.of_eq rfl), SLe.refl _, SLe.refl _, SLe.refl _, SLe.refl _, trivial⟩ (row_cell2 (by rw [HN]))⟩
          · replace h5 := of_decide_eq_false h5
            have HN := outP_F kind l (i := i) (by omega)
            refine AWP.skip ?_
            refine AWP.region ?_
            refine AOps.step rfl rfl rfl (AOp.add64 rfl rfl rfl (by omega) (by omega)) ?_
            refine AOps.step rfl rfl rfl (AOp.moveD rfl rfl) ?_
            refine AOps.nil ?_
            refine ⟨i + 1, (by omega), (by dsimp only; omega), Sub.less ⟨(SLe.of_eq rfl), SLe.refl _, SLe.refl _, SLe.refl _, SLe.refl _, trivial⟩ (row_cell2 (by rw [HN]))⟩
      · replace h3 := of_decide_eq_false h3
        obtain rfl : i = l.length := by omega
        have hol := outP_len kind l l.length
        refine AWP.exit ?_
        refine AWP.seq ?_
        refine AWP.region ?_
        refine AOps.step rfl rfl rfl (AOp.loadP rfl sc_28 rfl (.tail _ (.head _)) rfl) ?_
        -- turns 1
        refine AOps.callX rfl rfl rfl (.cons (SLe.refl _) .nil) ((c_sort (outP kind l l.length) (by omega) 9) 1) ⟨(.head _), trivial⟩ rfl rfl (fun _ h => nomatch h) ?_
        refine AOps.nil ?_
        refine AWP.seq ?_
        refine AWP.region ?_
        refine AOps.step rfl rfl rfl (AOp.loadP rfl sc_28 rfl (.tail _ (.head _)) rfl) ?_
        -- takes 1
        refine AOps.callX rfl rfl rfl (.cons (SLe.refl _) .nil) ((c_compact (sortS (outP kind l l.length)) (by unfold sortS; rw [List.length_mergeSort]; omega) 9) 1) ⟨(.head _), trivial⟩ rfl rfl (fun _ h => nomatch h) ?_
        refine AOps.step rfl rfl rfl (AOp.assignD rfl rfl) ?_
        refine AOps.step rfl rfl rfl (AOp.assignD rfl rfl) ?_
        refine AOps.nil ?_
        refine AWP.ret ?_
        rw [HF, HS]
        refine ⟨RetD.eq rfl ?_, RetD.eq rfl ?_, trivial⟩
        all_goals (rfl)
  · replace g1 := of_decide_eq_false g1
    have HOK : codeF kind l = 0 ∨ codeF kind l = 16 := .inl (Decidable.not_not.1 g1)
    obtain ⟨HF, HS⟩ := near_ok HOK
    have h13 := codeF_len HOK
    refine AOps.pass ⟨18, rfl, .inl ⟨_, rfl, rfl⟩⟩ rfl rfl ?_
    refine AOps.pass ⟨18, rfl, .inl ⟨_, rfl, rfl⟩⟩ rfl rfl ?_
    refine AOps.step rfl rfl rfl (AOp.pickF rfl rfl rfl) ?_
    refine AOps.nil ?_
    refine AWP.cond rfl (fun h => nomatch h) (fun _ => ?_)
    refine AWP.skip ?_
    refine AWP.seq ?_
    refine AWP.region ?_
    refine AOps.alloc 101 rfl rfl rfl rfl zt_28 rfl rfl rfl ?_
    refine AOps.adoptCell 1 9 1 101 0 (.head _) rfl rfl ?_
    refine AOps.nil ?_
    refine AWP.seq ?_
    refine AWP.region ?_
    refine AOps.step rfl rfl rfl (AOp.makeClo rfl (CapsOk.d rfl (CapsOk.d rfl (CapsOk.p rfl CapsOk.nil)))) ?_
    refine AOps.step rfl rfl rfl (AOp.assignC rfl rfl) ?_
    refine AOps.nil ?_
    refine AWP.seq ?_
    refine AWP.seq ?_
    refine AWP.region ?_
    refine AOps.step rfl rfl rfl (AOp.load rfl sc_9 rfl) ?_
    refine AOps.step rfl rfl rfl (AOp.lenStr rfl st_9 rfl) ?_
    rw [bStr_size]
    refine AOps.step rfl rfl rfl (AOp.moveD rfl rfl) ?_
    refine AOps.nil ?_
    refine AWP.block ?_
    refine AWP.loop (G := Nat) (fun i => Env.of [(26, .d (.v (.int .i64 (i : Int)))), (25, .d (.v (.int .i64 (l.length : Int)))), (3, .d (.fp [.v (.string (bStr l))])), (7, .ptr 101 0), (8, .clo 25 [.d (.fp [.v (.string (bStr l))]), .d (.fp [.v (.int .i64 kind)]), .p 101 0])]) (fun i => [(1, .row 9 1 ((outP kind l i).map fldD)), (101, .cells [.own 1])]) (fun i => i ≤ l.length) (fun i => l.length - i) 0 (Nat.zero_le _) (Sub.less ⟨(SLe.of_eq rfl), SLe.refl _, SLe.refl _, SLe.refl _, SLe.refl _, trivial⟩ (row_cell2 rfl)) ?_
    intro i hi
    refine AWP.seq ?_
    refine AWP.region ?_
    refine AOps.step rfl rfl rfl (AOp.lss rfl rfl rfl) ?_
    refine AOps.nil ?_
    refine AWP.seq ?_
    refine AWP.cond rfl (fun h6 => ?_) (fun h6 => ?_)
    · replace h6 := of_decide_eq_true h6
      have hlt : i < l.length := by omega
      refine AWP.skip ?_
      refine AWP.seq ?_
      refine AWP.block ?_
      refine AWP.seq ?_
      refine AWP.region ?_
      refine AOps.step rfl rfl rfl (AOp.moveD rfl rfl) ?_
      refine AOps.step rfl rfl rfl (AOp.assignD rfl rfl) ?_
      refine AOps.nil ?_
      refine AWP.seq ?_
      refine AWP.seq ?_
      refine AWP.region ?_
      refine AOps.step rfl rfl rfl (AOp.moveD rfl rfl) ?_
      refine AOps.nil ?_
      refine AWP.block ?_
      refine AWP.loop (G := Nat) (fun k => Env.of [(29, .d (.v (.int .i64 (k : Int)))), (9, .d (.v (.int .i64 (i : Int)))), (26, .d (.v (.int .i64 (i : Int)))), (25, .d (.v (.int .i64 (l.length : Int)))), (3, .d (.fp [.v (.string (bStr l))])), (7, .ptr 101 0), (8, .clo 25 [.d (.fp [.v (.string (bStr l))]), .d (.fp [.v (.int .i64 kind)]), .p 101 0])]) (fun k => [(1, .row 9 1 ((outPK kind l i k).map fldD)), (101, .cells [.own 1])]) (fun k => k ≤ 36) (fun k => 36 - k) 0 (Nat.zero_le _) (Sub.less ⟨(SLe.of_eq rfl), SLe.refl _, SLe.refl _, SLe.refl _, SLe.refl _, SLe.refl _, SLe.refl _, trivial⟩ (row_cell2 (by rw [outPK_0]))) ?_
      intro k hk
      refine AWP.seq ?_
      refine AWP.region ?_
      refine AOps.step rfl rfl rfl (AOp.lss rfl rfl rfl) ?_
      refine AOps.nil ?_
      refine AWP.seq ?_
      refine AWP.cond rfl (fun h7 => ?_) (fun h7 => ?_)
      · replace h7 := of_decide_eq_true h7
        have hq : k < 36 := by omega
        have hol := outPK_len kind l i k
        have HN := outPK_next kind (l := l) i hq
        refine AWP.skip ?_
        refine AWP.seq ?_
        refine AWP.block ?_
        refine AWP.seq ?_
        refine AWP.region ?_
        refine AOps.step rfl rfl rfl (AOp.moveD rfl rfl) ?_
        refine AOps.step rfl rfl rfl (AOp.assignD rfl rfl) ?_
        refine AOps.nil ?_
        refine AWP.seq ?_
        refine AWP.region ?_
        refine AOps.step rfl rfl rfl (AOp.load rfl sc_9 rfl) ?_
        refine AOps.bytesOf 102 rfl rfl rfl rfl st_9 Tryd.underlying36 u8_5.hu rfl (by rw [bStr_size]; omega) rfl ?_
        rw [bStr_list]
        refine AOps.step rfl rfl rfl (AOp.assignO rfl rfl) ?_
        refine AOps.nil ?_
        refine AWP.seq ?_
        refine AWP.region ?_
        refine AOps.step rfl rfl rfl (AOp.moveO rfl rfl) ?_
        refine AOps.step rfl rfl rfl (AOp.moveD rfl rfl) ?_
        refine AOps.step rfl rfl rfl (AOp.moveD rfl rfl) ?_
        refine AOps.step rfl rfl rfl (AOp.indexStr rfl st_9 rfl rfl k rfl (at0_some (l := sgnL) hq)) ?_
        refine AOps.step rfl rfl rfl (AOp.indexBts rfl et_36 rfl rfl (.head _) i rfl hlt) ?_
        refine AOps.storeBts rfl rfl rfl sz_5 rfl (.head _) rfl hlt ?_
        refine AOps.nil ?_
        refine AWP.freezeBts 11 rfl (.head _) ?_
        refine AWP.region ?_
        refine AOps.step rfl rfl rfl (AOp.moveC rfl rfl) ?_
        refine AOps.step rfl rfl rfl (AOp.moveD rfl rfl) ?_
        -- calls a closure
        refine AOps.callXC rfl rfl rfl rfl (.cons (SLe.refl _) .nil) (c_take kind l (l.set i (at0 sgnL k)) (outPK kind l i k) (by omega) (by rw [List.length_set]; omega)) ⟨(.head _), (.tail _ (.head _)), trivial⟩ rfl rfl (fun _ h => rfl) ?_
        refine AOps.nil ?_
        refine AWP.region ?_
        refine AOps.step rfl rfl rfl (AOp.add64 rfl rfl rfl (by omega) (by omega)) ?_
        refine AOps.step rfl rfl rfl (AOp.moveD rfl rfl) ?_
        refine AOps.nil ?_
        refine ⟨k + 1, (by omega), (by dsimp only; omega), Sub.less ⟨(SLe.of_eq rfl), SLe.refl _, SLe.refl _, SLe.refl _, SLe.refl _, SLe.refl _, SLe.refl _, trivial⟩ (row_cell2 (by rw [HN]))⟩
      · replace h7 := of_decide_eq_false h7
        obtain rfl : k = 36 := by omega
        have hol := outPK_len kind l i 36
        refine AWP.exit ?_
        refine AWP.seq ?_
        refine AWP.region ?_
        refine AOps.step rfl rfl rfl (AOp.moveD rfl rfl) ?_
        refine AOps.step rfl rfl rfl (AOp.gtr rfl rfl rfl) ?_
        refine AOps.nil ?_
        refine AWP.cond rfl (fun h8 => ?_) (fun h8 => ?_)
        · replace h8 := of_decide_eq_true h8
          have hp : 0 < i := by omega
          have HN := outP_T kind l hp
          refine AWP.seq ?_
          refine AWP.region ?_
          refine AOps.step rfl rfl rfl (AOp.load rfl sc_9 rfl) ?_
          refine AOps.bytesOf 102 rfl rfl rfl rfl st_9 Tryd.underlying36 u8_5.hu rfl (by rw [bStr_size]; omega) rfl ?_
          rw [bStr_list]
          refine AOps.step rfl rfl rfl (AOp.assignO rfl rfl) ?_
          refine AOps.nil ?_
          refine AWP.seq ?_
          refine AWP.drawG (fun k => (Nat.beq k 15 || Nat.beq k 17) || (Nat.beq k 8 || Nat.beq k 9 || Nat.beq k 12 || Nat.beq k 13 || Nat.beq k 14 || Nat.beq k 16)) (fun k => Nat.beq k 15 || Nat.beq k 17) (fun k h => Bool.or_eq_true_iff.2 (.inl h)) (by kernel_rfl) (by kernel_rfl) (by kernel_rfl) ?_
          refine GRun.step rfl rfl rfl (fun _ => AOp.moveO rfl rfl) ?_
          refine GRun.step rfl rfl rfl (fun _ => AOp.moveD rfl rfl) ?_
          refine GRun.step rfl rfl rfl (fun _ => AOp.moveO rfl rfl) ?_
          refine GRun.step rfl rfl rfl (fun _ => AOp.moveD rfl rfl) ?_
          refine GRun.step rfl rfl rfl (fun _ => AOp.sub64 rfl rfl rfl (by omega) (by omega)) ?_
          refine GRun.step rfl rfl rfl (fun _ => AOp.moveO rfl rfl) ?_
          refine GRun.step rfl rfl rfl (fun _ => AOp.moveD rfl rfl) ?_
          refine GRun.step rfl rfl rfl (fun _ => AOp.sub64 rfl rfl rfl (by omega) (by omega)) ?_
          refine GRun.stepS rfl rfl rfl rfl (AOp.indexBts rfl et_36 rfl rfl (.head _) (i - 1) (by omega) (by omega)) ?_
          refine GRun.stepS rfl rfl rfl rfl (AOp.loadBts rfl sc_5 rfl (.head _) (at0_some (by omega))) ?_
          refine GRun.step rfl rfl rfl (fun _ => AOp.moveO rfl rfl) ?_
          refine GRun.step rfl rfl rfl (fun _ => AOp.moveD rfl rfl) ?_
          refine GRun.stepS rfl rfl rfl rfl (AOp.indexBts rfl et_36 rfl rfl (.head _) i rfl hlt) ?_
          refine GRun.stepS rfl rfl rfl rfl (AOp.loadBts rfl sc_5 rfl (.head _) (at0_some (by omega))) ?_
          refine GRun.stepS rfl rfl rfl rfl (AOp.indexBts rfl et_36 rfl rfl (.head _) i rfl hlt) ?_
          refine GRun.eff rfl rfl rfl (EOp.storeBts rfl rfl sz_5 rfl (.head _) rfl hlt) ?_
          refine GRun.stepS rfl rfl rfl rfl (AOp.indexBts rfl et_36 rfl rfl (.head _) (i - 1) (by omega) (by rw [List.length_set]; omega)) ?_
          refine GRun.eff rfl rfl rfl (EOp.storeBts rfl rfl sz_5 rfl (.head _) rfl (by rw [List.length_set]; omega)) ?_
          refine GRun.nil ?_
          refine AWP.freezeBts 12 rfl (.head _) ?_
          rw [swap_p hp]
          refine AWP.region ?_
          refine AOps.step rfl rfl rfl (AOp.moveC rfl rfl) ?_
          refine AOps.step rfl rfl rfl (AOp.moveD rfl rfl) ?_
          -- calls a closure
          refine AOps.callXC rfl rfl rfl rfl (.cons (SLe.refl _) .nil) (c_take kind l (swapL l (i - 1)) (outPK kind l i 36) (by omega) (by unfold swapL; rw [List.length_set, List.length_set]; omega)) ⟨(.head _), (.tail _ (.head _)), trivial⟩ rfl rfl (fun _ h => rfl) ?_
          refine AOps.nil ?_
          refine AWP.region ?_
          refine AOps.step rfl rfl rfl (AOp.add64 rfl rfl rfl (by omega) (by omega)) ?_
          refine AOps.step rfl rfl rfl (AOp.moveD rfl rfl) ?_
          refine AOps.nil ?_
          refine ⟨i + 1, (by omega), (by dsimp only; omega), Sub.less ⟨(SLe.of_eq rfl), SLe.refl _, SLe.refl _, SLe.refl _, SLe.refl _, trivial⟩ (row_cell2 (by rw [HN]))⟩
        · replace h8 := of_decide_eq_false h8
          have HN := outP_F kind l (i := i) (by omega)
          refine AWP.skip ?_
          refine AWP.region ?_
          refine AOps.step rfl rfl rfl (AOp.add64 rfl rfl rfl (by omega) (by omega)) ?_
          refine AOps.step rfl rfl rfl (AOp.moveD rfl rfl) ?_
          refine AOps.nil ?_
          refine ⟨i + 1, (by omega), (by dsimp only; omega), Sub.less ⟨(SLe.of_eq rfl), SLe.refl _, SLe.refl _, SLe.refl _, SLe.refl _, trivial⟩ (row_cell2 (by rw [HN]))⟩
    · replace h6 := of_decide_eq_false h6
      obtain rfl : i = l.length := by omega
      have hol := outP_len kind l l.length
      refine AWP.exit ?_
      refine AWP.seq ?_
      refine AWP.region ?_
      refine AOps.step rfl rfl rfl (AOp.loadP rfl sc_28 rfl (.tail _ (.head _)) rfl) ?_
      -- turns 1
      refine AOps.callX rfl rfl rfl (.cons (SLe.refl _) .nil) ((c_sort (outP kind l l.length) (by omega) 9) 1) ⟨(.head _), trivial⟩ rfl rfl (fun _ h => nomatch h) ?_
      refine AOps.nil ?_
      refine AWP.seq ?_
      refine AWP.region ?_
      refine AOps.step rfl rfl rfl (AOp.loadP rfl sc_28 rfl (.tail _ (.head _)) rfl) ?_
      -- takes 1
      refine AOps.callX rfl rfl rfl (.cons (SLe.refl _) .nil) ((c_compact (sortS (outP kind l l.length)) (by unfold sortS; rw [List.length_mergeSort]; omega) 9) 1) ⟨(.head _), trivial⟩ rfl rfl (fun _ h => nomatch h) ?_
      refine AOps.step rfl rfl rfl (AOp.assignD rfl rfl) ?_
      refine AOps.step rfl rfl rfl (AOp.assignD rfl rfl) ?_
      refine AOps.nil ?_
      refine AWP.ret ?_
      rw [HF, HS]
      refine ⟨RetD.eq rfl ?_, RetD.eq rfl ?_, trivial⟩
      all_goals (rfl)

end Go.Proofs.YtajghehicmlajaaDoor


namespace Go.Proofs.YtajghehicmlajaaDoor
open Go.RowKit
set_option linter.unusedVariables false

/-! Types. -/
namespace TyJ7
theorem et_28 : ElemTy Tryd.prog 28 9 1 16 (.string ⟨#[]⟩) := ⟨by kernel_rfl, by kernel_rfl, by kernel_rfl, by decide⟩
theorem sc_9 : Scal Tryd.prog 9 := .of (by kernel_rfl)
theorem st_9 : Tryd.prog.underlying 9 = some .string := by kernel_rfl
end TyJ7
open TyJ7


open Go.Lib
theorem near_okR {kind : Int} {l : List UInt8} (h : codeF kind l = 0 ∨ codeF kind l = 16) : nearF kind l = 0 ∧ nearS kind l = compact (sortS (outR kind l l.length)) := by
  obtain ⟨h1, h2⟩ := near_ok h
  exact ⟨h1, h2.trans (nearL_r kind l)⟩


set_option maxRecDepth 100000 in
set_option maxHeartbeats 1000000 in
theorem c_rNear (kind : Int) (l : List UInt8) (hl : l.length ≤ 9223372036854775807) : ACall Tryd.prog 15 [.v (.int .i64 kind), .v (.string (bStr l))] (.tup [.sl ((nearS kind l).map fldD), .v (.int .i64 (nearF kind l))]) := by
  refine acall_of (n := 101) (ds' := [.sl ((nearS kind l).map fldD), .v (.int .i64 (nearF kind l))]) Tryd.func15 rfl (by kernel_rfl) rfl [4, 5] rfl rfl ?_
  intro B w0 F0 fr
  refine AWP.seq ?_
  refine AWP.region ?_
  refine AOps.step rfl rfl rfl (AOp.assignD rfl rfl) ?_
  refine AOps.step rfl rfl rfl (AOp.assignD rfl rfl) ?_
  refine AOps.nil ?_
  refine AWP.seq ?_
  refine AWP.seq ?_
  refine AWP.region ?_
  refine AOps.step rfl rfl rfl (AOp.moveD rfl rfl) ?_
  refine AOps.step rfl rfl rfl (AOp.moveD rfl rfl) ?_
  refine AOps.step rfl rfl rfl (AOp.call rfl (.cons (ArgOk.rfl' rfl) (.cons (ArgOk.rfl' rfl) .nil)) (c_rCode kind l hl)) ?_
  refine AOps.step rfl rfl rfl (AOp.assignD rfl rfl) ?_
  refine AOps.nil ?_
  refine AWP.seq ?_
  refine AWP.region ?_
  refine AOps.step rfl rfl rfl (AOp.moveD rfl rfl) ?_
  refine AOps.step rfl rfl rfl (AOp.neq rfl rfl rfl) ?_
  refine AOps.step rfl rfl rfl (AOp.moveD rfl rfl) ?_
  refine AOps.split 17 rfl (fun g1 => ?_) (fun g1 => ?_)
  · replace g1 := of_decide_eq_true g1
    have hn0 := g1
    refine AOps.step ⟨17, rfl, .inl ⟨_, rfl, rfl⟩⟩ rfl rfl (AOp.moveD rfl rfl) ?_
    refine AOps.step ⟨17, rfl, .inl ⟨_, rfl, rfl⟩⟩ rfl rfl (AOp.neq rfl rfl rfl) ?_
    refine AOps.step rfl rfl rfl (AOp.pickT rfl rfl rfl) ?_
    refine AOps.nil ?_
    refine AWP.cond rfl (fun h2 => ?_) (fun h2 => ?_)
    · replace h2 := of_decide_eq_true h2
      obtain ⟨HF, HS⟩ := near_bad hn0 h2
      refine AWP.seq ?_
      refine AWP.region ?_
      refine AOps.step rfl rfl rfl (AOp.moveD rfl rfl) ?_
      refine AOps.step rfl rfl rfl (AOp.assignD rfl rfl) ?_
      refine AOps.step rfl rfl rfl (AOp.assignD rfl rfl) ?_
      refine AOps.nil ?_
      refine AWP.ret ?_
      rw [HF, HS]
      refine ⟨RetD.nil rfl, RetD.eq rfl ?_, trivial⟩
      all_goals (rfl)
    · replace h2 := of_decide_eq_false h2
      have HOK : codeF kind l = 0 ∨ codeF kind l = 16 := .inr (Decidable.not_not.1 h2)
      obtain ⟨HF, HS⟩ := near_okR HOK
      have h13 := codeF_len HOK
      refine AWP.skip ?_
      refine AWP.seq ?_
      refine AWP.region ?_
      refine AOps.step rfl rfl rfl (AOp.assignD rfl rfl) ?_
      refine AOps.nil ?_
      refine AWP.seq ?_
      refine AWP.seq ?_
      refine AWP.region ?_
      refine AOps.step rfl rfl rfl (AOp.moveD rfl rfl) ?_
      refine AOps.step rfl rfl rfl (AOp.lenStr rfl st_9 rfl) ?_
      rw [bStr_size]
      refine AOps.step rfl rfl rfl (AOp.moveD rfl rfl) ?_
      refine AOps.nil ?_
      refine AWP.block ?_
      refine AWP.adopt 7 1 9 1 rfl rfl ?_
      refine AWP.loop (G := Nat) (fun i => Env.of [(24, .d (.v (.int .i64 (i : Int)))), (23, .d (.v (.int .i64 (l.length : Int)))), (0, .d (.v (.int .i64 kind))), (1, .d (.v (.string (bStr l)))), (7, .own 1)]) (fun i => [(1, .row 9 1 ((outR kind l i).map fldD))]) (fun i => i ≤ l.length) (fun i => l.length - i) 0 (Nat.zero_le _) (Sub.less ⟨(SLe.of_eq rfl), SLe.refl _, SLe.refl _, SLe.refl _, SLe.refl _, trivial⟩ (row_same rfl)) ?_
      intro i hi
      refine AWP.seq ?_
      refine AWP.region ?_
      refine AOps.step rfl rfl rfl (AOp.lss rfl rfl rfl) ?_
      refine AOps.nil ?_
      refine AWP.seq ?_
      refine AWP.cond rfl (fun h3 => ?_) (fun h3 => ?_)
      · replace h3 := of_decide_eq_true h3
        have hlt : i < l.length := by omega
        refine AWP.skip ?_
        refine AWP.seq ?_
        refine AWP.block ?_
        refine AWP.seq ?_
        refine AWP.region ?_
        refine AOps.step rfl rfl rfl (AOp.moveD rfl rfl) ?_
        refine AOps.step rfl rfl rfl (AOp.assignD rfl rfl) ?_
        refine AOps.nil ?_
        refine AWP.seq ?_
        refine AWP.seq ?_
        refine AWP.region ?_
        refine AOps.step rfl rfl rfl (AOp.moveD rfl rfl) ?_
        refine AOps.nil ?_
        refine AWP.block ?_
        refine AWP.loop (G := Nat) (fun k => Env.of [(27, .d (.v (.int .i64 (k : Int)))), (8, .d (.v (.int .i64 (i : Int)))), (24, .d (.v (.int .i64 (i : Int)))), (23, .d (.v (.int .i64 (l.length : Int)))), (0, .d (.v (.int .i64 kind))), (1, .d (.v (.string (bStr l)))), (7, .own 1)]) (fun k => [(1, .row 9 1 ((outRK kind l i k).map fldD))]) (fun k => k ≤ 36) (fun k => 36 - k) 0 (Nat.zero_le _) (Sub.less ⟨(SLe.of_eq rfl), SLe.refl _, SLe.refl _, SLe.refl _, SLe.refl _, SLe.refl _, SLe.refl _, trivial⟩ (row_same (by rw [outRK_0]))) ?_
        intro k hk
        refine AWP.seq ?_
        refine AWP.region ?_
        refine AOps.step rfl rfl rfl (AOp.lss rfl rfl rfl) ?_
        refine AOps.nil ?_
        refine AWP.seq ?_
        refine AWP.cond rfl (fun h4 => ?_) (fun h4 => ?_)
        · replace h4 := of_decide_eq_true h4
          have hq : k < 36 := by omega
          have hq2 : k < sgnL.length := hq
          have hol := outRK_len kind l i k
          have HN := outRK_next kind (l := l) i hq
          refine AWP.skip ?_
          refine AWP.seq ?_
          refine AWP.block ?_
          refine AWP.seq ?_
          refine AWP.region ?_
          refine AOps.step rfl rfl rfl (AOp.moveD rfl rfl) ?_
          refine AOps.step rfl rfl rfl (AOp.assignD rfl rfl) ?_
          refine AOps.nil ?_
          refine AWP.seq ?_
          refine AWP.draw (by kernel_rfl) (by kernel_rfl) ?_
          refine DRun.step rfl rfl rfl (AOp.moveD rfl rfl) ?_
          refine DRun.step rfl rfl rfl (AOp.moveD rfl rfl) ?_
          refine DRun.step rfl rfl rfl (AOp.sliceTo rfl Tryd.underlying9 rfl rfl i rfl (by omega)) ?_
          refine DRun.step rfl rfl rfl (AOp.moveD rfl rfl) ?_
          refine DRun.step rfl rfl rfl (AOp.moveD rfl rfl) ?_
          refine DRun.step rfl rfl rfl (AOp.add64 rfl rfl rfl (by omega) (by omega)) ?_
          refine DRun.step rfl rfl rfl (AOp.sliceMid (l := sgnL) rfl Tryd.underlying9 rfl rfl rfl k (k + 1) rfl rfl (by omega) (by show k + 1 ≤ 36; omega)) ?_
          rw [cut_one hq2]
          refine DRun.step rfl rfl rfl (AOp.cat rfl rfl rfl (by simp only [List.length_take, List.length_cons, List.length_nil]; omega)) ?_
          refine DRun.step rfl rfl rfl (AOp.moveD rfl rfl) ?_
          refine DRun.step rfl rfl rfl (AOp.moveD rfl rfl) ?_
          refine DRun.step rfl rfl rfl (AOp.add64 rfl rfl rfl (by omega) (by omega)) ?_
          refine DRun.step rfl rfl rfl (AOp.sliceFrom rfl Tryd.underlying9 rfl rfl (i + 1) rfl (by omega)) ?_
          refine DRun.step rfl rfl rfl (AOp.cat rfl rfl rfl (by simp only [List.length_append, List.length_take, List.length_drop, List.length_cons, List.length_nil]; omega)) ?_
          rw [set_cut hlt]
          refine DRun.step rfl rfl rfl (AOp.assignD rfl rfl) ?_
          refine DRun.nil ?_
          refine AWP.seq ?_
          refine AWP.region ?_
          refine AOps.step rfl rfl rfl (AOp.moveD rfl rfl) ?_
          refine AOps.step rfl rfl rfl (AOp.moveD rfl rfl) ?_
          refine AOps.step rfl rfl rfl (AOp.sneq rfl rfl rfl) ?_
          rw [bStr_decn]
          refine AOps.step rfl rfl rfl (AOp.moveD rfl rfl) ?_
          refine AOps.split 46 rfl (fun g5 => ?_) (fun g5 => ?_)
          · replace g5 := of_decide_eq_true g5
            have hne := g5
            refine AOps.step ⟨46, rfl, .inl ⟨_, rfl, rfl⟩⟩ rfl rfl (AOp.moveD rfl rfl) ?_
            refine AOps.step ⟨46, rfl, .inl ⟨_, rfl, rfl⟩⟩ rfl rfl (AOp.moveD rfl rfl) ?_
            refine AOps.step ⟨46, rfl, .inl ⟨_, rfl, rfl⟩⟩ rfl rfl (AOp.call rfl (.cons (ArgOk.rfl' rfl) (.cons (ArgOk.rfl' rfl) .nil)) (c_rCode kind (l.set i (at0 sgnL k)) (by rw [List.length_set]; omega))) ?_
            refine AOps.step ⟨46, rfl, .inl ⟨_, rfl, rfl⟩⟩ rfl rfl (AOp.eql rfl rfl rfl) ?_
            refine AOps.step rfl rfl rfl (AOp.pickT rfl rfl rfl) ?_
            refine AOps.nil ?_
            refine AWP.cond rfl (fun h6 => ?_) (fun h6 => ?_)
            · replace h6 := of_decide_eq_true h6
              have HA := addN_t (E := outRK kind l i k) hne h6
              rw [HN] at HA
              refine AWP.region ?_
              refine AOps.step rfl rfl rfl (AOp.moveO rfl rfl) ?_
              refine AOps.step rfl rfl rfl (AOp.moveD rfl rfl) ?_
              refine AOps.step rfl rfl rfl (AOp.buildSlice rfl et_28 (.cons rfl rfl rfl .nil) rfl (by decide)) ?_
              -- append 55
              refine AOps.append rfl rfl rfl rfl et_28 rfl (.head _) rfl (by simp [D.parts]) (by simp; omega) (by simp; omega) ?_
              refine AOps.step rfl rfl rfl (AOp.assignO rfl rfl) ?_
              refine AOps.nil ?_
              refine AWP.region ?_
              refine AOps.step rfl rfl rfl (AOp.add64 rfl rfl rfl (by omega) (by omega)) ?_
              refine AOps.step rfl rfl rfl (AOp.moveD rfl rfl) ?_
              refine AOps.nil ?_
              refine ⟨k + 1, (by omega), (by dsimp only; omega), Sub.less ⟨(SLe.of_eq rfl), SLe.refl _, SLe.refl _, SLe.refl _, SLe.refl _, SLe.refl _, SLe.refl _, trivial⟩ (row_same (by first | (rw [HA]; done) | (rw [HA, List.map_append]; rfl)))⟩
            · replace h6 := of_decide_eq_false h6
              have HA := addN_f2 (l := l) (E := outRK kind l i k) h6
              rw [HN] at HA
              refine AWP.skip ?_
              refine AWP.region ?_
              refine AOps.step rfl rfl rfl (AOp.add64 rfl rfl rfl (by omega) (by omega)) ?_
              refine AOps.step rfl rfl rfl (AOp.moveD rfl rfl) ?_
              refine AOps.nil ?_
              refine ⟨k + 1, (by omega), (by dsimp only; omega), Sub.less ⟨(SLe.of_eq rfl), SLe.refl _, SLe.refl _, SLe.refl _, SLe.refl _, SLe.refl _, SLe.refl _, trivial⟩ (row_same (by first | (rw [HA]; done) | (rw [HA, List.map_append]; rfl)))⟩
          · replace g5 := of_decide_eq_false g5
            have HA := addN_f1 (kind := kind) (E := outRK kind l i k) g5
            rw [HN] at HA
            refine AOps.pass ⟨46, rfl, .inl ⟨_, rfl, rfl⟩⟩ rfl rfl ?_
            refine AOps.pass ⟨46, rfl, .inl ⟨_, rfl, rfl⟩⟩ rfl rfl ?_
            refine AOps.pass ⟨46, rfl, .inl ⟨_, rfl, rfl⟩⟩ rfl rfl ?_
            refine AOps.pass ⟨46, rfl, .inl ⟨_, rfl, rfl⟩⟩ rfl rfl ?_
            refine AOps.step rfl rfl rfl (AOp.pickF rfl rfl rfl) ?_
            refine AOps.nil ?_
            refine AWP.cond rfl (fun h => nomatch h) (fun _ => ?_)
            refine AWP.skip ?_
            refine AWP.region ?_
            refine AOps.step rfl rfl rfl (AOp.add64 rfl rfl rfl (by omega) (by omega)) ?_
            refine AOps.step rfl rfl rfl (AOp.moveD rfl rfl) ?_
            refine AOps.nil ?_
            refine ⟨k + 1, (by omega), (by dsimp only; omega), Sub.less ⟨(SLe.of_eq rfl), SLe.refl _, SLe.refl _, SLe.refl _, SLe.refl _, SLe.refl _, SLe.refl _, trivial⟩ (row_same (by first | (rw [HA]; done) | (rw [HA, List.map_append]; rfl)))⟩
        · replace h4 := of_decide_eq_false h4
          obtain rfl : k = 36 := by omega
          have hol := outRK_len kind l i 36
          refine AWP.exit ?_
          refine AWP.seq ?_
          refine AWP.region ?_
          refine AOps.step rfl rfl rfl (AOp.moveD rfl rfl) ?_
          refine AOps.step rfl rfl rfl (AOp.add64 rfl rfl rfl (by omega) (by omega)) ?_
          refine AOps.step rfl rfl rfl (AOp.moveD rfl rfl) ?_
          refine AOps.step rfl rfl rfl (AOp.lenStr rfl st_9 rfl) ?_
          rw [bStr_size]
          refine AOps.step rfl rfl rfl (AOp.lss rfl rfl rfl) ?_
          refine AOps.nil ?_
          refine AWP.cond rfl (fun h7 => ?_) (fun h7 => ?_)
          · replace h7 := of_decide_eq_true h7
            have hp : i + 1 < l.length := by omega
            have HN := outR_T kind l hp
            refine AWP.seq ?_
            refine AWP.draw (by kernel_rfl) (by kernel_rfl) ?_
            refine DRun.step rfl rfl rfl (AOp.moveD rfl rfl) ?_
            refine DRun.step rfl rfl rfl (AOp.moveD rfl rfl) ?_
            refine DRun.step rfl rfl rfl (AOp.sliceTo rfl Tryd.underlying9 rfl rfl i rfl (by omega)) ?_
            refine DRun.step rfl rfl rfl (AOp.moveD rfl rfl) ?_
            refine DRun.step rfl rfl rfl (AOp.moveD rfl rfl) ?_
            refine DRun.step rfl rfl rfl (AOp.add64 rfl rfl rfl (by omega) (by omega)) ?_
            refine DRun.step rfl rfl rfl (AOp.moveD rfl rfl) ?_
            refine DRun.step rfl rfl rfl (AOp.add64 rfl rfl rfl (by omega) (by omega)) ?_
            refine DRun.step rfl rfl rfl (AOp.sliceMid rfl Tryd.underlying9 rfl rfl rfl (i + 1) (i + 2) rfl rfl (by omega) (by omega)) ?_
            rw [show i + 2 - (i + 1) = i + 1 + 1 - (i + 1) by omega, cut_one hp]
            refine DRun.step rfl rfl rfl (AOp.cat rfl rfl rfl (by simp only [List.length_take, List.length_cons, List.length_nil]; omega)) ?_
            refine DRun.step rfl rfl rfl (AOp.moveD rfl rfl) ?_
            refine DRun.step rfl rfl rfl (AOp.moveD rfl rfl) ?_
            refine DRun.step rfl rfl rfl (AOp.moveD rfl rfl) ?_
            refine DRun.step rfl rfl rfl (AOp.add64 rfl rfl rfl (by omega) (by omega)) ?_
            refine DRun.step rfl rfl rfl (AOp.sliceMid rfl Tryd.underlying9 rfl rfl rfl i (i + 1) rfl rfl (by omega) (by omega)) ?_
            rw [cut_one hlt]
            refine DRun.step rfl rfl rfl (AOp.cat rfl rfl rfl (by simp only [List.length_append, List.length_take, List.length_cons, List.length_nil]; omega)) ?_
            refine DRun.step rfl rfl rfl (AOp.moveD rfl rfl) ?_
            refine DRun.step rfl rfl rfl (AOp.moveD rfl rfl) ?_
            refine DRun.step rfl rfl rfl (AOp.add64 rfl rfl rfl (by omega) (by omega)) ?_
            refine DRun.step rfl rfl rfl (AOp.sliceFrom rfl Tryd.underlying9 rfl rfl (i + 2) rfl (by omega)) ?_
            refine DRun.step rfl rfl rfl (AOp.cat rfl rfl rfl (by simp only [List.length_append, List.length_take, List.length_drop, List.length_cons, List.length_nil]; omega)) ?_
            rw [swap_cut hp]
            refine DRun.step rfl rfl rfl (AOp.assignD rfl rfl) ?_
            refine DRun.nil ?_
            refine AWP.seq ?_
            refine AWP.region ?_
            refine AOps.step rfl rfl rfl (AOp.moveD rfl rfl) ?_
            refine AOps.step rfl rfl rfl (AOp.moveD rfl rfl) ?_
            refine AOps.step rfl rfl rfl (AOp.sneq rfl rfl rfl) ?_
            rw [bStr_decn]
            refine AOps.step rfl rfl rfl (AOp.moveD rfl rfl) ?_
            refine AOps.split 86 rfl (fun g8 => ?_) (fun g8 => ?_)
            · replace g8 := of_decide_eq_true g8
              have hne := g8
              refine AOps.step ⟨86, rfl, .inl ⟨_, rfl, rfl⟩⟩ rfl rfl (AOp.moveD rfl rfl) ?_
              refine AOps.step ⟨86, rfl, .inl ⟨_, rfl, rfl⟩⟩ rfl rfl (AOp.moveD rfl rfl) ?_
              refine AOps.step ⟨86, rfl, .inl ⟨_, rfl, rfl⟩⟩ rfl rfl (AOp.call rfl (.cons (ArgOk.rfl' rfl) (.cons (ArgOk.rfl' rfl) .nil)) (c_rCode kind (swapL l i) (by unfold swapL; rw [List.length_set, List.length_set]; omega))) ?_
              refine AOps.step ⟨86, rfl, .inl ⟨_, rfl, rfl⟩⟩ rfl rfl (AOp.eql rfl rfl rfl) ?_
              refine AOps.step rfl rfl rfl (AOp.pickT rfl rfl rfl) ?_
              refine AOps.nil ?_
              refine AWP.cond rfl (fun h9 => ?_) (fun h9 => ?_)
              · replace h9 := of_decide_eq_true h9
                have HA := addN_t (E := outRK kind l i 36) hne h9
                rw [HN] at HA
                refine AWP.region ?_
                refine AOps.step rfl rfl rfl (AOp.moveO rfl rfl) ?_
                refine AOps.step rfl rfl rfl (AOp.moveD rfl rfl) ?_
                refine AOps.step rfl rfl rfl (AOp.buildSlice rfl et_28 (.cons rfl rfl rfl .nil) rfl (by decide)) ?_
                -- append 95
                refine AOps.append rfl rfl rfl rfl et_28 rfl (.head _) rfl (by simp [D.parts]) (by simp; omega) (by simp; omega) ?_
                refine AOps.step rfl rfl rfl (AOp.assignO rfl rfl) ?_
                refine AOps.nil ?_
                refine AWP.region ?_
                refine AOps.step rfl rfl rfl (AOp.add64 rfl rfl rfl (by omega) (by omega)) ?_
                refine AOps.step rfl rfl rfl (AOp.moveD rfl rfl) ?_
                refine AOps.nil ?_
                refine ⟨i + 1, (by omega), (by dsimp only; omega), Sub.less ⟨(SLe.of_eq rfl), SLe.refl _, SLe.refl _, SLe.refl _, SLe.refl _, trivial⟩ (row_same (by first | (rw [HA]; done) | (rw [HA, List.map_append]; rfl)))⟩
              · replace h9 := of_decide_eq_false h9
                have HA := addN_f2 (l := l) (E := outRK kind l i 36) h9
                rw [HN] at HA
                refine AWP.skip ?_
                refine AWP.region ?_
                refine AOps.step rfl rfl rfl (AOp.add64 rfl rfl rfl (by omega) (by omega)) ?_
                refine AOps.step rfl rfl rfl (AOp.moveD rfl rfl) ?_
                refine AOps.nil ?_
                refine ⟨i + 1, (by omega), (by dsimp only; omega), Sub.less ⟨(SLe.of_eq rfl), SLe.refl _, SLe.refl _, SLe.refl _, SLe.refl _, trivial⟩ (row_same (by first | (rw [HA]; done) | (rw [HA, List.map_append]; rfl)))⟩
            · replace g8 := of_decide_eq_false g8
              have HA := addN_f1 (kind := kind) (E := outRK kind l i 36) g8
              rw [HN] at HA
              refine AOps.pass ⟨86, rfl, .inl ⟨_, rfl, rfl⟩⟩ rfl rfl ?_
              refine AOps.pass ⟨86, rfl, .inl ⟨_, rfl, rfl⟩⟩ rfl rfl ?_
              refine AOps.pass ⟨86, rfl, .inl ⟨_, rfl, rfl⟩⟩ rfl rfl ?_
              refine AOps.pass ⟨86, rfl, .inl ⟨_, rfl, rfl⟩⟩ rfl rfl ?_
              refine AOps.step rfl rfl rfl (AOp.pickF rfl rfl rfl) ?_
              refine AOps.nil ?_
              refine AWP.cond rfl (fun h => nomatch h) (fun _ => ?_)
              refine AWP.skip ?_
              refine AWP.region ?_
              refine AOps.step rfl rfl rfl (AOp.add64 rfl rfl rfl (by omega) (by omega)) ?_
              refine AOps.step rfl rfl rfl (AOp.moveD rfl rfl) ?_
              refine AOps.nil ?_
              refine ⟨i + 1, (by omega), (by dsimp only; omega), Sub.less ⟨(SLe.of_eq rfl), SLe.refl _, SLe.refl _, SLe.refl _, SLe.refl _, trivial⟩ (row_same (by first | (rw [HA]; done) | (rw [HA, List.map_append]; rfl)))⟩
          · replace h7 := of_decide_eq_false h7
            have HA := outR_F kind l (i := i) (by omega)
            refine AWP.skip ?_
            refine AWP.region ?_
            refine AOps.step rfl rfl rfl (AOp.add64 rfl rfl rfl (by omega) (by omega)) ?_
            refine AOps.step rfl rfl rfl (AOp.moveD rfl rfl) ?_
            refine AOps.nil ?_
            refine ⟨i + 1, (by omega), (by dsimp only; omega), Sub.less ⟨(SLe.of_eq rfl), SLe.refl _, SLe.refl _, SLe.refl _, SLe.refl _, trivial⟩ (row_same (by first | (rw [HA]; done) | (rw [HA, List.map_append]; rfl)))⟩
      · replace h3 := of_decide_eq_false h3
        obtain rfl : i = l.length := by omega
        have hol := outR_len kind l l.length
        refine AWP.exit ?_
        refine AWP.seq ?_
        refine AWP.region ?_
        refine AOps.step rfl rfl rfl (AOp.moveO rfl rfl) ?_
        -- turns 1
        refine AOps.callX rfl rfl rfl (.cons (SLe.refl _) .nil) ((c_sort (outR kind l l.length) (by omega) 9) 1) ⟨(.head _), trivial⟩ rfl rfl (fun _ h => nomatch h) ?_
        refine AOps.nil ?_
        refine AWP.seq ?_
        refine AWP.region ?_
        refine AOps.step rfl rfl rfl (AOp.moveO rfl rfl) ?_
        -- takes 1
        refine AOps.callX rfl rfl rfl (.cons (SLe.refl _) .nil) ((c_compact (sortS (outR kind l l.length)) (by unfold sortS; rw [List.length_mergeSort]; omega) 9) 1) ⟨(.head _), trivial⟩ rfl rfl (fun _ h => nomatch h) ?_
        refine AOps.step rfl rfl rfl (AOp.assignD rfl rfl) ?_
        refine AOps.step rfl rfl rfl (AOp.assignD rfl rfl) ?_
        refine AOps.nil ?_
        refine AWP.ret ?_
        rw [HF, HS]
        refine ⟨RetD.eq rfl ?_, RetD.eq rfl ?_, trivial⟩
        all_goals (rfl)
  · replace g1 := of_decide_eq_false g1
    have HOK : codeF kind l = 0 ∨ codeF kind l = 16 := .inl (Decidable.not_not.1 g1)
    obtain ⟨HF, HS⟩ := near_okR HOK
    have h13 := codeF_len HOK
    refine AOps.pass ⟨17, rfl, .inl ⟨_, rfl, rfl⟩⟩ rfl rfl ?_
    refine AOps.pass ⟨17, rfl, .inl ⟨_, rfl, rfl⟩⟩ rfl rfl ?_
    refine AOps.step rfl rfl rfl (AOp.pickF rfl rfl rfl) ?_
    refine AOps.nil ?_
    refine AWP.cond rfl (fun h => nomatch h) (fun _ => ?_)
    refine AWP.skip ?_
    refine AWP.seq ?_
    refine AWP.region ?_
    refine AOps.step rfl rfl rfl (AOp.assignD rfl rfl) ?_
    refine AOps.nil ?_
    refine AWP.seq ?_
    refine AWP.seq ?_
    refine AWP.region ?_
    refine AOps.step rfl rfl rfl (AOp.moveD rfl rfl) ?_
    refine AOps.step rfl rfl rfl (AOp.lenStr rfl st_9 rfl) ?_
    rw [bStr_size]
    refine AOps.step rfl rfl rfl (AOp.moveD rfl rfl) ?_
    refine AOps.nil ?_
    refine AWP.block ?_
    refine AWP.adopt 7 1 9 1 rfl rfl ?_
    refine AWP.loop (G := Nat) (fun i => Env.of [(24, .d (.v (.int .i64 (i : Int)))), (23, .d (.v (.int .i64 (l.length : Int)))), (0, .d (.v (.int .i64 kind))), (1, .d (.v (.string (bStr l)))), (7, .own 1)]) (fun i => [(1, .row 9 1 ((outR kind l i).map fldD))]) (fun i => i ≤ l.length) (fun i => l.length - i) 0 (Nat.zero_le _) (Sub.less ⟨(SLe.of_eq rfl), SLe.refl _, SLe.refl _, SLe.refl _, SLe.refl _, trivial⟩ (row_same rfl)) ?_
    intro i hi
    refine AWP.seq ?_
    refine AWP.region ?_
    refine AOps.step rfl rfl rfl (AOp.lss rfl rfl rfl) ?_
    refine AOps.nil ?_
    refine AWP.seq ?_
    refine AWP.cond rfl (fun h10 => ?_) (fun h10 => ?_)
    · replace h10 := of_decide_eq_true h10
      have hlt : i < l.length := by omega
      refine AWP.skip ?_
      refine AWP.seq ?_
      refine AWP.block ?_
      refine AWP.seq ?_
      refine AWP.region ?_
      refine AOps.step rfl rfl rfl (AOp.moveD rfl rfl) ?_
      refine AOps.step rfl rfl rfl (AOp.assignD rfl rfl) ?_
      refine AOps.nil ?_
      refine AWP.seq ?_
      refine AWP.seq ?_
      refine AWP.region ?_
      refine AOps.step rfl rfl rfl (AOp.moveD rfl rfl) ?_
      refine AOps.nil ?_
      refine AWP.block ?_
      refine AWP.loop (G := Nat) (fun k => Env.of [(27, .d (.v (.int .i64 (k : Int)))), (8, .d (.v (.int .i64 (i : Int)))), (24, .d (.v (.int .i64 (i : Int)))), (23, .d (.v (.int .i64 (l.length : Int)))), (0, .d (.v (.int .i64 kind))), (1, .d (.v (.string (bStr l)))), (7, .own 1)]) (fun k => [(1, .row 9 1 ((outRK kind l i k).map fldD))]) (fun k => k ≤ 36) (fun k => 36 - k) 0 (Nat.zero_le _) (Sub.less ⟨(SLe.of_eq rfl), SLe.refl _, SLe.refl _, SLe.refl _, SLe.refl _, SLe.refl _, SLe.refl _, trivial⟩ (row_same (by rw [outRK_0]))) ?_
      intro k hk
      refine AWP.seq ?_
      refine AWP.region ?_
      refine AOps.step rfl rfl rfl (AOp.lss rfl rfl rfl) ?_
      refine AOps.nil ?_
      refine AWP.seq ?_
      refine AWP.cond rfl (fun h11 => ?_) (fun h11 => ?_)
      · replace h11 := of_decide_eq_true h11
        have hq : k < 36 := by omega
        have hq2 : k < sgnL.length := hq
        have hol := outRK_len kind l i k
        have HN := outRK_next kind (l := l) i hq
        refine AWP.skip ?_
        refine AWP.seq ?_
        refine AWP.block ?_
        refine AWP.seq ?_
        refine AWP.region ?_
        refine AOps.step rfl rfl rfl (AOp.moveD rfl rfl) ?_
        refine AOps.step rfl rfl rfl (AOp.assignD rfl rfl) ?_
        refine AOps.nil ?_
        refine AWP.seq ?_
        refine AWP.draw (by kernel_rfl) (by kernel_rfl) ?_
        refine DRun.step rfl rfl rfl (AOp.moveD rfl rfl) ?_
        refine DRun.step rfl rfl rfl (AOp.moveD rfl rfl) ?_
        refine DRun.step rfl rfl rfl (AOp.sliceTo rfl Tryd.underlying9 rfl rfl i rfl (by omega)) ?_
        refine DRun.step rfl rfl rfl (AOp.moveD rfl rfl) ?_
        refine DRun.step rfl rfl rfl (AOp.moveD rfl rfl) ?_
        refine DRun.step rfl rfl rfl (AOp.add64 rfl rfl rfl (by omega) (by omega)) ?_
        refine DRun.step rfl rfl rfl (AOp.sliceMid (l := sgnL) rfl Tryd.underlying9 rfl rfl rfl k (k + 1) rfl rfl (by omega) (by show k + 1 ≤ 36; omega)) ?_
        rw [cut_one hq2]
        refine DRun.step rfl rfl rfl (AOp.cat rfl rfl rfl (by simp only [List.length_take, List.length_cons, List.length_nil]; omega)) ?_
        refine DRun.step rfl rfl rfl (AOp.moveD rfl rfl) ?_
        refine DRun.step rfl rfl rfl (AOp.moveD rfl rfl) ?_
        refine DRun.step rfl rfl rfl (AOp.add64 rfl rfl rfl (by omega) (by omega)) ?_
        refine DRun.step rfl rfl rfl (AOp.sliceFrom rfl Tryd.underlying9 rfl rfl (i + 1) rfl (by omega)) ?_
        refine DRun.step rfl rfl rfl (AOp.cat rfl rfl rfl (by simp only [List.length_append, List.length_take, List.length_drop, List.length_cons, List.length_nil]; omega)) ?_
        rw [set_cut hlt]
        refine DRun.step rfl rfl rfl (AOp.assignD rfl rfl) ?_
        refine DRun.nil ?_
        refine AWP.seq ?_
        refine AWP.region ?_
        refine AOps.step rfl rfl rfl (AOp.moveD rfl rfl) ?_
        refine AOps.step rfl rfl rfl (AOp.moveD rfl rfl) ?_
        refine AOps.step rfl rfl rfl (AOp.sneq rfl rfl rfl) ?_
        rw [bStr_decn]
        refine AOps.step rfl rfl rfl (AOp.moveD rfl rfl) ?_
        refine AOps.split 46 rfl (fun g12 => ?_) (fun g12 => ?_)
        · replace g12 := of_decide_eq_true g12
          have hne := g12
          refine AOps.step ⟨46, rfl, .inl ⟨_, rfl, rfl⟩⟩ rfl rfl (AOp.moveD rfl rfl) ?_
          refine AOps.step ⟨46, rfl, .inl ⟨_, rfl, rfl⟩⟩ rfl rfl (AOp.moveD rfl rfl) ?_
          refine AOps.step ⟨46, rfl, .inl ⟨_, rfl, rfl⟩⟩ rfl rfl (AOp.call rfl (.cons (ArgOk.rfl' rfl) (.cons (ArgOk.rfl' rfl) .nil)) (c_rCode kind (l.set i (at0 sgnL k)) (by rw [List.length_set]; omega))) ?_
          refine AOps.step ⟨46, rfl, .inl ⟨_, rfl, rfl⟩⟩ rfl rfl (AOp.eql rfl rfl rfl) ?_
          refine AOps.step rfl rfl rfl (AOp.pickT rfl rfl rfl) ?_
          refine AOps.nil ?_
          refine AWP.cond rfl (fun h13 => ?_) (fun h13 => ?_)
          · replace h13 := of_decide_eq_true h13
            have HA := addN_t (E := outRK kind l i k) hne h13
            rw [HN] at HA
            refine AWP.region ?_
            refine AOps.step rfl rfl rfl (AOp.moveO rfl rfl) ?_
            refine AOps.step rfl rfl rfl (AOp.moveD rfl rfl) ?_
            refine AOps.step rfl rfl rfl (AOp.buildSlice rfl et_28 (.cons rfl rfl rfl .nil) rfl (by decide)) ?_
            -- append 55
            refine AOps.append rfl rfl rfl rfl et_28 rfl (.head _) rfl (by simp [D.parts]) (by simp; omega) (by simp; omega) ?_
            refine AOps.step rfl rfl rfl (AOp.assignO rfl rfl) ?_
            refine AOps.nil ?_
            refine AWP.region ?_
            refine AOps.step rfl rfl rfl (AOp.add64 rfl rfl rfl (by omega) (by omega)) ?_
            refine AOps.step rfl rfl rfl (AOp.moveD rfl rfl) ?_
            refine AOps.nil ?_
            refine ⟨k + 1, (by omega), (by dsimp only; omega), Sub.less ⟨(SLe.of_eq rfl), SLe.refl _, SLe.refl _, SLe.refl _, SLe.refl _, SLe.refl _, SLe.refl _, trivial⟩ (row_same (by first | (rw [HA]; done) | (rw [HA, List.map_append]; rfl)))⟩
          · replace h13 := of_decide_eq_false h13
            have HA := addN_f2 (l := l) (E := outRK kind l i k) h13
            rw [HN] at HA
            refine AWP.skip ?_
            refine AWP.region ?_
            refine AOps.step rfl rfl rfl (AOp.add64 rfl rfl rfl (by omega) (by omega)) ?_
            refine AOps.step rfl rfl rfl (AOp.moveD rfl rfl) ?_
            refine AOps.nil ?_
            refine ⟨k + 1, (by omega), (by dsimp only; omega), Sub.less ⟨(SLe.of_eq rfl), SLe.refl _, SLe.refl _, SLe.refl _, SLe.refl _, SLe.refl _, SLe.refl _, trivial⟩ (row_same (by first | (rw [HA]; done) | (rw [HA, List.map_append]; rfl)))⟩
        · replace g12 := of_decide_eq_false g12
          have HA := addN_f1 (kind := kind) (E := outRK kind l i k) g12
          rw [HN] at HA
          refine AOps.pass ⟨46, rfl, .inl ⟨_, rfl, rfl⟩⟩ rfl rfl ?_
          refine AOps.pass ⟨46, rfl, .inl ⟨_, rfl, rfl⟩⟩ rfl rfl ?_
          refine AOps.pass ⟨46, rfl, .inl ⟨_, rfl, rfl⟩⟩ rfl rfl ?_
          refine AOps.pass ⟨46, rfl, .inl ⟨_, rfl, rfl⟩⟩ rfl rfl ?_
          refine AOps.step rfl rfl rfl (AOp.pickF rfl rfl rfl) ?_
          refine AOps.nil ?_
          refine AWP.cond rfl (fun h => nomatch h) (fun _ => ?_)
          refine AWP.skip ?_
          refine AWP.region ?_
          refine AOps.step rfl rfl rfl (AOp.add64 rfl rfl rfl (by omega) (by omega)) ?_
          refine AOps.step rfl rfl rfl (AOp.moveD rfl rfl) ?_
          refine AOps.nil ?_
          refine ⟨k + 1, (by omega), (by dsimp only; omega), Sub.less ⟨(SLe.of_eq rfl), SLe.refl _, SLe.refl _, SLe.refl _, SLe.refl _, SLe.refl _, SLe.refl _, trivial⟩ (row_same (by first | (rw [HA]; done) | (rw [HA, List.map_append]; rfl)))⟩
      · replace h11 := of_decide_eq_false h11
        obtain rfl : k = 36 := by omega
        have hol := outRK_len kind l i 36
        refine AWP.exit ?_
        refine AWP.seq ?_
        refine AWP.region ?_
        refine AOps.step rfl rfl rfl (AOp.moveD rfl rfl) ?_
        refine AOps.step rfl rfl rfl (AOp.add64 rfl rfl rfl (by omega) (by omega)) ?_
        refine AOps.step rfl rfl rfl (AOp.moveD rfl rfl) ?_
        refine AOps.step rfl rfl rfl (AOp.lenStr rfl st_9 rfl) ?_
        rw [bStr_size]
        refine AOps.step rfl rfl rfl (AOp.lss rfl rfl rfl) ?_
        refine AOps.nil ?_
        refine AWP.cond rfl (fun h14 => ?_) (fun h14 => ?_)
        · replace h14 := of_decide_eq_true h14
          have hp : i + 1 < l.length := by omega
          have HN := outR_T kind l hp
          refine AWP.seq ?_
          refine AWP.draw (by kernel_rfl) (by kernel_rfl) ?_
          refine DRun.step rfl rfl rfl (AOp.moveD rfl rfl) ?_
          refine DRun.step rfl rfl rfl (AOp.moveD rfl rfl) ?_
          refine DRun.step rfl rfl rfl (AOp.sliceTo rfl Tryd.underlying9 rfl rfl i rfl (by omega)) ?_
          refine DRun.step rfl rfl rfl (AOp.moveD rfl rfl) ?_
          refine DRun.step rfl rfl rfl (AOp.moveD rfl rfl) ?_
          refine DRun.step rfl rfl rfl (AOp.add64 rfl rfl rfl (by omega) (by omega)) ?_
          refine DRun.step rfl rfl rfl (AOp.moveD rfl rfl) ?_
          refine DRun.step rfl rfl rfl (AOp.add64 rfl rfl rfl (by omega) (by omega)) ?_
          refine DRun.step rfl rfl rfl (AOp.sliceMid rfl Tryd.underlying9 rfl rfl rfl (i + 1) (i + 2) rfl rfl (by omega) (by omega)) ?_
          rw [show i + 2 - (i + 1) = i + 1 + 1 - (i + 1) by omega, cut_one hp]
          refine DRun.step rfl rfl rfl (AOp.cat rfl rfl rfl (by simp only [List.length_take, List.length_cons, List.length_nil]; omega)) ?_
          refine DRun.step rfl rfl rfl (AOp.moveD rfl rfl) ?_
          refine DRun.step rfl rfl rfl (AOp.moveD rfl rfl) ?_
          refine DRun.step rfl rfl rfl (AOp.moveD rfl rfl) ?_
          refine DRun.step rfl rfl rfl (AOp.add64 rfl rfl rfl (by omega) (by omega)) ?_
          refine DRun.step rfl rfl rfl (AOp.sliceMid rfl Tryd.underlying9 rfl rfl rfl i (i + 1) rfl rfl (by omega) (by omega)) ?_
          rw [cut_one hlt]
          refine DRun.step rfl rfl rfl (AOp.cat rfl rfl rfl (by simp only [List.length_append, List.length_take, List.length_cons, List.length_nil]; omega)) ?_
          refine DRun.step rfl rfl rfl (AOp.moveD rfl rfl) ?_
          refine DRun.step rfl rfl rfl (AOp.moveD rfl rfl) ?_
          refine DRun.step rfl rfl rfl (AOp.add64 rfl rfl rfl (by omega) (by omega)) ?_
          refine DRun.step rfl rfl rfl (AOp.sliceFrom rfl Tryd.underlying9 rfl rfl (i + 2) rfl (by omega)) ?_
          refine DRun.step rfl rfl rfl (AOp.cat rfl rfl rfl (by simp only [List.length_append, List.length_take, List.length_drop, List.length_cons, List.length_nil]; omega)) ?_
          rw [swap_cut hp]
          refine DRun.step rfl rfl rfl (AOp.assignD rfl rfl) ?_
          refine DRun.nil ?_
          refine AWP.seq ?_
          refine AWP.region ?_
          refine AOps.step rfl rfl rfl (AOp.moveD rfl rfl) ?_
          refine AOps.step rfl rfl rfl (AOp.moveD rfl rfl) ?_
          refine AOps.step rfl rfl rfl (AOp.sneq rfl rfl rfl) ?_
          rw [bStr_decn]
          refine AOps.step rfl rfl rfl (AOp.moveD rfl rfl) ?_
          refine AOps.split 86 rfl (fun g15 => ?_) (fun g15 => ?_)
          · replace g15 := of_decide_eq_true g15
            have hne := g15
            refine AOps.step ⟨86, rfl, .inl ⟨_, rfl, rfl⟩⟩ rfl rfl (AOp.moveD rfl rfl) ?_
            refine AOps.step ⟨86, rfl, .inl ⟨_, rfl, rfl⟩⟩ rfl rfl (AOp.moveD rfl rfl) ?_
            refine AOps.step ⟨86, rfl, .inl ⟨_, rfl, rfl⟩⟩ rfl rfl (AOp.call rfl (.cons (ArgOk.rfl' rfl) (.cons (ArgOk.rfl' rfl) .nil)) (c_rCode kind (swapL l i) (by unfold swapL; rw [List.length_set, List.length_set]; omega))) ?_
            refine AOps.step ⟨86, rfl, .inl ⟨_, rfl, rfl⟩⟩ rfl rfl (AOp.eql rfl rfl rfl) ?_
            refine AOps.step rfl rfl rfl (AOp.pickT rfl rfl rfl) ?_
            refine AOps.nil ?_
            refine AWP.cond rfl (fun h16 => ?_) (fun h16 => ?_)
            · replace h16 := of_decide_eq_true h16
              have HA := addN_t (E := outRK kind l i 36) hne h16
              rw [HN] at HA
              refine AWP.region ?_
              refine AOps.step rfl rfl rfl (AOp.moveO rfl rfl) ?_
              refine AOps.step rfl rfl rfl (AOp.moveD rfl rfl) ?_
              refine AOps.step rfl rfl rfl (AOp.buildSlice rfl et_28 (.cons rfl rfl rfl .nil) rfl (by decide)) ?_
              -- append 95
              refine AOps.append rfl rfl rfl rfl et_28 rfl (.head _) rfl (by simp [D.parts]) (by simp; omega) (by simp; omega) ?_
              refine AOps.step rfl rfl rfl (AOp.assignO rfl rfl) ?_
              refine AOps.nil ?_
              refine AWP.region ?_
              refine AOps.step rfl rfl rfl (AOp.add64 rfl rfl rfl (by omega) (by omega)) ?_
              refine AOps.step rfl rfl rfl (AOp.moveD rfl rfl) ?_
              refine AOps.nil ?_
              refine ⟨i + 1, (by omega), (by dsimp only; omega), Sub.less ⟨(SLe.of_eq rfl), SLe.refl _, SLe.refl _, SLe.refl _, SLe.refl _, trivial⟩ (row_same (by first | (rw [HA]; done) | (rw [HA, List.map_append]; rfl)))⟩
            · replace h16 := of_decide_eq_false h16
              have HA := addN_f2 (l := l) (E := outRK kind l i 36) h16
              rw [HN] at HA
              refine AWP.skip ?_
              refine AWP.region ?_
              refine AOps.step rfl rfl rfl (AOp.add64 rfl rfl rfl (by omega) (by omega)) ?_
              refine AOps.step rfl rfl rfl (AOp.moveD rfl rfl) ?_
              refine AOps.nil ?_
              refine ⟨i + 1, (by omega), (by dsimp only; omega), Sub.less ⟨(SLe.of_eq rfl), SLe.refl _, SLe.refl _, SLe.refl _, SLe.refl _, trivial⟩ (row_same (by first | (rw [HA]; done) | (rw [HA, List.map_append]; rfl)))⟩
          · replace g15 := of_decide_eq_false g15
            have HA := addN_f1 (kind := kind) (E := outRK kind l i 36) g15
            rw [HN] at HA
            refine AOps.pass ⟨86, rfl, .inl ⟨_, rfl, rfl⟩⟩ rfl rfl ?_
            refine AOps.pass ⟨86, rfl, .inl ⟨_, rfl, rfl⟩⟩ rfl rfl ?_
            refine AOps.pass ⟨86, rfl, .inl ⟨_, rfl, rfl⟩⟩ rfl rfl ?_
            refine AOps.pass ⟨86, rfl, .inl ⟨_, rfl, rfl⟩⟩ rfl rfl ?_
            refine AOps.step rfl rfl rfl (AOp.pickF rfl rfl rfl) ?_
            refine AOps.nil ?_
            refine AWP.cond rfl (fun h => nomatch h) (fun _ => ?_)
            refine AWP.skip ?_
            refine AWP.region ?_
            refine AOps.step rfl rfl rfl (AOp.add64 rfl rfl rfl (by omega) (by omega)) ?_
            refine AOps.step rfl rfl rfl (AOp.moveD rfl rfl) ?_
            refine AOps.nil ?_
            refine ⟨i + 1, (by omega), (by dsimp only; omega), Sub.less ⟨(SLe.of_eq rfl), SLe.refl _, SLe.refl _, SLe.refl _, SLe.refl _, trivial⟩ (row_same (by first | (rw [HA]; done) | (rw [HA, List.map_append]; rfl)))⟩
        · replace h14 := of_decide_eq_false h14
          have HA := outR_F kind l (i := i) (by omega)
          refine AWP.skip ?_
          refine AWP.region ?_
          refine AOps.step rfl rfl rfl (AOp.add64 rfl rfl rfl (by omega) (by omega)) ?_
          refine AOps.step rfl rfl rfl (AOp.moveD rfl rfl) ?_
          refine AOps.nil ?_
          refine ⟨i + 1, (by omega), (by dsimp only; omega), Sub.less ⟨(SLe.of_eq rfl), SLe.refl _, SLe.refl _, SLe.refl _, SLe.refl _, trivial⟩ (row_same (by first | (rw [HA]; done) | (rw [HA, List.map_append]; rfl)))⟩
    · replace h10 := of_decide_eq_false h10
      obtain rfl : i = l.length := by omega
      have hol := outR_len kind l l.length
      refine AWP.exit ?_
      refine AWP.seq ?_
      refine AWP.region ?_
      refine AOps.step rfl rfl rfl (AOp.moveO rfl rfl) ?_
      -- turns 1
      refine AOps.callX rfl rfl rfl (.cons (SLe.refl _) .nil) ((c_sort (outR kind l l.length) (by omega) 9) 1) ⟨(.head _), trivial⟩ rfl rfl (fun _ h => nomatch h) ?_
      refine AOps.nil ?_
      refine AWP.seq ?_
      refine AWP.region ?_
      refine AOps.step rfl rfl rfl (AOp.moveO rfl rfl) ?_
      -- takes 1
      refine AOps.callX rfl rfl rfl (.cons (SLe.refl _) .nil) ((c_compact (sortS (outR kind l l.length)) (by unfold sortS; rw [List.length_mergeSort]; omega) 9) 1) ⟨(.head _), trivial⟩ rfl rfl (fun _ h => nomatch h) ?_
      refine AOps.step rfl rfl rfl (AOp.assignD rfl rfl) ?_
      refine AOps.step rfl rfl rfl (AOp.assignD rfl rfl) ?_
      refine AOps.nil ?_
      refine AWP.ret ?_
      rw [HF, HS]
      refine ⟨RetD.eq rfl ?_, RetD.eq rfl ?_, trivial⟩
      all_goals (rfl)

set_option maxRecDepth 100000 in
set_option maxHeartbeats 1000000 in
theorem c_eqStr (l : List (List UInt8)) : ACall Tryd.prog 16 [.sl (l.map fldD), .sl (l.map fldD)] (.v (.bool true)) := by
  refine acall_of (n := 26) (ds' := [.v (.bool true)]) Tryd.func16 rfl (by kernel_rfl) rfl [4] rfl rfl ?_
  intro B w0 F0 fr
  refine AWP.bound 0 rfl (fun hbd0 => ?_)
  rw [List.length_map] at hbd0
  refine AWP.seq ?_
  refine AWP.region ?_
  refine AOps.step rfl rfl rfl (AOp.assignD rfl rfl) ?_
  refine AOps.nil ?_
  refine AWP.seq ?_
  refine AWP.seq ?_
  refine AWP.region ?_
  refine AOps.step rfl rfl rfl (AOp.moveD rfl rfl) ?_
  refine AOps.step rfl rfl rfl (AOp.lenSl rfl et_28.ht rfl) ?_
  refine AOps.step rfl rfl rfl (AOp.moveD rfl rfl) ?_
  refine AOps.step rfl rfl rfl (AOp.lenSl rfl et_28.ht rfl) ?_
  refine AOps.step rfl rfl rfl (AOp.neq rfl rfl rfl) ?_
  refine AOps.nil ?_
  refine AWP.cond rfl (fun h1 => ?_) (fun h1 => ?_)
  · replace h1 := of_decide_eq_true h1
    exact absurd rfl h1
  · replace h1 := of_decide_eq_false h1
    refine AWP.skip ?_
    refine AWP.seq ?_
    refine AWP.seq ?_
    refine AWP.region ?_
    refine AOps.step rfl rfl rfl (AOp.moveD rfl rfl) ?_
    refine AOps.step rfl rfl rfl (AOp.lenSl rfl et_28.ht rfl) ?_
    refine AOps.step rfl rfl rfl (AOp.moveD rfl rfl) ?_
    refine AOps.nil ?_
    refine AWP.block ?_
    refine AWP.loop (G := Nat) (fun k => Env.of [(13, .d (.v (.int .i64 (k : Int)))), (0, .d (.sl (l.map fldD))), (1, .d (.sl (l.map fldD))), (12, .d (.v (.int .i64 ((l.map fldD).length : Int))))]) (fun k => []) (fun k => k ≤ l.length) (fun k => l.length - k) 0 (Nat.zero_le _) (Sub.less ⟨(SLe.of_eq rfl), SLe.refl _, SLe.refl _, SLe.refl _, trivial⟩ (fun _ h => h)) ?_
    intro k hk
    refine AWP.seq ?_
    refine AWP.region ?_
    refine AOps.step rfl rfl rfl (AOp.lss rfl rfl rfl) ?_
    refine AOps.nil ?_
    refine AWP.seq ?_
    refine AWP.cond rfl (fun h2 => ?_) (fun h2 => ?_)
    · replace h2 := of_decide_eq_true h2
      rw [List.length_map] at h2
      have hlt : k < l.length := by omega
      refine AWP.skip ?_
      refine AWP.seq ?_
      refine AWP.block ?_
      refine AWP.seq ?_
      refine AWP.region ?_
      refine AOps.step rfl rfl rfl (AOp.moveD rfl rfl) ?_
      refine AOps.step rfl rfl rfl (AOp.assignD rfl rfl) ?_
      refine AOps.nil ?_
      refine AWP.seq ?_
      refine AWP.draw (by kernel_rfl) (by kernel_rfl) ?_
      refine DRun.step rfl rfl rfl (AOp.moveD rfl rfl) ?_
      refine DRun.step rfl rfl rfl (AOp.moveD rfl rfl) ?_
      refine DRun.step rfl rfl rfl (AOp.indexAddr rfl et_28 rfl rfl k rfl (at_lst hlt) rfl) ?_
      refine DRun.step rfl rfl rfl (AOp.load rfl sc_9 rfl) ?_
      refine DRun.step rfl rfl rfl (AOp.moveD rfl rfl) ?_
      refine DRun.step rfl rfl rfl (AOp.moveD rfl rfl) ?_
      refine DRun.step rfl rfl rfl (AOp.indexAddr rfl et_28 rfl rfl k rfl (at_lst hlt) rfl) ?_
      refine DRun.step rfl rfl rfl (AOp.load rfl sc_9 rfl) ?_
      refine DRun.step rfl rfl rfl (AOp.sneq rfl rfl rfl) ?_
      refine DRun.nil ?_
      refine AWP.cond rfl (fun h3 => ?_) (fun h3 => ?_)
      · replace h3 := of_decide_eq_true h3
        exact absurd rfl h3
      · replace h3 := of_decide_eq_false h3
        refine AWP.skip ?_
        refine AWP.region ?_
        refine AOps.step rfl rfl rfl (AOp.add64 rfl rfl rfl (by omega) (by omega)) ?_
        refine AOps.step rfl rfl rfl (AOp.moveD rfl rfl) ?_
        refine AOps.nil ?_
        refine ⟨k + 1, (by omega), (by dsimp only; omega), Sub.less ⟨(SLe.of_eq rfl), SLe.refl _, SLe.refl _, SLe.refl _, trivial⟩ (fun _ h => h)⟩
    · replace h2 := of_decide_eq_false h2
      refine AWP.exit ?_
      refine AWP.seq ?_
      refine AWP.region ?_
      refine AOps.step rfl rfl rfl (AOp.assignD rfl rfl) ?_
      refine AOps.nil ?_
      refine AWP.ret ?_
      refine ⟨RetD.eq rfl ?_, trivial⟩
      all_goals (rfl)

set_option maxRecDepth 100000 in
set_option maxHeartbeats 1000000 in
theorem lawCodes (kind : Int) (b l : List UInt8) (hb : b.length ≤ 9223372036854775807) (hl : l.length ≤ 9223372036854775807) : ACall Tryd.prog 5 [.v (.int .i64 kind), .v (.string (bStr b)), .v (.string (bStr l))] (.v (.bool true)) := by
  refine acall_of (n := 65) (ds' := [.v (.bool true)]) Tryd.func5 rfl (by kernel_rfl) rfl [6] rfl rfl ?_
  intro B w0 F0 fr
  refine AWP.seq ?_
  refine AWP.region ?_
  refine AOps.step rfl rfl rfl (AOp.assignD rfl rfl) ?_
  refine AOps.nil ?_
  refine AWP.seq ?_
  refine AWP.region ?_
  refine AOps.step rfl rfl rfl (AOp.moveD rfl rfl) ?_
  refine AOps.step rfl rfl rfl (AOp.moveD rfl rfl) ?_
  refine AOps.step rfl rfl rfl (AOp.call rfl (.cons (ArgOk.rfl' rfl) (.cons (ArgOk.rfl' rfl) .nil)) (c_pDigit kind b hb)) ?_
  refine AOps.step rfl rfl rfl (AOp.moveD rfl rfl) ?_
  refine AOps.step rfl rfl rfl (AOp.extract rfl rfl rfl) ?_
  refine AOps.step rfl rfl rfl (AOp.extract rfl rfl rfl) ?_
  refine AOps.step rfl rfl rfl (AOp.assignD rfl rfl) ?_
  refine AOps.step rfl rfl rfl (AOp.assignD rfl rfl) ?_
  refine AOps.nil ?_
  refine AWP.seq ?_
  refine AWP.region ?_
  refine AOps.step rfl rfl rfl (AOp.moveD rfl rfl) ?_
  refine AOps.step rfl rfl rfl (AOp.moveD rfl rfl) ?_
  refine AOps.step rfl rfl rfl (AOp.call rfl (.cons (ArgOk.rfl' rfl) (.cons (ArgOk.rfl' rfl) .nil)) (c_rDigit kind b hb)) ?_
  refine AOps.step rfl rfl rfl (AOp.moveD rfl rfl) ?_
  refine AOps.step rfl rfl rfl (AOp.extract rfl rfl rfl) ?_
  refine AOps.step rfl rfl rfl (AOp.extract rfl rfl rfl) ?_
  refine AOps.step rfl rfl rfl (AOp.assignD rfl rfl) ?_
  refine AOps.step rfl rfl rfl (AOp.assignD rfl rfl) ?_
  refine AOps.nil ?_
  refine AWP.seq ?_
  refine AWP.seq ?_
  refine AWP.region ?_
  refine AOps.step rfl rfl rfl (AOp.moveD rfl rfl) ?_
  refine AOps.step rfl rfl rfl (AOp.moveD rfl rfl) ?_
  refine AOps.step rfl rfl rfl (AOp.neq rfl rfl rfl) ?_
  refine AOps.step rfl rfl rfl (AOp.moveD rfl rfl) ?_
  refine AOps.split 28 rfl (fun g1 => ?_) (fun g1 => ?_)
  · replace g1 := of_decide_eq_true g1
    exact absurd rfl g1
  · replace g1 := of_decide_eq_false g1
    refine AOps.step ⟨28, rfl, .inl ⟨_, rfl, rfl⟩⟩ rfl rfl (AOp.moveD rfl rfl) ?_
    refine AOps.step ⟨28, rfl, .inl ⟨_, rfl, rfl⟩⟩ rfl rfl (AOp.moveD rfl rfl) ?_
    refine AOps.step ⟨28, rfl, .inl ⟨_, rfl, rfl⟩⟩ rfl rfl (AOp.sneq rfl rfl rfl) ?_
    refine AOps.step rfl rfl rfl (AOp.pickF rfl rfl rfl) ?_
    refine AOps.step rfl rfl rfl (AOp.moveD rfl rfl) ?_
    refine AOps.split 33 rfl (fun g2 => ?_) (fun g2 => ?_)
    · replace g2 := of_decide_eq_true g2
      exact absurd rfl g2
    · replace g2 := of_decide_eq_false g2
      refine AOps.step ⟨33, rfl, .inl ⟨_, rfl, rfl⟩⟩ rfl rfl (AOp.moveD rfl rfl) ?_
      refine AOps.step ⟨33, rfl, .inl ⟨_, rfl, rfl⟩⟩ rfl rfl (AOp.moveD rfl rfl) ?_
      refine AOps.step ⟨33, rfl, .inl ⟨_, rfl, rfl⟩⟩ rfl rfl (AOp.call rfl (.cons (ArgOk.rfl' rfl) (.cons (ArgOk.rfl' rfl) .nil)) (c_pCode kind l hl)) ?_
      refine AOps.step ⟨33, rfl, .inl ⟨_, rfl, rfl⟩⟩ rfl rfl (AOp.moveD rfl rfl) ?_
      refine AOps.step ⟨33, rfl, .inl ⟨_, rfl, rfl⟩⟩ rfl rfl (AOp.moveD rfl rfl) ?_
      refine AOps.step ⟨33, rfl, .inl ⟨_, rfl, rfl⟩⟩ rfl rfl (AOp.call rfl (.cons (ArgOk.rfl' rfl) (.cons (ArgOk.rfl' rfl) .nil)) (c_rCode kind l hl)) ?_
      refine AOps.step ⟨33, rfl, .inl ⟨_, rfl, rfl⟩⟩ rfl rfl (AOp.neq rfl rfl rfl) ?_
      refine AOps.step rfl rfl rfl (AOp.pickF rfl rfl rfl) ?_
      refine AOps.nil ?_
      refine AWP.cond rfl (fun h3 => ?_) (fun h3 => ?_)
      · replace h3 := of_decide_eq_true h3
        exact absurd rfl h3
      · replace h3 := of_decide_eq_false h3
        refine AWP.skip ?_
        refine AWP.seq ?_
        refine AWP.region ?_
        refine AOps.step rfl rfl rfl (AOp.moveD rfl rfl) ?_
        refine AOps.step rfl rfl rfl (AOp.moveD rfl rfl) ?_
        refine AOps.step rfl rfl rfl (AOp.call rfl (.cons (ArgOk.rfl' rfl) (.cons (ArgOk.rfl' rfl) .nil)) (c_pNear kind l hl)) ?_
        refine AOps.step rfl rfl rfl (AOp.moveD rfl rfl) ?_
        refine AOps.step rfl rfl rfl (AOp.extract rfl rfl rfl) ?_
        refine AOps.step rfl rfl rfl (AOp.extract rfl rfl rfl) ?_
        refine AOps.step rfl rfl rfl (AOp.assignD rfl rfl) ?_
        refine AOps.step rfl rfl rfl (AOp.assignD rfl rfl) ?_
        refine AOps.nil ?_
        refine AWP.seq ?_
        refine AWP.region ?_
        refine AOps.step rfl rfl rfl (AOp.moveD rfl rfl) ?_
        refine AOps.step rfl rfl rfl (AOp.moveD rfl rfl) ?_
        refine AOps.step rfl rfl rfl (AOp.call rfl (.cons (ArgOk.rfl' rfl) (.cons (ArgOk.rfl' rfl) .nil)) (c_rNear kind l hl)) ?_
        refine AOps.step rfl rfl rfl (AOp.moveD rfl rfl) ?_
        refine AOps.step rfl rfl rfl (AOp.extract rfl rfl rfl) ?_
        refine AOps.step rfl rfl rfl (AOp.extract rfl rfl rfl) ?_
        refine AOps.step rfl rfl rfl (AOp.assignD rfl rfl) ?_
        refine AOps.step rfl rfl rfl (AOp.assignD rfl rfl) ?_
        refine AOps.nil ?_
        refine AWP.seq ?_
        refine AWP.region ?_
        refine AOps.step rfl rfl rfl (AOp.moveD rfl rfl) ?_
        refine AOps.step rfl rfl rfl (AOp.moveD rfl rfl) ?_
        refine AOps.step rfl rfl rfl (AOp.eql rfl rfl rfl) ?_
        refine AOps.step rfl rfl rfl (AOp.moveD rfl rfl) ?_
        refine AOps.split 57 rfl (fun g4 => ?_) (fun g4 => ?_)
        · replace g4 := of_decide_eq_true g4
          refine AOps.step ⟨57, rfl, .inl ⟨_, rfl, rfl⟩⟩ rfl rfl (AOp.moveD rfl rfl) ?_
          refine AOps.step ⟨57, rfl, .inl ⟨_, rfl, rfl⟩⟩ rfl rfl (AOp.moveD rfl rfl) ?_
          refine AOps.step ⟨57, rfl, .inl ⟨_, rfl, rfl⟩⟩ rfl rfl (AOp.call rfl (.cons (ArgOk.rfl' rfl) (.cons (ArgOk.rfl' rfl) .nil)) (c_eqStr _)) ?_
          refine AOps.step rfl rfl rfl (AOp.pickT rfl rfl rfl) ?_
          refine AOps.step rfl rfl rfl (AOp.moveD rfl rfl) ?_
          refine AOps.step ⟨62, rfl, .inl ⟨_, rfl, rfl⟩⟩ rfl rfl (AOp.call rfl .nil c_awake) ?_
          refine AOps.step rfl rfl rfl (AOp.pickT rfl rfl rfl) ?_
          refine AOps.step rfl rfl rfl (AOp.assignD rfl rfl) ?_
          refine AOps.nil ?_
          refine AWP.ret ?_
          refine ⟨RetD.eq rfl ?_, trivial⟩
          all_goals (rfl)
        · replace g4 := of_decide_eq_false g4
          exact absurd rfl g4

end Go.Proofs.YtajghehicmlajaaDoor


namespace Go.Proofs.YtajghehicmlajaaDoor
open Go.RowKit
set_option linter.unusedVariables false

/-! Types. -/
namespace TyJ8
theorem et_28 : ElemTy Tryd.prog 28 9 1 16 (.string ⟨#[]⟩) := ⟨by kernel_rfl, by kernel_rfl, by kernel_rfl, by decide⟩
theorem sc_9 : Scal Tryd.prog 9 := .of (by kernel_rfl)
theorem st_9 : Tryd.prog.underlying 9 = some .string := by kernel_rfl
end TyJ8
open TyJ8


open Go.Lib
def dTo (a b : List UInt8) : Nat → Nat
  | 0 => 0
  | k + 1 => dTo a b k + if at0 a k ≠ at0 b k then 1 else 0
theorem dTo_le (a b : List UInt8) : ∀ k, dTo a b k ≤ k
  | 0 => Nat.le_refl _
  | k + 1 => by have := dTo_le a b k; show dTo a b k + _ ≤ k + 1; split <;> omega
theorem dTo_0 {a b : List UInt8} : ∀ {k : Nat}, dTo a b k = 0 → ∀ j, j < k → at0 a j = at0 b j
  | 0, _, j, hj => by omega
  | k + 1, h, j, hj => by
    have h1 : dTo a b k + (if at0 a k ≠ at0 b k then 1 else 0) = 0 := h
    by_cases hn : at0 a k ≠ at0 b k
    · rw [if_pos hn] at h1; omega
    · rw [if_neg hn] at h1
      by_cases hjk : j = k
      · subst hjk; exact Decidable.not_not.1 hn
      · exact dTo_0 (by omega) j (by omega)
theorem dTo_1 {a b : List UInt8} : ∀ {k : Nat}, dTo a b k = 1 → ∃ i, i < k ∧ at0 a i ≠ at0 b i ∧ ∀ j, j < k → j ≠ i → at0 a j = at0 b j
  | 0, h => by cases h
  | k + 1, h => by
    have h1 : dTo a b k + (if at0 a k ≠ at0 b k then 1 else 0) = 1 := h
    by_cases hn : at0 a k ≠ at0 b k
    · rw [if_pos hn] at h1
      exact ⟨k, by omega, hn, fun j hj hne => dTo_0 (k := k) (by omega) j (by omega)⟩
    · rw [if_neg hn] at h1
      obtain ⟨i, hi, h2, h3⟩ := dTo_1 (k := k) (by omega)
      refine ⟨i, by omega, h2, fun j hj hne => ?_⟩
      by_cases hjk : j = k
      · subst hjk; exact Decidable.not_not.1 hn
      · exact h3 j (by omega) hne
def diffN (a b : List UInt8) : Int := if a.length ≠ b.length then -1 else (dTo a b a.length : Int)
theorem qTo_pos (l : List UInt8) (hl : ∀ c ∈ l, isSgn c = true) : ∀ k, k ≤ l.length → 1 ≤ qTo l k ∧ qTo l k ≤ 36
  | 0, _ => by unfold qTo; simp
  | k + 1, h => by
    have h1 := qTo_pos l hl k (by omega)
    have h2 := sg_pos.2 (hl (at0 l k) (by rw [at0_eq (show k < l.length by omega)]; exact List.getElem_mem _))
    rw [q_next (show k < l.length by omega)]
    split <;> omega
theorem q_inj {p1 p2 v1 v2 : Int} (h1 : 1 ≤ p1 ∧ p1 ≤ 36) (h2 : 1 ≤ p2 ∧ p2 ≤ 36) (hv1 : 0 ≤ v1 ∧ v1 < 36) (hv2 : 0 ≤ v2 ∧ v2 < 36) (h : (p1 = p2 ∧ v1 ≠ v2) ∨ (p1 ≠ p2 ∧ v1 = v2)) :
    2 * (if (p1 + v1) % 36 = 0 then 36 else (p1 + v1) % 36) % 37 ≠ 2 * (if (p2 + v2) % 36 = 0 then 36 else (p2 + v2) % 36) % 37 := by
  split <;> split <;> omega
theorem q_apart {a b : List UInt8} {n i : Nat} (ha : a.length = n) (hb : b.length = n) (sa : ∀ c ∈ a, isSgn c = true) (sb : ∀ c ∈ b, isSgn c = true) (hi : i < n) (hne : at0 a i ≠ at0 b i) (heq : ∀ j, j < n → j ≠ i → at0 a j = at0 b j) :
    ∀ k, k ≤ n → if k ≤ i then qTo a k = qTo b k else qTo a k ≠ qTo b k
  | 0, _ => by rw [if_pos (Nat.zero_le _)]; rfl
  | k + 1, hk => by
    have ih := q_apart ha hb sa sb hi hne heq k (by omega)
    have pa := qTo_pos a sa k (by omega)
    have pb := qTo_pos b sb k (by omega)
    have ga := sa (at0 a k) (by rw [at0_eq (show k < a.length by omega)]; exact List.getElem_mem _)
    have gb := sb (at0 b k) (by rw [at0_eq (show k < b.length by omega)]; exact List.getElem_mem _)
    have va : 0 ≤ indexByte sgnL (at0 a k) ∧ indexByte sgnL (at0 a k) < 36 := ⟨sg_pos.2 ga, (sg_all _).2.2.1⟩
    have vb : 0 ≤ indexByte sgnL (at0 b k) ∧ indexByte sgnL (at0 b k) < 36 := ⟨sg_pos.2 gb, (sg_all _).2.2.1⟩
    rw [q_next (show k < a.length by omega), q_next (show k < b.length by omega)]
    by_cases h1 : k < i
    · rw [if_pos (by omega)] at ih
      rw [if_pos (by omega), ih, heq k (by omega) (by omega)]
    · rw [if_neg (by omega)]
      by_cases h2 : k = i
      · rw [if_pos (by omega)] at ih
        subst h2
        exact q_inj pa pb va vb (.inl ⟨ih, fun e => hne (idx_inj ga e)⟩)
      · rw [if_neg (by omega)] at ih
        exact q_inj pa pb va vb (.inr ⟨ih, by rw [heq k (by omega) h2]⟩)
theorem sum_apart {f g : Nat → Int} {n i : Nat} (hi : i < n) (heq : ∀ j, j < n → j ≠ i → f j = g j) : ∀ k, k ≤ n → sumTo f k - sumTo g k = if k ≤ i then 0 else f i - g i
  | 0, _ => by rw [if_pos (Nat.zero_le _)]; rfl
  | k + 1, hk => by
    have ih := sum_apart hi heq k (by omega)
    have e1 : sumTo f (k + 1) = sumTo f k + f k := rfl
    have e2 : sumTo g (k + 1) = sumTo g k + g k := rfl
    rw [e1, e2]
    by_cases h1 : k < i
    · have := heq k (by omega) (by omega)
      rw [if_pos (by omega)] at ih ⊢
      omega
    · by_cases h2 : k = i
      · subst h2
        rw [if_pos (Nat.le_refl _)] at ih
        rw [if_neg (by omega)]
        omega
      · have := heq k (by omega) h2
        rw [if_neg (by omega)] at ih ⊢
        omega
theorem code_ok {kind : Int} {l : List UInt8} (h : codeF kind l = 0) : kindB kind = true ∧ l.length ≠ 0 ∧ bodyB kind (cBody l) = true ∧ cSign l = chkS kind (cBody l) := by
  unfold codeF at h
  split at h
  · omega
  · split at h
    · omega
    · split at h
      · omega
      · split at h
        · omega
        · split at h
          · omega
          · rename_i h1 h2 h3 h4 h5
            exact ⟨by simpa using h1, h2, by simpa using h3, of_decide_eq_true (by simpa [fitsB] using h5)⟩
theorem cBody_at {l : List UInt8} {i : Nat} (h : i < l.length - 1) : at0 (cBody l) i = at0 l i := by
  unfold cBody at0
  rw [List.getD_eq_getElem?_getD, List.getD_eq_getElem?_getD, List.getElem?_take, if_pos h]
theorem cBody_len (l : List UInt8) : (cBody l).length = l.length - 1 := by unfold cBody; rw [List.length_take]; omega
/-- Right codes, but for works, are apart. -/
theorem apart {kind : Int} {s t : List UInt8} (hs : codeF kind s = 0) (ht : codeF kind t = 0) (hk : kind ≠ 1) : diffN s t ≠ 1 := by
  obtain ⟨_, s0, sb, sc⟩ := code_ok hs
  obtain ⟨_, t0, tb, tc⟩ := code_ok ht
  have ls := cBody_len s
  have lt := cBody_len t
  intro hd
  unfold diffN at hd
  split at hd
  · omega
  rename_i hlen
  obtain ⟨i, hi, hne, heq⟩ := dTo_1 (a := s) (b := t) (k := s.length) (by omega)
  by_cases hil : i = s.length - 1
  · have hbody : cBody s = cBody t := by
      apply List.ext_getElem
      · omega
      · intro j h1 h2
        have := heq j (by omega) (by omega)
        rw [← cBody_at (l := s) (by omega), ← cBody_at (l := t) (by omega), at0_eq h1, at0_eq h2] at this
        exact this
    apply hne
    have e1 : at0 s i = cSign s := by unfold cSign; rw [hil]
    have e2 : at0 t i = cSign t := by unfold cSign; rw [hil]; congr 1; omega
    rw [e1, e2, sc, tc, hbody]
  · have hsign : chk kind (cBody s) = chk kind (cBody t) := by
      have h1 : cSign s = cSign t := by
        unfold cSign
        rw [show t.length - 1 = s.length - 1 by omega]
        exact heq _ (by omega) (fun e => hil e.symm)
      rw [← chkS_idx, ← chkS_idx, ← sc, ← tc, h1]
    have hne2 : at0 (cBody s) i ≠ at0 (cBody t) i := by rw [cBody_at (by omega), cBody_at (by omega)]; exact hne
    have heq2 : ∀ j, j < s.length - 1 → j ≠ i → at0 (cBody s) j = at0 (cBody t) j := fun j hj hji => by rw [cBody_at (by omega), cBody_at (by omega)]; exact heq j (by omega) hji
    by_cases h2 : kind = 2
    · subst h2
      obtain ⟨bs, gs⟩ := body2 sb
      obtain ⟨bt, gt⟩ := body2 tb
      have h3 := q_apart (n := 10) bs bt gs gt (by omega) hne2 (fun j hj hji => heq2 j (by omega) hji) 10 (by omega)
      rw [if_neg (by omega)] at h3
      have p1 := qTo_pos _ gs 10 (by omega)
      have p2 := qTo_pos _ gt 10 (by omega)
      unfold chk at hsign
      rw [if_neg (by decide), if_pos rfl, if_neg (by decide), if_pos rfl] at hsign
      omega
    · obtain ⟨bs, gs⟩ := body3 hk h2 sb
      obtain ⟨bt, gt⟩ := body3 hk h2 tb
      have h3 := sum_apart (f := eTerm (cBody s)) (g := eTerm (cBody t)) (n := 12) (i := i) (by omega) (fun j hj hji => by unfold eTerm; rw [heq2 j (by omega) hji]) 12 (by omega)
      rw [if_neg (by omega)] at h3
      have d1 := dv_bound (gs (at0 (cBody s) i) (by rw [at0_eq (by omega)]; exact List.getElem_mem _))
      have d2 := dv_bound (gt (at0 (cBody t) i) (by rw [at0_eq (by omega)]; exact List.getElem_mem _))
      have d3 : dv (at0 (cBody s) i) ≠ dv (at0 (cBody t) i) := fun e => hne2 (UInt8.toNat_inj.1 (by unfold dv at e; omega))
      have b1 := eSum_bound hk h2 sb 12 (by omega)
      have b2 := eSum_bound hk h2 tb 12 (by omega)
      unfold chk at hsign
      rw [if_neg hk, if_neg h2, if_neg hk, if_neg h2] at hsign
      unfold eTerm at h3
      have hw : (i : Int) % 2 = 0 ∨ (i : Int) % 2 = 1 := by omega
      rcases hw with hw | hw
      · rw [hw] at h3
        simp only [Int.zero_mul, Int.add_zero, Int.one_mul] at h3
        unfold eTerm at hsign
        omega
      · rw [hw] at h3
        simp only [Int.one_mul, show (1 : Int) + 2 = 3 by decide] at h3
        unfold eTerm at hsign
        omega
theorem code_made {kind : Int} {b : List UInt8} (hk : kindB kind = true) (hb : bodyB kind b = true) : codeF kind (b ++ [chkS kind b]) = 0 := by
  have hl : (b ++ [chkS kind b]).length = b.length + 1 := by simp
  have e1 : cBody (b ++ [chkS kind b]) = b := by unfold cBody; rw [hl]; simp
  have e2 : cSign (b ++ [chkS kind b]) = chkS kind b := by unfold cSign at0; rw [hl]; simp [List.getD_eq_getElem?_getD]
  rw [codeF_f hk (by omega) (by rw [e1]; exact hb) (by rw [e2]; exact chkS_among kind b), e1, e2, if_neg]
  unfold fitsB
  simp
theorem compact_mem {α : Type} [Inhabited α] [DecidableEq α] {l : List α} {x : α} (h : x ∈ compact l) : x ∈ l := by
  unfold compact compactUpTo at h
  obtain ⟨m, hm, rfl⟩ := List.mem_map.1 h
  have h1 := List.mem_range.1 (List.mem_filter.1 hm).1
  simp [h1]
theorem near_mem {kind : Int} {l s : List UInt8} (h : s ∈ nearS kind l) : codeF kind s = 0 := by
  unfold nearS at h
  split at h
  · unfold nearL at h
    have h1 := compact_mem h
    unfold sortS at h1
    have h2 := (List.mergeSort_perm _ _).mem_iff.1 h1
    have h3 := (List.mem_filter.1 h2).2
    unfold okN at h3
    rw [Bool.and_eq_true, decide_eq_true_eq, decide_eq_true_eq] at h3
    exact h3.2
  · cases h
theorem dig_zero {kind : Int} {l : List UInt8} (h : digF kind l = 0) : kindB kind = true ∧ bodyB kind l = true := by
  unfold digF at h
  split at h
  · omega
  · split at h
    · omega
    · rename_i h1 h2
      exact ⟨by simpa using h1, by simpa using h2⟩
theorem d_next1 {a b : List UInt8} {k : Nat} (h : ((at0 a k).toNat : Int) ≠ (at0 b k).toNat) : ((dTo a b k : Nat) : Int) + 1 = ((dTo a b (k + 1) : Nat) : Int) := by
  have : dTo a b (k + 1) = dTo a b k + 1 := by show dTo a b k + (if _ then 1 else 0) = _; rw [if_pos (fun e => h (by rw [e]))]
  rw [this]; rfl
theorem d_next0 {a b : List UInt8} {k : Nat} (h : ¬ ((at0 a k).toNat : Int) ≠ (at0 b k).toNat) : dTo a b (k + 1) = dTo a b k := by
  show dTo a b k + (if _ then 1 else 0) = _
  rw [if_neg (fun e => e (UInt8.toNat_inj.1 (by omega)))]; rfl


set_option maxRecDepth 100000 in
set_option maxHeartbeats 1000000 in
theorem c_diff (a b : List UInt8) (ha : a.length ≤ 9223372036854775807) : ACall Tryd.prog 12 [.v (.string (bStr a)), .v (.string (bStr b))] (.v (.int .i64 (diffN a b))) := by
  refine acall_of (n := 28) (ds' := [.v (.int .i64 (diffN a b))]) Tryd.func12 rfl (by kernel_rfl) rfl [4] rfl rfl ?_
  intro B w0 F0 fr
  refine AWP.seq ?_
  refine AWP.region ?_
  refine AOps.step rfl rfl rfl (AOp.assignD rfl rfl) ?_
  refine AOps.nil ?_
  refine AWP.seq ?_
  refine AWP.seq ?_
  refine AWP.region ?_
  refine AOps.step rfl rfl rfl (AOp.moveD rfl rfl) ?_
  refine AOps.step rfl rfl rfl (AOp.lenStr rfl st_9 rfl) ?_
  rw [bStr_size]
  refine AOps.step rfl rfl rfl (AOp.moveD rfl rfl) ?_
  refine AOps.step rfl rfl rfl (AOp.lenStr rfl st_9 rfl) ?_
  rw [bStr_size]
  refine AOps.step rfl rfl rfl (AOp.neq rfl rfl rfl) ?_
  refine AOps.nil ?_
  refine AWP.cond rfl (fun h1 => ?_) (fun h1 => ?_)
  · replace h1 := of_decide_eq_true h1
    have HR : diffN a b = -1 := if_pos (by omega)
    refine AWP.seq ?_
    refine AWP.region ?_
    refine AOps.step rfl rfl rfl (AOp.assignD rfl rfl) ?_
    refine AOps.nil ?_
    refine AWP.ret ?_
    refine ⟨RetD.eq rfl ?_, trivial⟩
    all_goals (rw [HR])
  · replace h1 := of_decide_eq_false h1
    have hab : a.length = b.length := by omega
    have HR : diffN a b = (dTo a b a.length : Int) := if_neg (by omega)
    refine AWP.skip ?_
    refine AWP.seq ?_
    refine AWP.region ?_
    refine AOps.step rfl rfl rfl (AOp.assignD rfl rfl) ?_
    refine AOps.nil ?_
    refine AWP.seq ?_
    refine AWP.seq ?_
    refine AWP.region ?_
    refine AOps.step rfl rfl rfl (AOp.moveD rfl rfl) ?_
    refine AOps.step rfl rfl rfl (AOp.lenStr rfl st_9 rfl) ?_
    rw [bStr_size]
    refine AOps.step rfl rfl rfl (AOp.moveD rfl rfl) ?_
    refine AOps.nil ?_
    refine AWP.block ?_
    refine AWP.loop (G := Nat) (fun k => Env.of [(14, .d (.v (.int .i64 (k : Int)))), (13, .d (.v (.int .i64 (a.length : Int)))), (0, .d (.v (.string (bStr a)))), (1, .d (.v (.string (bStr b)))), (5, .d (.v (.int .i64 (dTo a b k : Int))))]) (fun k => []) (fun k => k ≤ a.length) (fun k => a.length - k) 0 (Nat.zero_le _) (Sub.less ⟨(SLe.of_eq rfl), SLe.refl _, SLe.refl _, SLe.refl _, (SLe.of_eq rfl), trivial⟩ (fun _ h => h)) ?_
    intro k hk
    refine AWP.seq ?_
    refine AWP.region ?_
    refine AOps.step rfl rfl rfl (AOp.lss rfl rfl rfl) ?_
    refine AOps.nil ?_
    refine AWP.seq ?_
    refine AWP.cond rfl (fun h2 => ?_) (fun h2 => ?_)
    · replace h2 := of_decide_eq_true h2
      have hlt : k < a.length := by omega
      have hdl := dTo_le a b k
      refine AWP.skip ?_
      refine AWP.seq ?_
      refine AWP.block ?_
      refine AWP.seq ?_
      refine AWP.region ?_
      refine AOps.step rfl rfl rfl (AOp.moveD rfl rfl) ?_
      refine AOps.step rfl rfl rfl (AOp.assignD rfl rfl) ?_
      refine AOps.nil ?_
      refine AWP.seq ?_
      refine AWP.draw (by kernel_rfl) (by kernel_rfl) ?_
      refine DRun.step rfl rfl rfl (AOp.moveD rfl rfl) ?_
      refine DRun.step rfl rfl rfl (AOp.moveD rfl rfl) ?_
      refine DRun.step rfl rfl rfl (AOp.indexStr rfl st_9 rfl rfl k rfl (at0_s hlt)) ?_
      refine DRun.step rfl rfl rfl (AOp.moveD rfl rfl) ?_
      refine DRun.step rfl rfl rfl (AOp.moveD rfl rfl) ?_
      refine DRun.step rfl rfl rfl (AOp.indexStr rfl st_9 rfl rfl k rfl (at0_s (by omega))) ?_
      refine DRun.step rfl rfl rfl (AOp.neq rfl rfl rfl) ?_
      refine DRun.nil ?_
      refine AWP.cond rfl (fun h3 => ?_) (fun h3 => ?_)
      · replace h3 := of_decide_eq_true h3
        have HN := d_next1 h3
        refine AWP.region ?_
        refine AOps.step rfl rfl rfl (AOp.moveD rfl rfl) ?_
        refine AOps.step rfl rfl rfl (AOp.add64 rfl rfl rfl (by omega) (by omega)) ?_
        refine AOps.step rfl rfl rfl (AOp.assignD rfl rfl) ?_
        refine AOps.nil ?_
        refine AWP.region ?_
        refine AOps.step rfl rfl rfl (AOp.add64 rfl rfl rfl (by omega) (by omega)) ?_
        refine AOps.step rfl rfl rfl (AOp.moveD rfl rfl) ?_
        refine AOps.nil ?_
        refine ⟨k + 1, (by omega), (by dsimp only; omega), Sub.less ⟨(SLe.of_eq rfl), SLe.refl _, SLe.refl _, SLe.refl _, (SLe.of_eq (by first | (rw [← HN]; rfl) | (rw [HN]; rfl))), trivial⟩ (fun _ h => h)⟩
      · replace h3 := of_decide_eq_false h3
        have HN := d_next0 h3
        refine AWP.skip ?_
        refine AWP.region ?_
        refine AOps.step rfl rfl rfl (AOp.add64 rfl rfl rfl (by omega) (by omega)) ?_
        refine AOps.step rfl rfl rfl (AOp.moveD rfl rfl) ?_
        refine AOps.nil ?_
        refine ⟨k + 1, (by omega), (by dsimp only; omega), Sub.less ⟨(SLe.of_eq rfl), SLe.refl _, SLe.refl _, SLe.refl _, (SLe.of_eq (by first | (rw [← HN]; rfl) | (rw [HN]; rfl))), trivial⟩ (fun _ h => h)⟩
    · replace h2 := of_decide_eq_false h2
      obtain rfl : k = a.length := by omega
      refine AWP.exit ?_
      refine AWP.seq ?_
      refine AWP.region ?_
      refine AOps.step rfl rfl rfl (AOp.moveD rfl rfl) ?_
      refine AOps.step rfl rfl rfl (AOp.assignD rfl rfl) ?_
      refine AOps.nil ?_
      refine AWP.ret ?_
      refine ⟨RetD.eq rfl ?_, trivial⟩
      all_goals (rw [HR])

set_option maxRecDepth 100000 in
set_option maxHeartbeats 1000000 in
theorem lawApart (kind : Int) (b : List UInt8) (hb : b.length ≤ 9223372036854775807) : ACall Tryd.prog 4 [.v (.int .i64 kind), .v (.string (bStr b))] (.v (.bool true)) := by
  refine acall_of (n := 62) (ds' := [.v (.bool true)]) Tryd.func4 rfl (by kernel_rfl) rfl [4] rfl rfl ?_
  intro B w0 F0 fr
  refine AWP.seq ?_
  refine AWP.region ?_
  refine AOps.step rfl rfl rfl (AOp.assignD rfl rfl) ?_
  refine AOps.nil ?_
  refine AWP.seq ?_
  refine AWP.seq ?_
  refine AWP.region ?_
  refine AOps.step rfl rfl rfl (AOp.call rfl .nil c_awake) ?_
  refine AOps.step rfl rfl rfl (AOp.not rfl rfl) ?_
  refine AOps.nil ?_
  refine AWP.cond rfl (fun h => nomatch h) (fun _ => ?_)
  refine AWP.skip ?_
  refine AWP.seq ?_
  refine AWP.region ?_
  refine AOps.step rfl rfl rfl (AOp.moveD rfl rfl) ?_
  refine AOps.step rfl rfl rfl (AOp.moveD rfl rfl) ?_
  refine AOps.step rfl rfl rfl (AOp.call rfl (.cons (ArgOk.rfl' rfl) (.cons (ArgOk.rfl' rfl) .nil)) (c_pDigit kind b hb)) ?_
  refine AOps.step rfl rfl rfl (AOp.moveD rfl rfl) ?_
  refine AOps.step rfl rfl rfl (AOp.extract rfl rfl rfl) ?_
  refine AOps.step rfl rfl rfl (AOp.extract rfl rfl rfl) ?_
  refine AOps.step rfl rfl rfl (AOp.assignD rfl rfl) ?_
  refine AOps.step rfl rfl rfl (AOp.assignD rfl rfl) ?_
  refine AOps.nil ?_
  refine AWP.seq ?_
  refine AWP.seq ?_
  refine AWP.region ?_
  refine AOps.step rfl rfl rfl (AOp.moveD rfl rfl) ?_
  refine AOps.step rfl rfl rfl (AOp.neq rfl rfl rfl) ?_
  refine AOps.nil ?_
  refine AWP.cond rfl (fun h1 => ?_) (fun h1 => ?_)
  · replace h1 := of_decide_eq_true h1
    have HS : digS kind b = [] := if_neg h1
    refine AWP.seq ?_
    refine AWP.region ?_
    refine AOps.step rfl rfl rfl (AOp.moveD rfl rfl) ?_
    refine AOps.step rfl rfl rfl (AOp.seql rfl rfl rfl) ?_
    refine AOps.step rfl rfl rfl (AOp.assignD rfl rfl) ?_
    refine AOps.nil ?_
    refine AWP.ret ?_
    refine ⟨RetD.eq rfl ?_, trivial⟩
    all_goals (first | rfl | (rw [HS]; exact congrArg (fun b => D.v (.bool b)) (decide_eq_true rfl)))
  · replace h1 := of_decide_eq_false h1
    obtain ⟨hk, hbo⟩ := dig_zero (Decidable.not_not.1 h1)
    obtain ⟨_, E2⟩ := dig_3 hk hbo
    rw [E2]
    have hbl := body_len hbo
    have hcl : (b ++ [chkS kind b]).length = b.length + 1 := by simp
    have hc0 := code_made hk hbo
    have hn0 := (near_ok (.inl hc0)).1
    refine AWP.skip ?_
    refine AWP.seq ?_
    refine AWP.region ?_
    refine AOps.step rfl rfl rfl (AOp.moveD rfl rfl) ?_
    refine AOps.step rfl rfl rfl (AOp.moveD rfl rfl) ?_
    refine AOps.step rfl rfl rfl (AOp.cat rfl rfl rfl (by simp; omega)) ?_
    refine AOps.step rfl rfl rfl (AOp.assignD rfl rfl) ?_
    refine AOps.nil ?_
    refine AWP.seq ?_
    refine AWP.region ?_
    refine AOps.step rfl rfl rfl (AOp.moveD rfl rfl) ?_
    refine AOps.step rfl rfl rfl (AOp.moveD rfl rfl) ?_
    refine AOps.step rfl rfl rfl (AOp.call rfl (.cons (ArgOk.rfl' rfl) (.cons (ArgOk.rfl' rfl) .nil)) (c_pNear kind (b ++ [chkS kind b]) (by omega))) ?_
    refine AOps.step rfl rfl rfl (AOp.moveD rfl rfl) ?_
    refine AOps.step rfl rfl rfl (AOp.extract rfl rfl rfl) ?_
    refine AOps.step rfl rfl rfl (AOp.extract rfl rfl rfl) ?_
    rw [hn0]
    refine AOps.step rfl rfl rfl (AOp.assignD rfl rfl) ?_
    refine AOps.step rfl rfl rfl (AOp.assignD rfl rfl) ?_
    refine AOps.nil ?_
    refine AWP.seq ?_
    refine AWP.seq ?_
    refine AWP.region ?_
    refine AOps.step rfl rfl rfl (AOp.moveD rfl rfl) ?_
    refine AOps.step rfl rfl rfl (AOp.moveD rfl rfl) ?_
    refine AOps.step rfl rfl rfl (AOp.call rfl (.cons (ArgOk.rfl' rfl) (.cons (ArgOk.rfl' rfl) .nil)) (c_pCode kind (b ++ [chkS kind b]) (by omega))) ?_
    rw [hc0]
    refine AOps.step rfl rfl rfl (AOp.neq rfl rfl rfl) ?_
    refine AOps.step rfl rfl rfl (AOp.moveD rfl rfl) ?_
    refine AOps.split 37 rfl (fun g2 => ?_) (fun g2 => ?_)
    · replace g2 := of_decide_eq_true g2
      exact absurd rfl g2
    · replace g2 := of_decide_eq_false g2
      refine AOps.step ⟨37, rfl, .inl ⟨_, rfl, rfl⟩⟩ rfl rfl (AOp.moveD rfl rfl) ?_
      refine AOps.step ⟨37, rfl, .inl ⟨_, rfl, rfl⟩⟩ rfl rfl (AOp.neq rfl rfl rfl) ?_
      refine AOps.step rfl rfl rfl (AOp.pickF rfl rfl rfl) ?_
      refine AOps.nil ?_
      refine AWP.cond rfl (fun h3 => ?_) (fun h3 => ?_)
      · replace h3 := of_decide_eq_true h3
        exact absurd rfl h3
      · replace h3 := of_decide_eq_false h3
        refine AWP.skip ?_
        refine AWP.seq ?_
        refine AWP.seq ?_
        refine AWP.region ?_
        refine AOps.step rfl rfl rfl (AOp.moveD rfl rfl) ?_
        refine AOps.step rfl rfl rfl (AOp.lenSl rfl et_28.ht rfl) ?_
        refine AOps.step rfl rfl rfl (AOp.moveD rfl rfl) ?_
        refine AOps.nil ?_
        refine AWP.block ?_
        refine AWP.bound 41 rfl (fun hbd => ?_)
        rw [List.length_map] at hbd
        refine AWP.loop (G := Nat) (fun k => Env.of [(43, .d (.v (.int .i64 (k : Int)))), (42, .d (.v (.int .i64 (((nearS kind (b ++ [chkS kind b])).map fldD).length : Int)))), (41, .d (.sl ((nearS kind (b ++ [chkS kind b])).map fldD))), (0, .d (.v (.int .i64 kind))), (7, .d (.v (.string (bStr (b ++ [chkS kind b])))))]) (fun k => []) (fun k => k ≤ (nearS kind (b ++ [chkS kind b])).length) (fun k => (nearS kind (b ++ [chkS kind b])).length - k) 0 (Nat.zero_le _) (Sub.less ⟨(SLe.of_eq rfl), SLe.refl _, SLe.refl _, SLe.refl _, SLe.refl _, trivial⟩ (fun _ h => h)) ?_
        intro k hk
        refine AWP.seq ?_
        refine AWP.region ?_
        refine AOps.step rfl rfl rfl (AOp.lss rfl rfl rfl) ?_
        refine AOps.nil ?_
        refine AWP.seq ?_
        refine AWP.cond rfl (fun h4 => ?_) (fun h4 => ?_)
        · replace h4 := of_decide_eq_true h4
          rw [List.length_map] at h4
          have hlt : k < (nearS kind (b ++ [chkS kind b])).length := by omega
          have hs0 := near_mem (List.getElem_mem hlt)
          have hsl : (nearS kind (b ++ [chkS kind b]))[k].length ≤ 9223372036854775807 := by have := codeF_len (.inl hs0); omega
          refine AWP.skip ?_
          refine AWP.seq ?_
          refine AWP.block ?_
          refine AWP.seq ?_
          refine AWP.region ?_
          refine AOps.step rfl rfl rfl (AOp.indexAddr rfl et_28 rfl rfl k rfl (at_lst hlt) rfl) ?_
          refine AOps.step rfl rfl rfl (AOp.load rfl sc_9 rfl) ?_
          refine AOps.step rfl rfl rfl (AOp.assignD rfl rfl) ?_
          refine AOps.nil ?_
          refine AWP.seq ?_
          refine AWP.region ?_
          refine AOps.step rfl rfl rfl (AOp.moveD rfl rfl) ?_
          refine AOps.step rfl rfl rfl (AOp.moveD rfl rfl) ?_
          refine AOps.step rfl rfl rfl (AOp.call rfl (.cons (ArgOk.rfl' rfl) (.cons (ArgOk.rfl' rfl) .nil)) (c_pCode kind (nearS kind (b ++ [chkS kind b]))[k] hsl)) ?_
          rw [hs0]
          refine AOps.step rfl rfl rfl (AOp.neq rfl rfl rfl) ?_
          refine AOps.step rfl rfl rfl (AOp.moveD rfl rfl) ?_
          refine AOps.split 51 rfl (fun g5 => ?_) (fun g5 => ?_)
          · replace g5 := of_decide_eq_true g5
            exact absurd rfl g5
          · replace g5 := of_decide_eq_false g5
            refine AOps.step ⟨51, rfl, .inl ⟨_, rfl, rfl⟩⟩ rfl rfl (AOp.moveD rfl rfl) ?_
            refine AOps.step ⟨51, rfl, .inl ⟨_, rfl, rfl⟩⟩ rfl rfl (AOp.neq rfl rfl rfl) ?_
            refine AOps.step ⟨51, rfl, .inl ⟨_, rfl, rfl⟩⟩ rfl rfl (AOp.moveD rfl rfl) ?_
            refine AOps.split 54 rfl (fun g6 => ?_) (fun g6 => ?_)
            · replace g6 := of_decide_eq_true g6
              have hk1 := g6
              refine AOps.step ⟨54, rfl, .inl ⟨_, rfl, rfl⟩⟩ rfl rfl (AOp.moveD rfl rfl) ?_
              refine AOps.step ⟨54, rfl, .inl ⟨_, rfl, rfl⟩⟩ rfl rfl (AOp.moveD rfl rfl) ?_
              refine AOps.step ⟨54, rfl, .inl ⟨_, rfl, rfl⟩⟩ rfl rfl (AOp.call rfl (.cons (ArgOk.rfl' rfl) (.cons (ArgOk.rfl' rfl) .nil)) (c_diff (nearS kind (b ++ [chkS kind b]))[k] (b ++ [chkS kind b]) hsl)) ?_
              refine AOps.step ⟨54, rfl, .inl ⟨_, rfl, rfl⟩⟩ rfl rfl (AOp.eql rfl rfl rfl) ?_
              refine AOps.step ⟨51, rfl, .inl ⟨_, rfl, rfl⟩⟩ rfl rfl (AOp.pickT rfl rfl rfl) ?_
              refine AOps.step rfl rfl rfl (AOp.pickF rfl rfl rfl) ?_
              refine AOps.nil ?_
              refine AWP.cond rfl (fun h7 => ?_) (fun h7 => ?_)
              · replace h7 := of_decide_eq_true h7
                exact absurd h7 (apart hs0 hc0 hk1)
              · replace h7 := of_decide_eq_false h7
                refine AWP.skip ?_
                refine AWP.region ?_
                refine AOps.step rfl rfl rfl (AOp.add64 rfl rfl rfl (by omega) (by omega)) ?_
                refine AOps.step rfl rfl rfl (AOp.moveD rfl rfl) ?_
                refine AOps.nil ?_
                refine ⟨k + 1, (by omega), (by dsimp only; omega), Sub.less ⟨(SLe.of_eq rfl), SLe.refl _, SLe.refl _, SLe.refl _, SLe.refl _, trivial⟩ (fun _ h => h)⟩
            · replace g6 := of_decide_eq_false g6
              refine AOps.pass ⟨54, rfl, .inl ⟨_, rfl, rfl⟩⟩ rfl rfl ?_
              refine AOps.pass ⟨54, rfl, .inl ⟨_, rfl, rfl⟩⟩ rfl rfl ?_
              refine AOps.pass ⟨54, rfl, .inl ⟨_, rfl, rfl⟩⟩ rfl rfl ?_
              refine AOps.pass ⟨54, rfl, .inl ⟨_, rfl, rfl⟩⟩ rfl rfl ?_
              refine AOps.step ⟨51, rfl, .inl ⟨_, rfl, rfl⟩⟩ rfl rfl (AOp.pickF rfl rfl rfl) ?_
              refine AOps.step rfl rfl rfl (AOp.pickF rfl rfl rfl) ?_
              refine AOps.nil ?_
              refine AWP.cond rfl (fun h => nomatch h) (fun _ => ?_)
              refine AWP.skip ?_
              refine AWP.region ?_
              refine AOps.step rfl rfl rfl (AOp.add64 rfl rfl rfl (by omega) (by omega)) ?_
              refine AOps.step rfl rfl rfl (AOp.moveD rfl rfl) ?_
              refine AOps.nil ?_
              refine ⟨k + 1, (by omega), (by dsimp only; omega), Sub.less ⟨(SLe.of_eq rfl), SLe.refl _, SLe.refl _, SLe.refl _, SLe.refl _, trivial⟩ (fun _ h => h)⟩
        · replace h4 := of_decide_eq_false h4
          refine AWP.exit ?_
          refine AWP.seq ?_
          refine AWP.region ?_
          refine AOps.step rfl rfl rfl (AOp.assignD rfl rfl) ?_
          refine AOps.nil ?_
          refine AWP.ret ?_
          refine ⟨RetD.eq rfl ?_, trivial⟩
          all_goals (first | rfl | (rw [HS]; exact congrArg (fun b => D.v (.bool b)) (decide_eq_true rfl)))

end Go.Proofs.YtajghehicmlajaaDoor
