/- Walks over abstract values. Printed by tools/gen.py. No statement of the seat. -/
import Derived.Test.YtieccphckobhjaaDoorE1
namespace Go.Proofs.YtieccphckobhjaaDoor
open Go.RowKit
set_option linter.unusedVariables false

/-! Types. -/
namespace TyE2
theorem ag_26 : AggT Tryd.prog 26 3 := .of (by kernel_rfl)
theorem ag_28 : AggT Tryd.prog 28 6 := .of (by kernel_rfl)
theorem ag_77 : AggT Tryd.prog 77 7 := .of (by kernel_rfl)
theorem bu_46 : StructT Tryd.prog 46 (fun i => (#[(0, 1), (1, 1), (2, 1)] : Array (Nat × Nat))[i]?) [(.int .i64 0), (.string ⟨#[]⟩), (.string ⟨#[]⟩)] := .of (by kernel_rfl) (by kernel_rfl) (by decide)
theorem et_24 : ElemTy Tryd.prog 24 77 7 96 (.agg #[(.string ⟨#[]⟩), (.string ⟨#[]⟩), (.string ⟨#[]⟩), (.int .i64 0), (.int .i64 0), (.int .i64 0), (.slice none 0 0)]) := ⟨by kernel_rfl, by kernel_rfl, by kernel_rfl, by decide⟩
theorem et_41 : ElemTy Tryd.prog 41 46 3 40 (.agg #[(.int .i64 0), (.string ⟨#[]⟩), (.string ⟨#[]⟩)]) := ⟨by kernel_rfl, by kernel_rfl, by kernel_rfl, by decide⟩
theorem fo_26_2 : fieldOff Tryd.prog 26 2 = some 2 := by kernel_rfl
theorem fo_28_3 : fieldOff Tryd.prog 28 3 = some 3 := by kernel_rfl
theorem fo_46_0 : fieldOff Tryd.prog 46 0 = some 0 := by kernel_rfl
theorem fo_77_0 : fieldOff Tryd.prog 77 0 = some 0 := by kernel_rfl
theorem fo_77_1 : fieldOff Tryd.prog 77 1 = some 1 := by kernel_rfl
theorem fo_77_4 : fieldOff Tryd.prog 77 4 = some 4 := by kernel_rfl
theorem sc_24 : Scal Tryd.prog 24 := .of (by kernel_rfl)
theorem sc_3 : Scal Tryd.prog 3 := .of (by kernel_rfl)
theorem sc_9 : Scal Tryd.prog 9 := .of (by kernel_rfl)
theorem sz_77 : ∀ w, (sizeOf 77).run Tryd.prog w = .ok 7 w := SizeT.of (by kernel_rfl)
theorem zt_77 : (Tryd.prog.info? 77).bind (·.zero) = some (.agg #[(.string ⟨#[]⟩), (.string ⟨#[]⟩), (.string ⟨#[]⟩), (.int .i64 0), (.int .i64 0), (.int .i64 0), (.slice none 0 0)]) := by kernel_rfl
end TyE2
open TyE2


theorem SLe.fn (f : Nat) : SLe (.d (.v (.func (.func f) #[] #[]))) (.d (.clo (.func f) [])) := fun F ρ w x h => by
  cases repS_v h
  exact .d (.clo _ [] [] rfl (fun i h => absurd h (Nat.not_lt_zero i)))
theorem row_same2 {c id e size : Nat} {o : Ob} {els els' : List (List D)} {τ : Obs} (h : els = els') : ∀ p ∈ [(id, Ob.row e size els')], p ∈ (c, o) :: (id, Ob.row e size els) :: τ := fun p hp => by
  rw [List.mem_singleton] at hp; subst hp; subst h; exact .tail _ (.head _)
theorem row_both {c id e size : Nat} {o : Ob} {els els' : List (List D)} {τ : Obs} (h : els = els') : ∀ p ∈ [(c, o), (id, Ob.row e size els')], p ∈ (c, o) :: (id, Ob.row e size els) :: τ := fun p hp => by
  subst h
  rcases List.mem_cons.1 hp with rfl | hp
  · exact .head _
  · rw [List.mem_singleton] at hp; subst hp; exact .tail _ (.head _)
theorem max_fst (frm every : Int) (c : Cpy) : max frm (c.last + every) = fstD frm every c := rfl
theorem manyTo_bound {frm every to : Int} (he : 1 ≤ every) (hf : 0 ≤ frm) (ht : to ≤ 200001) {l : List Cpy} : ∀ {k : Nat}, k ≤ l.length → manyTo frm every to l k ≤ k * 200001
  | 0, _ => by simp [manyTo]
  | k + 1, h => by
    rw [manyTo_succ (by omega)]
    have := manyTo_bound he hf ht (l := l) (k := k) (by omega)
    have hc : cntD frm every to (l[k]'(by omega)) ≤ 200001 := by
      generalize l[k]'(by omega) = c
      refine Nat.le_of_not_lt fun hh => ?_
      have h1 := (cnt_iff he c 200001).2 hh
      have h2 : (200001 : Int) ≤ ((200001 : Nat) : Int) * every := by
        have := Int.mul_le_mul_of_nonneg_left he (show (0 : Int) ≤ 200001 by decide)
        simpa using this
      unfold dayD fstD at h1
      omega
    omega


set_option maxRecDepth 100000 in
set_option maxHeartbeats 1000000 in
theorem c_isNaN (n : Int) : ACall Tryd.prog 86 [.v (.int .i64 n)] (.v (.bool false)) := by
  refine acall_of (n := 6) (ds' := [.v (.bool false)]) Tryd.func86 rfl (by kernel_rfl) rfl [2] rfl rfl ?_
  intro B w0 F0 fr
  refine AWP.seq ?_
  refine AWP.region ?_
  refine AOps.step rfl rfl rfl (AOp.assignD rfl rfl) ?_
  refine AOps.nil ?_
  refine AWP.seq ?_
  refine AWP.region ?_
  refine AOps.step rfl rfl rfl (AOp.moveD rfl rfl) ?_
  refine AOps.step rfl rfl rfl (AOp.moveD rfl rfl) ?_
  refine AOps.step rfl rfl rfl (AOp.neq rfl rfl rfl) ?_
  refine AOps.step rfl rfl rfl (AOp.assignD rfl rfl) ?_
  refine AOps.nil ?_
  refine AWP.ret ?_
  refine ⟨RetD.eq rfl ?_, trivial⟩
  all_goals (simp)

set_option maxRecDepth 100000 in
set_option maxHeartbeats 1000000 in
theorem c_cmpInt (a b : Int) : ACall Tryd.prog 57 [.v (.int .i64 a), .v (.int .i64 b)] (.v (.int .i64 (if a < b then -1 else if b < a then 1 else 0))) := by
  refine acall_of (n := 20) (ds' := [.v (.int .i64 (if a < b then -1 else if b < a then 1 else 0))]) Tryd.func57 rfl (by kernel_rfl) rfl [4] rfl rfl ?_
  intro B w0 F0 fr
  refine AWP.seq ?_
  refine AWP.region ?_
  refine AOps.step rfl rfl rfl (AOp.assignD rfl rfl) ?_
  refine AOps.nil ?_
  refine AWP.seq ?_
  refine AWP.region ?_
  refine AOps.step rfl rfl rfl (AOp.moveD rfl rfl) ?_
  refine AOps.step rfl rfl rfl (AOp.call rfl (.cons (ArgOk.rfl' rfl) .nil) (c_isNaN _)) ?_
  refine AOps.step rfl rfl rfl (AOp.assignD rfl rfl) ?_
  refine AOps.nil ?_
  refine AWP.seq ?_
  refine AWP.region ?_
  refine AOps.step rfl rfl rfl (AOp.moveD rfl rfl) ?_
  refine AOps.step rfl rfl rfl (AOp.call rfl (.cons (ArgOk.rfl' rfl) .nil) (c_isNaN _)) ?_
  refine AOps.step rfl rfl rfl (AOp.assignD rfl rfl) ?_
  refine AOps.nil ?_
  refine AWP.seq ?_
  refine AWP.seq ?_
  refine AWP.region ?_
  refine AOps.step rfl rfl rfl (AOp.moveD rfl rfl) ?_
  refine AOps.nil ?_
  refine AWP.cond rfl (fun h => nomatch h) (fun _ => ?_)
  refine AWP.skip ?_
  refine AWP.seq ?_
  refine AWP.seq ?_
  refine AWP.region ?_
  refine AOps.step rfl rfl rfl (AOp.moveD rfl rfl) ?_
  refine AOps.nil ?_
  refine AWP.cond rfl (fun h => nomatch h) (fun _ => ?_)
  refine AWP.skip ?_
  refine AWP.seq ?_
  refine AWP.seq ?_
  refine AWP.region ?_
  refine AOps.step rfl rfl rfl (AOp.moveD rfl rfl) ?_
  refine AOps.step rfl rfl rfl (AOp.moveD rfl rfl) ?_
  refine AOps.step rfl rfl rfl (AOp.lss rfl rfl rfl) ?_
  refine AOps.nil ?_
  refine AWP.cond rfl (fun h1 => ?_) (fun h1 => ?_)
  · replace h1 := of_decide_eq_true h1
    rw [if_pos h1]
    refine AWP.seq ?_
    refine AWP.region ?_
    refine AOps.step rfl rfl rfl (AOp.assignD rfl rfl) ?_
    refine AOps.nil ?_
    refine AWP.ret ?_
    refine ⟨RetD.eq rfl ?_, trivial⟩
    all_goals (rfl)
  · replace h1 := of_decide_eq_false h1
    rw [if_neg h1]
    refine AWP.skip ?_
    refine AWP.seq ?_
    refine AWP.seq ?_
    refine AWP.region ?_
    refine AOps.step rfl rfl rfl (AOp.moveD rfl rfl) ?_
    refine AOps.step rfl rfl rfl (AOp.moveD rfl rfl) ?_
    refine AOps.step rfl rfl rfl (AOp.gtr rfl rfl rfl) ?_
    refine AOps.nil ?_
    refine AWP.cond rfl (fun h2 => ?_) (fun h2 => ?_)
    · replace h2 := of_decide_eq_true h2
      rw [if_pos h2]
      refine AWP.seq ?_
      refine AWP.region ?_
      refine AOps.step rfl rfl rfl (AOp.assignD rfl rfl) ?_
      refine AOps.nil ?_
      refine AWP.ret ?_
      refine ⟨RetD.eq rfl ?_, trivial⟩
      all_goals (rfl)
    · replace h2 := of_decide_eq_false h2
      rw [if_neg h2]
      refine AWP.skip ?_
      refine AWP.seq ?_
      refine AWP.region ?_
      refine AOps.step rfl rfl rfl (AOp.assignD rfl rfl) ?_
      refine AOps.nil ?_
      refine AWP.ret ?_
      refine ⟨RetD.eq rfl ?_, trivial⟩
      all_goals (rfl)

set_option maxRecDepth 100000 in
set_option maxHeartbeats 1000000 in
theorem c_dueCmp (a b : Tsk) : ACall Tryd.prog 56 [.agg a.ds, .agg b.ds] (.v (.int .i64 (cmpT a b))) := by
  refine acall_of (n := 10) (ds' := [.v (.int .i64 (cmpT a b))]) Tryd.func56 rfl (by kernel_rfl) rfl [4] rfl rfl ?_
  intro B w0 F0 fr
  refine AWP.seq ?_
  refine AWP.region ?_
  refine AOps.step rfl rfl rfl (AOp.box rfl rfl rfl) ?_
  refine AOps.step rfl rfl rfl (AOp.box rfl rfl rfl) ?_
  refine AOps.step rfl rfl rfl (AOp.assignD rfl rfl) ?_
  refine AOps.nil ?_
  refine AWP.seq ?_
  refine AWP.region ?_
  refine AOps.step rfl rfl rfl (AOp.fieldAddr rfl fo_46_0 rfl) ?_
  refine AOps.step rfl rfl rfl (AOp.load rfl sc_3 rfl) ?_
  refine AOps.step rfl rfl rfl (AOp.fieldAddr rfl fo_46_0 rfl) ?_
  refine AOps.step rfl rfl rfl (AOp.load rfl sc_3 rfl) ?_
  refine AOps.step rfl rfl rfl (AOp.call rfl (.cons (ArgOk.rfl' rfl) (.cons (ArgOk.rfl' rfl) .nil)) (c_cmpInt _ _)) ?_
  refine AOps.step rfl rfl rfl (AOp.assignD rfl rfl) ?_
  refine AOps.nil ?_
  refine AWP.ret ?_
  refine ⟨RetD.eq rfl ?_, trivial⟩
  all_goals (rfl)

set_option maxRecDepth 100000 in
set_option maxHeartbeats 1000000 in
theorem c_pBoth (v : Vlt) (p : Pol) (hs : smallV v) : ACall Tryd.prog 54 [.agg v.ds, .agg p.ds] (.v (.int .i64 (bothFault v p))) := by
  refine acall_of (n := 13) (ds' := [.v (.int .i64 (bothFault v p))]) Tryd.func54 rfl (by kernel_rfl) rfl [4] rfl rfl ?_
  intro B w0 F0 fr
  refine AWP.seq ?_
  refine AWP.region ?_
  refine AOps.step rfl rfl rfl (AOp.box rfl rfl rfl) ?_
  refine AOps.step rfl rfl rfl (AOp.box rfl rfl rfl) ?_
  refine AOps.step rfl rfl rfl (AOp.assignD rfl rfl) ?_
  refine AOps.nil ?_
  refine AWP.seq ?_
  refine AWP.seq ?_
  refine AWP.region ?_
  refine AOps.step rfl rfl rfl (AOp.loadAgg rfl ag_26 rfl rfl) ?_
  refine AOps.step rfl rfl rfl (AOp.call rfl (.cons (ArgOk.rfl' rfl) .nil) (c_pCheck v hs)) ?_
  refine AOps.step rfl rfl rfl (AOp.assignD rfl rfl) ?_
  refine AOps.nil ?_
  refine AWP.seq ?_
  refine AWP.region ?_
  refine AOps.step rfl rfl rfl (AOp.moveD rfl rfl) ?_
  refine AOps.step rfl rfl rfl (AOp.neq rfl rfl rfl) ?_
  refine AOps.nil ?_
  refine AWP.cond rfl (fun h1 => ?_) (fun h1 => ?_)
  · replace h1 := of_decide_eq_true h1
    rw [both_v h1]
    refine AWP.seq ?_
    refine AWP.region ?_
    refine AOps.step rfl rfl rfl (AOp.moveD rfl rfl) ?_
    refine AOps.step rfl rfl rfl (AOp.assignD rfl rfl) ?_
    refine AOps.nil ?_
    refine AWP.ret ?_
    refine ⟨RetD.eq rfl ?_, trivial⟩
    all_goals (rfl)
  · replace h1 := of_decide_eq_false h1
    rw [both_p (Decidable.not_not.1 h1)]
    refine AWP.skip ?_
    refine AWP.seq ?_
    refine AWP.region ?_
    refine AOps.step rfl rfl rfl (AOp.loadAgg rfl ag_28 rfl rfl) ?_
    refine AOps.step rfl rfl rfl (AOp.call rfl (.cons (ArgOk.rfl' rfl) .nil) (c_pPol p)) ?_
    refine AOps.step rfl rfl rfl (AOp.assignD rfl rfl) ?_
    refine AOps.nil ?_
    refine AWP.ret ?_
    refine ⟨RetD.eq rfl ?_, trivial⟩
    all_goals (rfl)

set_option maxRecDepth 100000 in
set_option maxHeartbeats 1000000 in
theorem c_span (a b : Int) : ACall Tryd.prog 58 [.v (.int .i64 a), .v (.int .i64 b)] (.v (.int .i64 (spanFault a b))) := by
  refine acall_of (n := 14) (ds' := [.v (.int .i64 (spanFault a b))]) Tryd.func58 rfl (by kernel_rfl) rfl [4] rfl rfl ?_
  intro B w0 F0 fr
  refine AWP.seq ?_
  refine AWP.region ?_
  refine AOps.step rfl rfl rfl (AOp.assignD rfl rfl) ?_
  refine AOps.nil ?_
  refine AWP.seq ?_
  refine AWP.seq ?_
  refine AWP.region ?_
  refine AOps.step rfl rfl rfl (AOp.moveD rfl rfl) ?_
  refine AOps.step rfl rfl rfl (AOp.call rfl (.cons (ArgOk.rfl' rfl) .nil) (c_rDay _)) ?_
  refine AOps.step rfl rfl rfl (AOp.not rfl rfl) ?_
  refine AOps.step rfl rfl rfl (AOp.moveD rfl rfl) ?_
  refine AOps.split 8 rfl (fun g1 => ?_) (fun g1 => ?_)
  · replace g1 := bnot_t g1; replace g1 := of_decide_eq_false g1
    have HR : spanFault a b = 1 := if_pos (.inl g1)
    rw [HR]
    refine AOps.pass ⟨8, rfl, .inl ⟨_, rfl, rfl⟩⟩ rfl rfl ?_
    refine AOps.pass ⟨8, rfl, .inl ⟨_, rfl, rfl⟩⟩ rfl rfl ?_
    refine AOps.pass ⟨8, rfl, .inl ⟨_, rfl, rfl⟩⟩ rfl rfl ?_
    refine AOps.pass ⟨8, rfl, .inl ⟨_, rfl, rfl⟩⟩ rfl rfl ?_
    refine AOps.step rfl rfl rfl (AOp.pickT rfl rfl rfl) ?_
    refine AOps.nil ?_
    refine AWP.cond rfl (fun _ => ?_) (fun h => nomatch h)
    refine AWP.seq ?_
    refine AWP.region ?_
    refine AOps.step rfl rfl rfl (AOp.assignD rfl rfl) ?_
    refine AOps.nil ?_
    refine AWP.ret ?_
    refine ⟨RetD.eq rfl ?_, trivial⟩
    all_goals (rfl)
  · replace g1 := bnot_f g1; replace g1 := of_decide_eq_true g1
    have hg := g1
    refine AOps.step ⟨8, rfl, .inl ⟨_, rfl, rfl⟩⟩ rfl rfl (AOp.moveD rfl rfl) ?_
    refine AOps.step ⟨8, rfl, .inl ⟨_, rfl, rfl⟩⟩ rfl rfl (AOp.moveD rfl rfl) ?_
    refine AOps.step ⟨8, rfl, .inl ⟨_, rfl, rfl⟩⟩ rfl rfl (AOp.call rfl (.cons (ArgOk.rfl' rfl) (.cons (ArgOk.rfl' rfl) (.cons (ArgOk.rfl' rfl) .nil))) (c_rWithin _ _ _)) ?_
    refine AOps.step ⟨8, rfl, .inl ⟨_, rfl, rfl⟩⟩ rfl rfl (AOp.not rfl rfl) ?_
    refine AOps.step rfl rfl rfl (AOp.pickF rfl rfl rfl) ?_
    refine AOps.nil ?_
    refine AWP.cond rfl (fun h2 => ?_) (fun h2 => ?_)
    · replace h2 := bnot_t h2; replace h2 := of_decide_eq_false h2
      have HR : spanFault a b = 1 := if_pos (.inr h2)
      rw [HR]
      refine AWP.seq ?_
      refine AWP.region ?_
      refine AOps.step rfl rfl rfl (AOp.assignD rfl rfl) ?_
      refine AOps.nil ?_
      refine AWP.ret ?_
      refine ⟨RetD.eq rfl ?_, trivial⟩
      all_goals (rfl)
    · replace h2 := bnot_f h2; replace h2 := of_decide_eq_true h2
      have HR : spanFault a b = 0 := if_neg (by omega)
      rw [HR]
      refine AWP.skip ?_
      refine AWP.seq ?_
      refine AWP.region ?_
      refine AOps.step rfl rfl rfl (AOp.assignD rfl rfl) ?_
      refine AOps.nil ?_
      refine AWP.ret ?_
      refine ⟨RetD.eq rfl ?_, trivial⟩
      all_goals (rfl)

set_option maxRecDepth 100000 in
set_option maxHeartbeats 1000000 in
theorem c_pDue (v : Vlt) (p : Pol) (frm to : Int) (hs : smallV v) : ACall Tryd.prog 17 [.agg v.ds, .agg p.ds, .v (.int .i64 frm), .v (.int .i64 to)] (.tup [.sl ((dueR v p frm to).map Tsk.ds), .v (.int .i64 (dueFault v p frm to))]) := by
  refine acall_of (n := 98) (ds' := [.sl ((dueR v p frm to).map Tsk.ds), .v (.int .i64 (dueFault v p frm to))]) Tryd.func17 rfl (by kernel_rfl) rfl [8, 9] rfl rfl ?_
  intro B w0 F0 fr
  refine AWP.seq ?_
  refine AWP.region ?_
  refine AOps.step rfl rfl rfl (AOp.box rfl rfl rfl) ?_
  refine AOps.step rfl rfl rfl (AOp.box rfl rfl rfl) ?_
  refine AOps.step rfl rfl rfl (AOp.assignD rfl rfl) ?_
  refine AOps.step rfl rfl rfl (AOp.assignD rfl rfl) ?_
  refine AOps.nil ?_
  refine AWP.seq ?_
  refine AWP.seq ?_
  refine AWP.region ?_
  refine AOps.step rfl rfl rfl (AOp.loadAgg rfl ag_26 rfl rfl) ?_
  refine AOps.step rfl rfl rfl (AOp.loadAgg rfl ag_28 rfl rfl) ?_
  refine AOps.step rfl rfl rfl (AOp.call rfl (.cons (ArgOk.rfl' rfl) (.cons (ArgOk.rfl' rfl) .nil)) (c_pBoth v p hs)) ?_
  refine AOps.step rfl rfl rfl (AOp.assignD rfl rfl) ?_
  refine AOps.nil ?_
  refine AWP.seq ?_
  refine AWP.region ?_
  refine AOps.step rfl rfl rfl (AOp.moveD rfl rfl) ?_
  refine AOps.step rfl rfl rfl (AOp.neq rfl rfl rfl) ?_
  refine AOps.nil ?_
  refine AWP.cond rfl (fun h1 => ?_) (fun h1 => ?_)
  · replace h1 := of_decide_eq_true h1
    have HF : dueFault v p frm to = bothFault v p := if_pos h1
    have HR : dueR v p frm to = [] := by unfold dueR; rw [HF, if_neg h1]
    rw [HR, HF]
    refine AWP.seq ?_
    refine AWP.region ?_
    refine AOps.step rfl rfl rfl (AOp.moveD rfl rfl) ?_
    refine AOps.step rfl rfl rfl (AOp.assignD rfl rfl) ?_
    refine AOps.step rfl rfl rfl (AOp.assignD rfl rfl) ?_
    refine AOps.nil ?_
    refine AWP.ret ?_
    refine ⟨RetD.nil rfl, RetD.eq rfl ?_, trivial⟩
    all_goals (rfl)
  · replace h1 := of_decide_eq_false h1
    obtain ⟨vo, po⟩ := both_ok (Decidable.not_not.1 h1)
    have hb0 := Decidable.not_not.1 h1
    have he := po.every
    have hnp := vo.np
    refine AWP.skip ?_
    refine AWP.seq ?_
    refine AWP.seq ?_
    refine AWP.region ?_
    refine AOps.step rfl rfl rfl (AOp.moveD rfl rfl) ?_
    refine AOps.step rfl rfl rfl (AOp.call rfl (.cons (ArgOk.rfl' rfl) .nil) (c_pDay _)) ?_
    refine AOps.step rfl rfl rfl (AOp.not rfl rfl) ?_
    refine AOps.step rfl rfl rfl (AOp.moveD rfl rfl) ?_
    refine AOps.split 28 rfl (fun g2 => ?_) (fun g2 => ?_)
    · replace g2 := bnot_t g2; replace g2 := of_decide_eq_false g2
      have HS : spanFault frm to = 1 := if_pos (.inl g2)
      have HF : dueFault v p frm to = 1 := by unfold dueFault; rw [if_neg (by rw [hb0]; decide), HS]; rfl
      have HR : dueR v p frm to = [] := by unfold dueR; rw [HF]; rfl
      rw [HR, HF]
      refine AOps.pass ⟨28, rfl, .inl ⟨_, rfl, rfl⟩⟩ rfl rfl ?_
      refine AOps.pass ⟨28, rfl, .inl ⟨_, rfl, rfl⟩⟩ rfl rfl ?_
      refine AOps.pass ⟨28, rfl, .inl ⟨_, rfl, rfl⟩⟩ rfl rfl ?_
      refine AOps.pass ⟨28, rfl, .inl ⟨_, rfl, rfl⟩⟩ rfl rfl ?_
      refine AOps.step rfl rfl rfl (AOp.pickT rfl rfl rfl) ?_
      refine AOps.nil ?_
      refine AWP.cond rfl (fun _ => ?_) (fun h => nomatch h)
      refine AWP.seq ?_
      refine AWP.region ?_
      refine AOps.step rfl rfl rfl (AOp.assignD rfl rfl) ?_
      refine AOps.step rfl rfl rfl (AOp.assignD rfl rfl) ?_
      refine AOps.nil ?_
      refine AWP.ret ?_
      refine ⟨RetD.nil rfl, RetD.eq rfl ?_, trivial⟩
      all_goals (rfl)
    · replace g2 := bnot_f g2; replace g2 := of_decide_eq_true g2
      refine AOps.step ⟨28, rfl, .inl ⟨_, rfl, rfl⟩⟩ rfl rfl (AOp.moveD rfl rfl) ?_
      refine AOps.step ⟨28, rfl, .inl ⟨_, rfl, rfl⟩⟩ rfl rfl (AOp.moveD rfl rfl) ?_
      refine AOps.step ⟨28, rfl, .inl ⟨_, rfl, rfl⟩⟩ rfl rfl (AOp.call rfl (.cons (ArgOk.rfl' rfl) (.cons (ArgOk.rfl' rfl) (.cons (ArgOk.rfl' rfl) .nil))) (c_pWithin _ _ _)) ?_
      refine AOps.step ⟨28, rfl, .inl ⟨_, rfl, rfl⟩⟩ rfl rfl (AOp.not rfl rfl) ?_
      refine AOps.step rfl rfl rfl (AOp.pickF rfl rfl rfl) ?_
      refine AOps.nil ?_
      refine AWP.cond rfl (fun h3 => ?_) (fun h3 => ?_)
      · replace h3 := bnot_t h3; replace h3 := of_decide_eq_false h3
        have HS : spanFault frm to = 1 := if_pos (.inr h3)
        have HF : dueFault v p frm to = 1 := by unfold dueFault; rw [if_neg (by rw [hb0]; decide), HS]; rfl
        have HR : dueR v p frm to = [] := by unfold dueR; rw [HF]; rfl
        rw [HR, HF]
        refine AWP.seq ?_
        refine AWP.region ?_
        refine AOps.step rfl rfl rfl (AOp.assignD rfl rfl) ?_
        refine AOps.step rfl rfl rfl (AOp.assignD rfl rfl) ?_
        refine AOps.nil ?_
        refine AWP.ret ?_
        refine ⟨RetD.nil rfl, RetD.eq rfl ?_, trivial⟩
        all_goals (rfl)
      · replace h3 := bnot_f h3; replace h3 := of_decide_eq_true h3
        have hsp : (0 ≤ frm ∧ frm ≤ 200000) ∧ (frm ≤ to ∧ to ≤ 200001) := by omega
        have HS : spanFault frm to = 0 := if_neg (by omega)
        have hMB := fun {k : Nat} => manyTo_bound he.1 hsp.1.1 hsp.2.2 (l := v.copies) (k := k)
        refine AWP.skip ?_
        refine AWP.seq ?_
        refine AWP.region ?_
        refine AOps.step rfl rfl rfl (AOp.assignD rfl rfl) ?_
        refine AOps.nil ?_
        refine AWP.seq ?_
        refine AWP.seq ?_
        refine AWP.region ?_
        refine AOps.step rfl rfl rfl (AOp.fieldAddr rfl fo_26_2 rfl) ?_
        refine AOps.step rfl rfl rfl (AOp.load rfl sc_24 rfl) ?_
        refine AOps.step rfl rfl rfl (AOp.lenSl rfl et_24.ht rfl) ?_
        refine AOps.step rfl rfl rfl (AOp.moveD rfl rfl) ?_
        refine AOps.nil ?_
        refine AWP.block ?_
        refine AWP.loop (G := Nat) (fun k => Env.of [(37, .d (.v (.int .i64 (k : Int)))), (35, .d (.sl (v.copies.map Cpy.ds))), (36, .d (.v (.int .i64 ((v.copies.map Cpy.ds).length : Int)))), (11, .d (.v (.int .i64 ((manyTo frm p.every to v.copies k : Nat) : Int)))), (2, .d (.v (.int .i64 frm))), (3, .d (.v (.int .i64 to))), (4, .d (.fp v.ds)), (5, .d (.fp p.ds))]) (fun k => []) (fun k => k ≤ v.copies.length) (fun k => v.copies.length - k) 0 (Nat.zero_le _) (Sub.less ⟨(SLe.of_eq rfl), SLe.refl _, SLe.refl _, (SLe.i64 rfl), SLe.refl _, SLe.refl _, SLe.refl _, SLe.refl _, trivial⟩ (fun _ h => h)) ?_
        intro k hk
        refine AWP.seq ?_
        refine AWP.region ?_
        refine AOps.step rfl rfl rfl (AOp.lss rfl rfl rfl) ?_
        refine AOps.nil ?_
        refine AWP.seq ?_
        refine AWP.cond rfl (fun h4 => ?_) (fun h4 => ?_)
        · replace h4 := of_decide_eq_true h4
          rw [List.length_map] at h4
          have hlt : k < v.copies.length := by omega
          have hco := (vo.cpy _ (List.getElem_mem hlt))
          have hla := hco.last
          have hda := hco.day
          have hMk := hMB (k := k) (by omega)
          have hMs := manyTo_succ (frm := frm) (every := p.every) (to := to) hlt
          have hM1 := hMB (k := k + 1) (by omega)
          have hfd : fstD frm p.every v.copies[k] = max frm (v.copies[k].last + p.every) := rfl
          refine AWP.skip ?_
          refine AWP.seq ?_
          refine AWP.block ?_
          refine AWP.seq ?_
          refine AWP.region ?_
          refine AOps.step rfl rfl rfl (AOp.indexAddr rfl et_24 rfl rfl k rfl (at_list hlt) rfl) ?_
          refine AOps.step rfl rfl rfl (AOp.loadAgg rfl ag_77 rfl rfl) ?_
          refine AOps.alloc 101 rfl rfl rfl rfl zt_77 rfl rfl rfl ?_
          refine AOps.store rfl rfl rfl sz_77 rfl (.head _) rfl rfl rfl (Nat.le_of_ble_eq_true rfl) ?_
          refine AOps.nil ?_
          refine AWP.seq ?_
          refine AWP.region ?_
          refine AOps.step rfl rfl rfl (AOp.moveD rfl rfl) ?_
          refine AOps.step rfl rfl rfl (AOp.fieldAddrP rfl fo_77_4 rfl) ?_
          refine AOps.step rfl rfl rfl (AOp.loadP rfl sc_3 rfl (.head _) rfl) ?_
          refine AOps.step rfl rfl rfl (AOp.fieldAddr rfl fo_28_3 rfl) ?_
          refine AOps.step rfl rfl rfl (AOp.load rfl sc_3 rfl) ?_
          refine AOps.step rfl rfl rfl (AOp.add64 rfl rfl rfl (by omega) (by omega)) ?_
          refine AOps.step rfl rfl rfl (AOp.max rfl rfl rfl) ?_
          refine AOps.step rfl rfl rfl (AOp.assignD rfl rfl) ?_
          refine AOps.nil ?_
          refine AWP.seq ?_
          refine AWP.region ?_
          refine AOps.step rfl rfl rfl (AOp.moveD rfl rfl) ?_
          refine AOps.step rfl rfl rfl (AOp.moveD rfl rfl) ?_
          refine AOps.step rfl rfl rfl (AOp.lss rfl rfl rfl) ?_
          refine AOps.nil ?_
          refine AWP.cond rfl (fun h5 => ?_) (fun h5 => ?_)
          · replace h5 := of_decide_eq_true h5
            rw [max_fst] at h5
            have hca := cnt_alt he.1 v.copies[k] h5
            rw [max_fst]
            refine AWP.region ?_
            refine AOps.step rfl rfl rfl (AOp.moveD rfl rfl) ?_
            refine AOps.step rfl rfl rfl (AOp.moveD rfl rfl) ?_
            refine AOps.step rfl rfl rfl (AOp.sub64 rfl rfl rfl (by omega) (by omega)) ?_
            refine AOps.step rfl rfl rfl (AOp.moveD rfl rfl) ?_
            refine AOps.step rfl rfl rfl (AOp.sub64 rfl rfl rfl (by omega) (by omega)) ?_
            refine AOps.step rfl rfl rfl (AOp.fieldAddr rfl fo_28_3 rfl) ?_
            refine AOps.step rfl rfl rfl (AOp.load rfl sc_3 rfl) ?_
            refine AOps.step rfl rfl rfl (AOp.quo64 rfl rfl rfl (by omega) (by omega) (by omega)) ?_
            refine AOps.step rfl rfl rfl (AOp.add64 rfl rfl rfl (by omega) (by omega)) ?_
            refine AOps.step rfl rfl rfl (AOp.add64 rfl rfl rfl (by omega) (by omega)) ?_
            refine AOps.step rfl rfl rfl (AOp.assignD rfl rfl) ?_
            refine AOps.nil ?_
            refine AWP.region ?_
            refine AOps.step rfl rfl rfl (AOp.add64 rfl rfl rfl (by omega) (by omega)) ?_
            refine AOps.step rfl rfl rfl (AOp.moveD rfl rfl) ?_
            refine AOps.nil ?_
            refine ⟨k + 1, (by omega), (by dsimp only; omega), Sub.less ⟨(SLe.of_eq rfl), SLe.refl _, SLe.refl _, (SLe.i64 (by rw [hMs]; omega)), SLe.refl _, SLe.refl _, SLe.refl _, SLe.refl _, trivial⟩ (fun _ h => by cases h)⟩
          · replace h5 := of_decide_eq_false h5
            rw [max_fst] at h5
            have hcn := cnt_none (every := p.every) v.copies[k] h5
            refine AWP.skip ?_
            refine AWP.region ?_
            refine AOps.step rfl rfl rfl (AOp.add64 rfl rfl rfl (by omega) (by omega)) ?_
            refine AOps.step rfl rfl rfl (AOp.moveD rfl rfl) ?_
            refine AOps.nil ?_
            refine ⟨k + 1, (by omega), (by dsimp only; omega), Sub.less ⟨(SLe.of_eq rfl), SLe.refl _, SLe.refl _, (SLe.i64 (by rw [hMs, hcn]; rfl)), SLe.refl _, SLe.refl _, SLe.refl _, SLe.refl _, trivial⟩ (fun _ h => by cases h)⟩
        · replace h4 := of_decide_eq_false h4
          rw [List.length_map] at h4
          obtain rfl : k = v.copies.length := by omega
          refine AWP.exit ?_
          refine AWP.seq ?_
          refine AWP.seq ?_
          refine AWP.region ?_
          refine AOps.step rfl rfl rfl (AOp.moveD rfl rfl) ?_
          refine AOps.step rfl rfl rfl (AOp.gtr rfl rfl rfl) ?_
          refine AOps.nil ?_
          refine AWP.cond rfl (fun h6 => ?_) (fun h6 => ?_)
          · replace h6 := of_decide_eq_true h6
            have HF : dueFault v p frm to = 2 := by unfold dueFault; rw [if_neg (by rw [hb0]; decide), HS, if_neg (by decide), if_pos h6]
            have HR : dueR v p frm to = [] := by unfold dueR; rw [HF]; rfl
            rw [HR, HF]
            refine AWP.seq ?_
            refine AWP.region ?_
            refine AOps.step rfl rfl rfl (AOp.assignD rfl rfl) ?_
            refine AOps.step rfl rfl rfl (AOp.assignD rfl rfl) ?_
            refine AOps.nil ?_
            refine AWP.ret ?_
            refine ⟨RetD.nil rfl, RetD.eq rfl ?_, trivial⟩
            all_goals (rfl)
          · replace h6 := of_decide_eq_false h6
            have HF : dueFault v p frm to = 0 := by unfold dueFault; rw [if_neg (by rw [hb0]; decide), HS, if_neg (by decide), if_neg h6]
            have hmx : manyTo frm p.every to v.copies v.copies.length ≤ 20000 := by omega
            rw [HF, dueR_tds _ _ _ _ HF]
            refine AWP.skip ?_
            refine AWP.seq ?_
            refine AWP.region ?_
            refine AOps.step rfl rfl rfl (AOp.assignD rfl rfl) ?_
            refine AOps.nil ?_
            refine AWP.seq ?_
            refine AWP.seq ?_
            refine AWP.region ?_
            refine AOps.step rfl rfl rfl (AOp.fieldAddr rfl fo_26_2 rfl) ?_
            refine AOps.step rfl rfl rfl (AOp.load rfl sc_24 rfl) ?_
            refine AOps.step rfl rfl rfl (AOp.lenSl rfl et_24.ht rfl) ?_
            refine AOps.step rfl rfl rfl (AOp.moveD rfl rfl) ?_
            refine AOps.nil ?_
            refine AWP.block ?_
            refine AWP.adopt 15 1 46 3 rfl rfl ?_
            refine AWP.loop (G := Nat) (fun i => Env.of [(67, .d (.v (.int .i64 (i : Int)))), (65, .d (.sl (v.copies.map Cpy.ds))), (66, .d (.v (.int .i64 ((v.copies.map Cpy.ds).length : Int)))), (15, .own 1), (2, .d (.v (.int .i64 frm))), (3, .d (.v (.int .i64 to))), (5, .d (.fp p.ds))]) (fun i => [(1, .row 46 3 ((tagTo frm p.every to v.copies i).map tds))]) (fun i => i ≤ v.copies.length) (fun i => v.copies.length - i) 0 (Nat.zero_le _) (Sub.less ⟨(SLe.of_eq rfl), SLe.refl _, SLe.refl _, SLe.refl _, SLe.refl _, SLe.refl _, SLe.refl _, trivial⟩ (row_same rfl)) ?_
            intro i hi
            refine AWP.seq ?_
            refine AWP.region ?_
            refine AOps.step rfl rfl rfl (AOp.lss rfl rfl rfl) ?_
            refine AOps.nil ?_
            refine AWP.seq ?_
            refine AWP.cond rfl (fun h7 => ?_) (fun h7 => ?_)
            · replace h7 := of_decide_eq_true h7
              rw [List.length_map] at h7
              have hlt : i < v.copies.length := by omega
              have hco := (vo.cpy _ (List.getElem_mem hlt))
              have hla := hco.last
              have hda := hco.day
              have hMs := manyTo_succ (frm := frm) (every := p.every) (to := to) hlt
              have hM1 := manyTo_le (frm := frm) (every := p.every) (to := to) (l := v.copies) (k := i + 1) (n := v.copies.length) (by omega) (Nat.le_refl _)
              have hTs := tagTo_succ (frm := frm) (every := p.every) (to := to) hlt
              have hTl := tagTo_len (frm := frm) (every := p.every) (to := to) (l := v.copies) (k := i) (by omega)
              refine AWP.skip ?_
              refine AWP.seq ?_
              refine AWP.block ?_
              refine AWP.seq ?_
              refine AWP.region ?_
              refine AOps.step rfl rfl rfl (AOp.indexAddr rfl et_24 rfl rfl i rfl (at_list hlt) rfl) ?_
              refine AOps.step rfl rfl rfl (AOp.loadAgg rfl ag_77 rfl rfl) ?_
              refine AOps.alloc 102 rfl rfl rfl rfl zt_77 rfl rfl rfl ?_
              refine AOps.store rfl rfl rfl sz_77 rfl (.head _) rfl rfl rfl (Nat.le_of_ble_eq_true rfl) ?_
              refine AOps.nil ?_
              refine AWP.seq ?_
              refine AWP.region ?_
              refine AOps.step rfl rfl rfl (AOp.moveD rfl rfl) ?_
              refine AOps.step rfl rfl rfl (AOp.fieldAddrP rfl fo_77_4 rfl) ?_
              refine AOps.step rfl rfl rfl (AOp.loadP rfl sc_3 rfl (.head _) rfl) ?_
              refine AOps.step rfl rfl rfl (AOp.fieldAddr rfl fo_28_3 rfl) ?_
              refine AOps.step rfl rfl rfl (AOp.load rfl sc_3 rfl) ?_
              refine AOps.step rfl rfl rfl (AOp.add64 rfl rfl rfl (by omega) (by omega)) ?_
              refine AOps.step rfl rfl rfl (AOp.max rfl rfl rfl) ?_
              refine AOps.step rfl rfl rfl (AOp.assignD rfl rfl) ?_
              refine AOps.nil ?_
              refine AWP.block ?_
              refine AWP.loop (G := Nat) (fun j => Env.of [(18, .d (.v (.int .i64 (dayD frm p.every v.copies[i] j)))), (17, .ptr 102 0), (67, .d (.v (.int .i64 (i : Int)))), (65, .d (.sl (v.copies.map Cpy.ds))), (66, .d (.v (.int .i64 ((v.copies.map Cpy.ds).length : Int)))), (15, .own 1), (2, .d (.v (.int .i64 frm))), (3, .d (.v (.int .i64 to))), (5, .d (.fp p.ds))]) (fun j => [(102, .cells ((v.copies[i]).ds.map S.d)), (1, .row 46 3 (((tagTo frm p.every to v.copies i) ++ (tagC frm p.every to v.copies[i] i).take j).map tds))]) (fun j => j ≤ cntD frm p.every to v.copies[i]) (fun j => cntD frm p.every to v.copies[i] - j) 0 (Nat.zero_le _) (Sub.less ⟨(SLe.i64 (by unfold dayD; rw [max_fst]; simp)), SLe.refl _, SLe.refl _, SLe.refl _, SLe.refl _, SLe.refl _, SLe.refl _, SLe.refl _, SLe.refl _, trivial⟩ (row_both (by rw [List.take_zero, List.append_nil]))) ?_
              intro j hj
              refine AWP.seq ?_
              refine AWP.seq ?_
              refine AWP.region ?_
              refine AOps.step rfl rfl rfl (AOp.moveD rfl rfl) ?_
              refine AOps.step rfl rfl rfl (AOp.moveD rfl rfl) ?_
              refine AOps.step rfl rfl rfl (AOp.lss rfl rfl rfl) ?_
              refine AOps.nil ?_
              refine AWP.cond rfl (fun h8 => ?_) (fun h8 => ?_)
              · replace h8 := of_decide_eq_true h8
                have hjl : j < cntD frm p.every to v.copies[i] := (cnt_iff he.1 _ _).1 h8
                have hdb := day_bound he.1 hsp.1.1 hsp.2.2 hjl
                have hTn := tagC_next (frm := frm) (every := p.every) (to := to) v.copies[i] i hjl
                have hdn : dayD frm p.every v.copies[i] (j + 1) = dayD frm p.every v.copies[i] j + p.every := by unfold dayD; rw [show ((j + 1 : Nat) : Int) = (j : Int) + 1 from rfl, Int.add_mul, Int.one_mul]; omega
                refine AWP.skip ?_
                refine AWP.seq ?_
                refine AWP.block ?_
                refine AWP.region ?_
                refine AOps.step rfl rfl rfl (AOp.moveO rfl rfl) ?_
                refine AOps.step rfl rfl rfl (AOp.moveD rfl rfl) ?_
                refine AOps.step rfl rfl rfl (AOp.fieldAddrP rfl fo_77_0 rfl) ?_
                refine AOps.step rfl rfl rfl (AOp.loadP rfl sc_9 rfl (.head _) rfl) ?_
                refine AOps.step rfl rfl rfl (AOp.fieldAddrP rfl fo_77_1 rfl) ?_
                refine AOps.step rfl rfl rfl (AOp.loadP rfl sc_9 rfl (.head _) rfl) ?_
                refine AOps.step rfl rfl rfl (AOp.build rfl bu_46 (.cons rfl rfl (.cons rfl rfl (.cons rfl rfl .nil))) rfl) ?_
                refine AOps.step rfl rfl rfl (AOp.buildSlice rfl et_41 (.cons rfl rfl rfl .nil) rfl (by decide)) ?_
                -- append 93
                refine AOps.append rfl rfl rfl rfl et_41 rfl (.tail _ (.head _)) rfl (by simp [D.parts]) (by simp [tagC_len]; omega) (by simp [tagC_len]; omega) ?_
                refine AOps.step rfl rfl rfl (AOp.assignO rfl rfl) ?_
                refine AOps.nil ?_
                refine AWP.region ?_
                refine AOps.step rfl rfl rfl (AOp.moveD rfl rfl) ?_
                refine AOps.step rfl rfl rfl (AOp.fieldAddr rfl fo_28_3 rfl) ?_
                refine AOps.step rfl rfl rfl (AOp.load rfl sc_3 rfl) ?_
                refine AOps.step rfl rfl rfl (AOp.add64 rfl rfl rfl (by omega) (by omega)) ?_
                refine AOps.step rfl rfl rfl (AOp.assignD rfl rfl) ?_
                refine AOps.nil ?_
                refine ⟨j + 1, hjl, (by dsimp only; omega), Sub.less ⟨(SLe.i64 hdn.symm), SLe.refl _, SLe.refl _, SLe.refl _, SLe.refl _, SLe.refl _, SLe.refl _, SLe.refl _, SLe.refl _, trivial⟩ (row_both (by rw [hTn, ← List.append_assoc]; simp only [List.map_append]; rfl))⟩
              · replace h8 := of_decide_eq_false h8
                have hjl : ¬ j < cntD frm p.every to v.copies[i] := fun hh => h8 ((cnt_iff he.1 _ _).2 hh)
                obtain rfl : j = cntD frm p.every to v.copies[i] := by omega
                rw [show cntD frm p.every to v.copies[i] = (tagC frm p.every to v.copies[i] i).length from (tagC_len _ _).symm, List.take_length, ← hTs]
                refine AWP.exit ?_
                refine AWP.region ?_
                refine AOps.step rfl rfl rfl (AOp.add64 rfl rfl rfl (by omega) (by omega)) ?_
                refine AOps.step rfl rfl rfl (AOp.moveD rfl rfl) ?_
                refine AOps.nil ?_
                refine ⟨i + 1, (by omega), (by dsimp only; omega), Sub.less ⟨(SLe.of_eq rfl), SLe.refl _, SLe.refl _, SLe.refl _, SLe.refl _, SLe.refl _, SLe.refl _, trivial⟩ (row_same2 rfl)⟩
            · replace h7 := of_decide_eq_false h7
              rw [List.length_map] at h7
              obtain rfl : i = v.copies.length := by omega
              have hinc := tag_incr he.1 hsp.1.1 hsp.2.2 (l := v.copies) v.copies.length
              have hTl := tagTo_len (frm := frm) (every := p.every) (to := to) (l := v.copies) (Nat.le_refl _)
              refine AWP.exit ?_
              refine AWP.seq ?_
              refine AWP.region ?_
              refine AOps.step rfl rfl rfl (AOp.moveO rfl rfl) ?_
              -- turns 1
              refine AOps.callX rfl rfl rfl (.cons (SLe.refl _) (.cons (SLe.fn _) .nil)) ((c_sortStable cmpT pre_cmpT _ [] (fun x y => c_dueCmp x y) (dueAll v p frm to) (by show (tagTo _ _ _ _ _).length ≤ _; omega) (tags_of hinc) (incr_of hinc _)) 1) ⟨(.head _), trivial⟩ rfl rfl (fun _ h => nomatch h) ?_
              refine AOps.nil ?_
              refine AWP.seq ?_
              refine AWP.region ?_
              refine AOps.step rfl rfl rfl (AOp.moveO rfl rfl) ?_
              refine AOps.step rfl rfl rfl (AOp.assignO rfl rfl) ?_
              refine AOps.step rfl rfl rfl (AOp.assignD rfl rfl) ?_
              refine AOps.nil ?_
              refine AWP.ret ?_
              refine ⟨RetD.own rfl (.head _) ?_, RetD.eq rfl ?_, trivial⟩
              all_goals (rfl)

end Go.Proofs.YtieccphckobhjaaDoor
