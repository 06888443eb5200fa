/- Walks and laws over abstract values, merged by tools/merge.py. No statement of the seat. -/
import Derived.Test.YtieccphckobhjaaGreatDoorXI6

namespace Go.Proofs.YtieccphckobhjaaGreatDoor
open Go.RowKit
set_option linter.unusedVariables false

/-! Types. -/
namespace TyQ5

end TyQ5
open TyQ5


def vId (i : Nat) : Bool := Nat.blt i 1000 && !(Nat.beq i 101)
theorem vId_lt {i : Nat} (h : vId i = true) : i < 1000 ∧ Nat.beq 101 i = false := by
  unfold vId at h
  simp only [Bool.and_eq_true, Nat.blt_eq, Bool.not_eq_true'] at h
  refine ⟨h.1, ?_⟩
  rw [Bool.eq_false_iff]
  intro hh
  have := Nat.eq_of_beq_eq_true hh
  subst this
  simp at h
section
variable {l : List Cpy} {i : Nat} {o : Ob} {pre : Obs}
theorem vk (h : vId i = true) : Obs.kill i (vObs l) = vObs l := vObs_kill (vId_lt h).1
theorem vu (h : vId i = true) : Obs.upd i o (vObs l) = vObs l := by
  unfold vObs Obs.upd
  dsimp only
  rw [(vId_lt h).2]
  unfold famC
  rw [fam_upd_low (vId_lt h).1]
theorem vf (h : vId i = true) : Obs.fresh i (vObs l) = true := by
  unfold vObs Obs.fresh
  rw [(vId_lt h).2]
  simp [famC, fam_fresh (vId_lt h).1]
theorem kill_app : ∀ (a b : Obs), Obs.kill i (a ++ b) = Obs.kill i a ++ Obs.kill i b
  | [], _ => rfl
  | p :: a, b => by
    show (p.1, p.2.kill i) :: Obs.kill i (a ++ b) = _
    rw [kill_app a b]; rfl
theorem upd_t {p : Nat × Ob} {l : Obs} (h : Nat.beq p.1 i = true) : Obs.upd i o (p :: l) = (i, o) :: Obs.upd i o l := by
  show (match Nat.beq p.1 i with | true => (i, o) :: Obs.upd i o l | false => p :: Obs.upd i o l) = _
  rw [h]
theorem upd_f {p : Nat × Ob} {l : Obs} (h : Nat.beq p.1 i = false) : Obs.upd i o (p :: l) = p :: Obs.upd i o l := by
  show (match Nat.beq p.1 i with | true => (i, o) :: Obs.upd i o l | false => p :: Obs.upd i o l) = _
  rw [h]
theorem upd_app : ∀ (a b : Obs), Obs.upd i o (a ++ b) = Obs.upd i o a ++ Obs.upd i o b
  | [], _ => rfl
  | p :: a, b => by
    rw [List.cons_append]
    cases hb : Nat.beq p.1 i with
    | true => rw [upd_t hb, upd_t hb, upd_app a b]; rfl
    | false => rw [upd_f hb, upd_f hb, upd_app a b]; rfl
theorem fresh_app : ∀ (a b : Obs), Obs.fresh i (a ++ b) = (Obs.fresh i a && Obs.fresh i b)
  | [], _ => by simp [Obs.fresh]
  | p :: a, b => by
    show (!(Nat.beq p.1 i) && Obs.fresh i (a ++ b)) = ((!(Nat.beq p.1 i) && Obs.fresh i a) && Obs.fresh i b)
    rw [fresh_app a b, Bool.and_assoc]
theorem fK (h : vId i = true) (hp : Obs.fresh i pre = true) : Obs.fresh i (pre ++ vObs l) = true := by rw [fresh_app, hp, vf h]; rfl
end
section
variable {cx : Cx} {ops : Array Oper} {rest : List Oper} {e : Env} {Q : Post} {l : List Cpy} {i : Nat} {ob : Ob} {pre : Obs} {Φ : List Fr} {c : Code}
theorem AOps.nK (h : vId i = true) (k : AOps cx ops rest e (((i, ob) :: Obs.kill i pre) ++ vObs l) Q) : AOps cx ops rest e ((i, ob) :: Obs.kill i (pre ++ vObs l)) Q := by rw [kill_app, vk h]; exact k
theorem AOps.nU (h : vId i = true) (k : AOps cx ops rest e (Obs.upd i ob pre ++ vObs l) Q) : AOps cx ops rest e (Obs.upd i ob (pre ++ vObs l)) Q := by rw [upd_app, vu h]; exact k
end
theorem beqF {a b : Nat} (h : a ≠ b) : Nat.beq a b = false := by rw [Bool.eq_false_iff]; exact fun hh => h (Nat.eq_of_beq_eq_true hh)
section
variable {cx : Cx} {ops : Array Oper} {rest : List Oper} {e : Env} {Q : Post} {l : List Cpy} {o x : Ob} {pre : Obs}
end
end Go.Proofs.YtieccphckobhjaaGreatDoor


namespace Go.Proofs.YtieccphckobhjaaGreatDoor
open Go.RowKit
set_option linter.unusedVariables false

/-! Types. -/
namespace TyQ6
theorem et_24 : ElemTy Tryz.prog 24 65 7 96 (.agg #[(.string ⟨#[]⟩), (.string ⟨#[]⟩), (.string ⟨#[]⟩), (.int .i64 0), (.int .i64 0), (.int .i64 0), (.slice none 0 0)]) := ⟨by kernel_rfl, by kernel_rfl, by kernel_rfl, by decide⟩
theorem et_63 : ElemTy Tryz.prog 63 3 1 8 (.int .i64 0) := ⟨by kernel_rfl, by kernel_rfl, by kernel_rfl, by decide⟩
theorem fo_26_2 : fieldOff Tryz.prog 26 2 = some 2 := by kernel_rfl
theorem fo_65_0 : fieldOff Tryz.prog 65 0 = some 0 := by kernel_rfl
theorem fo_65_1 : fieldOff Tryz.prog 65 1 = some 1 := by kernel_rfl
theorem fo_65_4 : fieldOff Tryz.prog 65 4 = some 4 := by kernel_rfl
theorem fo_65_6 : fieldOff Tryz.prog 65 6 = some 6 := by kernel_rfl
theorem sc_24 : Scal Tryz.prog 24 := .of (by kernel_rfl)
theorem sc_3 : Scal Tryz.prog 3 := .of (by kernel_rfl)
theorem sc_63 : Scal Tryz.prog 63 := .of (by kernel_rfl)
theorem sc_9 : Scal Tryz.prog 9 := .of (by kernel_rfl)
theorem sz_3 : ∀ w, (sizeOf 3).run Tryz.prog w = .ok 1 w := SizeT.of (by kernel_rfl)
theorem zt_3 : (Tryz.prog.info? 3).bind (·.zero) = some (.int .i64 0) := by kernel_rfl
end TyQ6
open TyQ6


end Go.Proofs.YtieccphckobhjaaGreatDoor


namespace Go.Proofs.YtieccphckobhjaaGreatDoor
open Go.RowKit
set_option linter.unusedVariables false

/-! Types. -/
namespace TyQ7
theorem et_22 : ElemTy Tryz.prog 22 62 2 24 (.agg #[(.string ⟨#[]⟩), (.int .i64 0)]) := ⟨by kernel_rfl, by kernel_rfl, by kernel_rfl, by decide⟩
theorem et_23 : ElemTy Tryz.prog 23 59 5 64 (.agg #[(.string ⟨#[]⟩), (.string ⟨#[]⟩), (.string ⟨#[]⟩), (.int .i64 0), (.int .i64 0)]) := ⟨by kernel_rfl, by kernel_rfl, by kernel_rfl, by decide⟩
theorem et_24 : ElemTy Tryz.prog 24 65 7 96 (.agg #[(.string ⟨#[]⟩), (.string ⟨#[]⟩), (.string ⟨#[]⟩), (.int .i64 0), (.int .i64 0), (.int .i64 0), (.slice none 0 0)]) := ⟨by kernel_rfl, by kernel_rfl, by kernel_rfl, by decide⟩
theorem et_63 : ElemTy Tryz.prog 63 3 1 8 (.int .i64 0) := ⟨by kernel_rfl, by kernel_rfl, by kernel_rfl, by decide⟩
theorem fo_26_0 : fieldOff Tryz.prog 26 0 = some 0 := by kernel_rfl
theorem fo_26_1 : fieldOff Tryz.prog 26 1 = some 1 := by kernel_rfl
theorem fo_26_2 : fieldOff Tryz.prog 26 2 = some 2 := by kernel_rfl
theorem sc_22 : Scal Tryz.prog 22 := .of (by kernel_rfl)
theorem sc_23 : Scal Tryz.prog 23 := .of (by kernel_rfl)
theorem sc_24 : Scal Tryz.prog 24 := .of (by kernel_rfl)
theorem sz_22 : ∀ w, (sizeOf 22).run Tryz.prog w = .ok 1 w := SizeT.of (by kernel_rfl)
theorem sz_23 : ∀ w, (sizeOf 23).run Tryz.prog w = .ok 1 w := SizeT.of (by kernel_rfl)
theorem sz_24 : ∀ w, (sizeOf 24).run Tryz.prog w = .ok 1 w := SizeT.of (by kernel_rfl)
theorem zt_26 : (Tryz.prog.info? 26).bind (·.zero) = some (.agg #[(.slice none 0 0), (.slice none 0 0), (.slice none 0 0)]) := by kernel_rfl
end TyQ7
open TyQ7

set_option maxRecDepth 100000 in
set_option maxHeartbeats 1000000 in
theorem c_clItem (l : List Item) (hl : l.length ≤ 1000000) : OCall Tryz.prog 86 [.sl (l.map Item.ds)] 62 2 (l.map Item.ds) := by
  refine ocall_of (n := 8) Tryz.func86 rfl (by kernel_rfl) rfl 2 rfl rfl ?_
  intro B w0 F0 fr
  refine (Classical.em (l = [])).elim (fun hn => ?_) (fun hn => ?_)
  subst hn
  refine AWP.nilOr 0 rfl ?_ (fun ad cap hcap => ?_)
  · skip
    refine AWP.seq (AWP.region ?_)
    refine AOps.aD rfl rfl rfl rfl rfl (.nil ?_)
    refine AWP.seq ?_
    refine AWP.seq (AWP.region ?_)
    refine AOps.mD rfl rfl rfl rfl rfl ?_
    refine AOps.step rfl rfl rfl (AOp.eqNilV rfl Tryz.underlying22 rfl rfl) (.nil ?_)
    refine AWP.cond rfl (fun _ => ?_) (fun h => nomatch h)
    refine AWP.seq (AWP.region ?_)
    refine AOps.aD rfl rfl rfl rfl rfl (.nil ?_)
    refine AWP.adopt 2 51 62 2 rfl rfl ?_
    refine AWP.ret ?_
    refine ⟨51, rfl, mem_row_eq (.head _) ?_⟩
    first | rfl | simp
  · skip
    refine AWP.seq (AWP.region ?_)
    refine AOps.aD rfl rfl rfl rfl rfl (.nil ?_)
    refine AWP.seq ?_
    refine AWP.seq (AWP.region ?_)
    refine AOps.mD rfl rfl rfl rfl rfl ?_
    refine AOps.step rfl rfl rfl (AOp.eqNilV rfl Tryz.underlying22 rfl rfl) (.nil ?_)
    refine AWP.cond rfl (fun h => nomatch h) (fun _ => ?_)
    refine AWP.skip ?_
    refine AWP.seq (AWP.region ?_)
    refine AOps.build0 102 rfl rfl rfl rfl et_22 rfl ?_
    refine AOps.mD rfl rfl rfl rfl rfl ?_
    refine AOps.le 6 rfl (SLe.d (Le.empty hcap)) ?_
    -- append 7
    refine AOps.append rfl rfl rfl rfl et_22 rfl (.head _) rfl (fun y hy => by first | exact absurd hy List.not_mem_nil | (obtain ⟨x, _, rfl⟩ := List.mem_map.1 hy; rfl)) (by simp; try omega) (by simp; try omega) ?_
    refine AOps.step rfl rfl rfl (AOp.assignO rfl rfl) (.nil ?_)
    refine AWP.ret ?_
    refine ⟨102, rfl, mem_row_eq (.head _) ?_⟩
    first | rfl | simp
  refine AWP.seq (AWP.region ?_)
  refine AOps.aD rfl rfl rfl rfl rfl (.nil ?_)
  refine AWP.seq ?_
  refine AWP.seq (AWP.region ?_)
  refine AOps.mD rfl rfl rfl rfl rfl ?_
  refine AOps.step rfl rfl rfl (AOp.eqNilS rfl Tryz.underlying22 rfl rfl (fun h => hn (List.map_eq_nil_iff.1 h))) (.nil ?_)
  refine AWP.cond rfl (fun h => nomatch h) (fun _ => ?_)
  refine AWP.skip ?_
  refine AWP.seq (AWP.region ?_)
  refine AOps.build0 103 rfl rfl rfl rfl et_22 rfl ?_
  refine AOps.mD rfl rfl rfl rfl rfl ?_
  -- append 7
  refine AOps.append rfl rfl rfl rfl et_22 rfl (.head _) rfl (fun y hy => by first | exact absurd hy List.not_mem_nil | (obtain ⟨x, _, rfl⟩ := List.mem_map.1 hy; rfl)) (by simp; try omega) (by simp; try omega) ?_
  refine AOps.step rfl rfl rfl (AOp.assignO rfl rfl) (.nil ?_)
  refine AWP.ret ?_
  refine ⟨103, rfl, mem_row_eq (.head _) ?_⟩
  first | rfl | simp

set_option maxRecDepth 100000 in
set_option maxHeartbeats 1000000 in
theorem c_clCarr (l : List Carr) (hl : l.length ≤ 1000000) : OCall Tryz.prog 29 [.sl (l.map Carr.ds)] 59 5 (l.map Carr.ds) := by
  refine ocall_of (n := 8) Tryz.func29 rfl (by kernel_rfl) rfl 2 rfl rfl ?_
  intro B w0 F0 fr
  refine (Classical.em (l = [])).elim (fun hn => ?_) (fun hn => ?_)
  subst hn
  refine AWP.nilOr 0 rfl ?_ (fun ad cap hcap => ?_)
  · skip
    refine AWP.seq (AWP.region ?_)
    refine AOps.aD rfl rfl rfl rfl rfl (.nil ?_)
    refine AWP.seq ?_
    refine AWP.seq (AWP.region ?_)
    refine AOps.mD rfl rfl rfl rfl rfl ?_
    refine AOps.step rfl rfl rfl (AOp.eqNilV rfl Tryz.underlying23 rfl rfl) (.nil ?_)
    refine AWP.cond rfl (fun _ => ?_) (fun h => nomatch h)
    refine AWP.seq (AWP.region ?_)
    refine AOps.aD rfl rfl rfl rfl rfl (.nil ?_)
    refine AWP.adopt 2 51 59 5 rfl rfl ?_
    refine AWP.ret ?_
    refine ⟨51, rfl, mem_row_eq (.head _) ?_⟩
    first | rfl | simp
  · skip
    refine AWP.seq (AWP.region ?_)
    refine AOps.aD rfl rfl rfl rfl rfl (.nil ?_)
    refine AWP.seq ?_
    refine AWP.seq (AWP.region ?_)
    refine AOps.mD rfl rfl rfl rfl rfl ?_
    refine AOps.step rfl rfl rfl (AOp.eqNilV rfl Tryz.underlying23 rfl rfl) (.nil ?_)
    refine AWP.cond rfl (fun h => nomatch h) (fun _ => ?_)
    refine AWP.skip ?_
    refine AWP.seq (AWP.region ?_)
    refine AOps.build0 102 rfl rfl rfl rfl et_23 rfl ?_
    refine AOps.mD rfl rfl rfl rfl rfl ?_
    refine AOps.le 6 rfl (SLe.d (Le.empty hcap)) ?_
    -- append 7
    refine AOps.append rfl rfl rfl rfl et_23 rfl (.head _) rfl (fun y hy => by first | exact absurd hy List.not_mem_nil | (obtain ⟨x, _, rfl⟩ := List.mem_map.1 hy; rfl)) (by simp; try omega) (by simp; try omega) ?_
    refine AOps.step rfl rfl rfl (AOp.assignO rfl rfl) (.nil ?_)
    refine AWP.ret ?_
    refine ⟨102, rfl, mem_row_eq (.head _) ?_⟩
    first | rfl | simp
  refine AWP.seq (AWP.region ?_)
  refine AOps.aD rfl rfl rfl rfl rfl (.nil ?_)
  refine AWP.seq ?_
  refine AWP.seq (AWP.region ?_)
  refine AOps.mD rfl rfl rfl rfl rfl ?_
  refine AOps.step rfl rfl rfl (AOp.eqNilS rfl Tryz.underlying23 rfl rfl (fun h => hn (List.map_eq_nil_iff.1 h))) (.nil ?_)
  refine AWP.cond rfl (fun h => nomatch h) (fun _ => ?_)
  refine AWP.skip ?_
  refine AWP.seq (AWP.region ?_)
  refine AOps.build0 103 rfl rfl rfl rfl et_23 rfl ?_
  refine AOps.mD rfl rfl rfl rfl rfl ?_
  -- append 7
  refine AOps.append rfl rfl rfl rfl et_23 rfl (.head _) rfl (fun y hy => by first | exact absurd hy List.not_mem_nil | (obtain ⟨x, _, rfl⟩ := List.mem_map.1 hy; rfl)) (by simp; try omega) (by simp; try omega) ?_
  refine AOps.step rfl rfl rfl (AOp.assignO rfl rfl) (.nil ?_)
  refine AWP.ret ?_
  refine ⟨103, rfl, mem_row_eq (.head _) ?_⟩
  first | rfl | simp

set_option maxRecDepth 100000 in
set_option maxHeartbeats 1000000 in
theorem c_clCpy (l : List Cpy) (hl : l.length ≤ 1000000) : OCall Tryz.prog 87 [.sl (l.map Cpy.ds)] 65 7 (l.map Cpy.ds) := by
  refine ocall_of (n := 8) Tryz.func87 rfl (by kernel_rfl) rfl 2 rfl rfl ?_
  intro B w0 F0 fr
  refine (Classical.em (l = [])).elim (fun hn => ?_) (fun hn => ?_)
  subst hn
  refine AWP.nilOr 0 rfl ?_ (fun ad cap hcap => ?_)
  · skip
    refine AWP.seq (AWP.region ?_)
    refine AOps.aD rfl rfl rfl rfl rfl (.nil ?_)
    refine AWP.seq ?_
    refine AWP.seq (AWP.region ?_)
    refine AOps.mD rfl rfl rfl rfl rfl ?_
    refine AOps.step rfl rfl rfl (AOp.eqNilV rfl Tryz.underlying24 rfl rfl) (.nil ?_)
    refine AWP.cond rfl (fun _ => ?_) (fun h => nomatch h)
    refine AWP.seq (AWP.region ?_)
    refine AOps.aD rfl rfl rfl rfl rfl (.nil ?_)
    refine AWP.adopt 2 51 65 7 rfl rfl ?_
    refine AWP.ret ?_
    refine ⟨51, rfl, mem_row_eq (.head _) ?_⟩
    first | rfl | simp
  · skip
    refine AWP.seq (AWP.region ?_)
    refine AOps.aD rfl rfl rfl rfl rfl (.nil ?_)
    refine AWP.seq ?_
    refine AWP.seq (AWP.region ?_)
    refine AOps.mD rfl rfl rfl rfl rfl ?_
    refine AOps.step rfl rfl rfl (AOp.eqNilV rfl Tryz.underlying24 rfl rfl) (.nil ?_)
    refine AWP.cond rfl (fun h => nomatch h) (fun _ => ?_)
    refine AWP.skip ?_
    refine AWP.seq (AWP.region ?_)
    refine AOps.build0 102 rfl rfl rfl rfl et_24 rfl ?_
    refine AOps.mD rfl rfl rfl rfl rfl ?_
    refine AOps.le 6 rfl (SLe.d (Le.empty hcap)) ?_
    -- append 7
    refine AOps.append rfl rfl rfl rfl et_24 rfl (.head _) rfl (fun y hy => by first | exact absurd hy List.not_mem_nil | (obtain ⟨x, _, rfl⟩ := List.mem_map.1 hy; rfl)) (by simp; try omega) (by simp; try omega) ?_
    refine AOps.step rfl rfl rfl (AOp.assignO rfl rfl) (.nil ?_)
    refine AWP.ret ?_
    refine ⟨102, rfl, mem_row_eq (.head _) ?_⟩
    first | rfl | simp
  refine AWP.seq (AWP.region ?_)
  refine AOps.aD rfl rfl rfl rfl rfl (.nil ?_)
  refine AWP.seq ?_
  refine AWP.seq (AWP.region ?_)
  refine AOps.mD rfl rfl rfl rfl rfl ?_
  refine AOps.step rfl rfl rfl (AOp.eqNilS rfl Tryz.underlying24 rfl rfl (fun h => hn (List.map_eq_nil_iff.1 h))) (.nil ?_)
  refine AWP.cond rfl (fun h => nomatch h) (fun _ => ?_)
  refine AWP.skip ?_
  refine AWP.seq (AWP.region ?_)
  refine AOps.build0 103 rfl rfl rfl rfl et_24 rfl ?_
  refine AOps.mD rfl rfl rfl rfl rfl ?_
  -- append 7
  refine AOps.append rfl rfl rfl rfl et_24 rfl (.head _) rfl (fun y hy => by first | exact absurd hy List.not_mem_nil | (obtain ⟨x, _, rfl⟩ := List.mem_map.1 hy; rfl)) (by simp; try omega) (by simp; try omega) ?_
  refine AOps.step rfl rfl rfl (AOp.assignO rfl rfl) (.nil ?_)
  refine AWP.ret ?_
  refine ⟨103, rfl, mem_row_eq (.head _) ?_⟩
  first | rfl | simp

set_option maxRecDepth 100000 in
set_option maxHeartbeats 1000000 in
theorem c_clInt (l : List Int) (hl : l.length ≤ 1000000) : OCall Tryz.prog 88 [.sl (l.map intD)] 3 1 (l.map intD) := by
  refine ocall_of (n := 8) Tryz.func88 rfl (by kernel_rfl) rfl 2 rfl rfl ?_
  intro B w0 F0 fr
  refine (Classical.em (l = [])).elim (fun hn => ?_) (fun hn => ?_)
  subst hn
  refine AWP.nilOr 0 rfl ?_ (fun ad cap hcap => ?_)
  · skip
    refine AWP.seq (AWP.region ?_)
    refine AOps.aD rfl rfl rfl rfl rfl (.nil ?_)
    refine AWP.seq ?_
    refine AWP.seq (AWP.region ?_)
    refine AOps.mD rfl rfl rfl rfl rfl ?_
    refine AOps.step rfl rfl rfl (AOp.eqNilV rfl Tryz.underlying63 rfl rfl) (.nil ?_)
    refine AWP.cond rfl (fun _ => ?_) (fun h => nomatch h)
    refine AWP.seq (AWP.region ?_)
    refine AOps.aD rfl rfl rfl rfl rfl (.nil ?_)
    refine AWP.adopt 2 51 3 1 rfl rfl ?_
    refine AWP.ret ?_
    refine ⟨51, rfl, mem_row_eq (.head _) ?_⟩
    first | rfl | simp
  · skip
    refine AWP.seq (AWP.region ?_)
    refine AOps.aD rfl rfl rfl rfl rfl (.nil ?_)
    refine AWP.seq ?_
    refine AWP.seq (AWP.region ?_)
    refine AOps.mD rfl rfl rfl rfl rfl ?_
    refine AOps.step rfl rfl rfl (AOp.eqNilV rfl Tryz.underlying63 rfl rfl) (.nil ?_)
    refine AWP.cond rfl (fun h => nomatch h) (fun _ => ?_)
    refine AWP.skip ?_
    refine AWP.seq (AWP.region ?_)
    refine AOps.build0 102 rfl rfl rfl rfl et_63 rfl ?_
    refine AOps.mD rfl rfl rfl rfl rfl ?_
    refine AOps.le 6 rfl (SLe.d (Le.empty hcap)) ?_
    -- append 7
    refine AOps.append rfl rfl rfl rfl et_63 rfl (.head _) rfl (fun y hy => by first | exact absurd hy List.not_mem_nil | (obtain ⟨x, _, rfl⟩ := List.mem_map.1 hy; rfl)) (by simp; try omega) (by simp; try omega) ?_
    refine AOps.step rfl rfl rfl (AOp.assignO rfl rfl) (.nil ?_)
    refine AWP.ret ?_
    refine ⟨102, rfl, mem_row_eq (.head _) ?_⟩
    first | rfl | simp
  refine AWP.seq (AWP.region ?_)
  refine AOps.aD rfl rfl rfl rfl rfl (.nil ?_)
  refine AWP.seq ?_
  refine AWP.seq (AWP.region ?_)
  refine AOps.mD rfl rfl rfl rfl rfl ?_
  refine AOps.step rfl rfl rfl (AOp.eqNilS rfl Tryz.underlying63 rfl rfl (fun h => hn (List.map_eq_nil_iff.1 h))) (.nil ?_)
  refine AWP.cond rfl (fun h => nomatch h) (fun _ => ?_)
  refine AWP.skip ?_
  refine AWP.seq (AWP.region ?_)
  refine AOps.build0 103 rfl rfl rfl rfl et_63 rfl ?_
  refine AOps.mD rfl rfl rfl rfl rfl ?_
  -- append 7
  refine AOps.append rfl rfl rfl rfl et_63 rfl (.head _) rfl (fun y hy => by first | exact absurd hy List.not_mem_nil | (obtain ⟨x, _, rfl⟩ := List.mem_map.1 hy; rfl)) (by simp; try omega) (by simp; try omega) ?_
  refine AOps.step rfl rfl rfl (AOp.assignO rfl rfl) (.nil ?_)
  refine AWP.ret ?_
  refine ⟨103, rfl, mem_row_eq (.head _) ?_⟩
  first | rfl | simp


theorem killSelf (i : Nat) : S.kill i (.own i) = .d .any := by simp [S.kill]
theorem killP' {i t off : Nat} (h : t ≠ i) : S.kill i (.ptr t off) = .ptr t off := by simp only [S.kill, beqF h]
theorem killO' {i t : Nat} (h : t ≠ i) : S.kill i (.own t) = .own t := by simp only [S.kill, beqF h]
theorem mem_upd_ne {i : Nat} {o : Ob} : ∀ {σ : Obs} {p : Nat × Ob}, p ∈ σ → p.1 ≠ i → p ∈ Obs.upd i o σ
  | [], _, h, _ => by cases h
  | q :: l, p, h, hn => by
    cases hb : Nat.beq q.1 i with
    | true =>
      rw [upd_t hb]
      rcases List.mem_cons.1 h with rfl | h
      · exact absurd (Nat.eq_of_beq_eq_true hb) hn
      · exact .tail _ (mem_upd_ne h hn)
    | false =>
      rw [upd_f hb]
      rcases List.mem_cons.1 h with rfl | h
      · exact .head _
      · exact .tail _ (mem_upd_ne h hn)
theorem mem_upd_eq {i : Nat} {o x : Ob} : ∀ {σ : Obs}, (i, x) ∈ σ → (i, o) ∈ Obs.upd i o σ
  | [], h => by cases h
  | q :: l, h => by
    cases hb : Nat.beq q.1 i with
    | true => rw [upd_t hb]; exact .head _
    | false =>
      rw [upd_f hb]
      rcases List.mem_cons.1 h with rfl | h
      · simp at hb
      · exact .tail _ (mem_upd_eq h)
theorem XRun.set {cx : Cx} {ops : Array Oper} {σ : Obs} {Φ : List Fr} {l : List Oper} {e : Env} {Qe : Env → Prop} (t : Nat) {s : S} (ht : e t = s) (k : XRun cx ops σ Φ l (e.put (some t) s) Qe) : XRun cx ops σ Φ l e Qe := by
  have : e.put (some t) s = e := by
    funext u
    by_cases hu : u = t
    · subst hu; rw [Env.put_same, ht]
    · rw [Env.put_other _ _ _ _ hu]
  rw [this] at k
  exact k
/-- The copies as cells, where the first k have their own damaged blocks. -/
def mixS : Nat → Nat → List Cpy → List (List S)
  | _, 0, l => l.map fun c => c.ds.map S.d
  | _, _ + 1, [] => []
  | b, k + 1, c :: l => cpyS b c :: mixS (b + 1) k l
theorem mixS_len : ∀ (b k : Nat) (l : List Cpy), (mixS b k l).length = l.length
  | _, 0, l => by simp [mixS]
  | _, _ + 1, [] => rfl
  | b, k + 1, c :: l => by simp [mixS, mixS_len (b + 1) k l]
theorem mixS_at : ∀ {b k : Nat} {l : List Cpy} (h : k < l.length), (mixS b k l)[k]? = some (l[k].ds.map S.d)
  | b, 0, l, h => by simp [mixS, h]
  | b, k + 1, c :: l, h => by
    have := mixS_at (b := b + 1) (k := k) (l := l) (by simpa using h)
    simpa [mixS] using this
theorem mixS_set : ∀ {b k : Nat} {l : List Cpy} (h : k < l.length), (mixS b k l).set k ((l[k].ds.map S.d).set 6 (.own (b + k))) = mixS b (k + 1) l
  | b, 0, c :: l, h => by simp [mixS, Cpy.ds, cpyS]
  | b, k + 1, c :: l, h => by
    have := mixS_set (b := b + 1) (k := k) (l := l) (by simpa using h)
    rw [show b + 1 + k = b + (k + 1) by omega] at this
    simp only [mixS, List.set_cons_succ, List.getElem_cons_succ]
    rw [this]
theorem mixS_all : ∀ (b : Nat) (l : List Cpy), mixS b l.length l = cpysS b l
  | _, [] => rfl
  | b, c :: l => by simp [mixS, cpysS, mixS_all (b + 1) l]
theorem data_kill (i : Nat) (l : List Cpy) : (l.map fun c => c.ds.map S.d).map (fun ss => ss.map (S.kill i)) = l.map fun c => c.ds.map S.d := by
  rw [List.map_map]
  congr 1
theorem mixS_kill : ∀ {b k i : Nat} {l : List Cpy}, b + k ≤ i → (mixS b k l).map (fun ss => ss.map (S.kill i)) = mixS b k l
  | b, 0, i, l, _ => data_kill i l
  | b, k + 1, i, [], _ => rfl
  | b, k + 1, i, c :: l, h => by
    have ih := mixS_kill (b := b + 1) (k := k) (i := i) (l := l) (by omega)
    have h1 : Nat.beq b i = false := beqF (by omega)
    simp only [mixS, List.map_cons, ih]
    simp [cpyS, S.kill, h1]
theorem fam_snoc {e size : Nat} : ∀ {b : Nat} {l : List (List (List D))} {x : List (List D)}, fam e size b (l ++ [x]) = fam e size b l ++ [(b + l.length, .row e size x)]
  | b, [], x => rfl
  | b, y :: l, x => by
    have := fam_snoc (e := e) (size := size) (b := b + 1) (l := l) (x := x)
    rw [List.cons_append]
    unfold fam
    rw [this, List.length_cons, show b + 1 + l.length = b + (l.length + 1) by omega]
    rfl
theorem badsD_take {l : List Cpy} {k : Nat} (h : k < l.length) : badsD (l.take (k + 1)) = badsD (l.take k) ++ [l[k].bad.map intD] := by
  unfold badsD
  rw [List.take_add_one, List.getElem?_eq_getElem h, Option.toList_some, List.map_append]
  rfl
theorem badsD_len (l : List Cpy) : (badsD l).length = l.length := by simp [badsD]
def ZV : List S := [.d (.v (.slice none 0 0)), .d (.v (.slice none 0 0)), .d (.v (.slice none 0 0))]
/-- The objects while the k-th copy is being cloned. -/
def ownObs (v : Vlt) (k : Nat) : Obs := [(12, .cells ZV), (11, .cells (vaultS v)), (101, .rowS 65 7 (mixS 1000 k v.copies))] ++ fam 3 1 1000 (badsD (v.copies.take k))
theorem fam_fresh2 {e size : Nat} : ∀ {b : Nat} {l : List (List (List D))} {i : Nat}, b + l.length ≤ i → Obs.fresh i (fam e size b l) = true
  | _, [], _, _ => rfl
  | b, y :: l, i, h => by
    have h1 : Nat.beq b i = false := beqF (by simp at h; omega)
    unfold fam Obs.fresh
    rw [h1, fam_fresh2 (b := b + 1) (by simp at h; omega)]
    rfl
theorem own_fresh {v : Vlt} {k : Nat} (h : k < v.copies.length) : Obs.fresh (1000 + k) (ownObs v k) = true := by
  unfold ownObs
  rw [fresh_app, fam_fresh2 (by rw [badsD_len, List.length_take]; omega)]
  simp [Obs.fresh, beqF (show 12 ≠ 1000 + k by omega), beqF (show 11 ≠ 1000 + k by omega), beqF (show 101 ≠ 1000 + k by omega)]
theorem own_kill {v : Vlt} {k : Nat} : Obs.kill (1000 + k) (ownObs v k) = ownObs v k := by
  unfold ownObs
  rw [kill_app, fam_kill]
  have h1 : S.kill (1000 + k) (.own 101) = .own 101 := killO' (by omega)
  show [(12, Ob.cells ((ZV).map (S.kill (1000 + k)))), (11, Ob.cells ((vaultS v).map (S.kill (1000 + k)))), (101, Ob.rowS _ 7 ((mixS 1000 k v.copies).map fun ss => ss.map (S.kill (1000 + k))))] ++ _ = _
  rw [mixS_kill (Nat.le_refl _)]
  have h2 : (vaultS v).map (S.kill (1000 + k)) = vaultS v := by
    show [_, _, S.kill (1000 + k) (.own 101)] = _
    rw [h1]; rfl
  rw [h2]
  rfl
/-- .. and behind it. -/
theorem own_next {v : Vlt} {k : Nat} (h : k < v.copies.length) : ∀ p ∈ ownObs v (k + 1), p ∈ Obs.upd 101 (.rowS 65 7 ((mixS 1000 k v.copies).set k ((v.copies[k].ds.map S.d).set 6 (.own (1000 + k))))) ([(1000 + k, .row 3 1 (v.copies[k].bad.map intD))] ++ ownObs v k) := by
  intro p hp
  rw [mixS_set h]
  unfold ownObs at hp
  rw [badsD_take h, fam_snoc, badsD_len, List.length_take, Nat.min_eq_left (by omega)] at hp
  rcases List.mem_append.1 hp with hp | hp
  · rcases List.mem_cons.1 hp with rfl | hp
    · exact mem_upd_ne (List.mem_append_right _ (List.mem_append_left _ (.head _))) (by show 12 ≠ 101; decide)
    · rcases List.mem_cons.1 hp with rfl | hp
      · exact mem_upd_ne (List.mem_append_right _ (List.mem_append_left _ (.tail _ (.head _)))) (by show 11 ≠ 101; decide)
      · have hp : p = _ := List.mem_singleton.1 hp
        subst hp
        exact mem_upd_eq (List.mem_append_right _ (List.mem_append_left _ (.tail _ (.tail _ (.head _)))))
  · rcases List.mem_append.1 hp with hp | hp
    · refine mem_upd_ne (List.mem_append_right _ (List.mem_append_right _ hp)) ?_
      obtain ⟨m, x, _, rfl⟩ := fam_mem hp
      show 1000 + m ≠ 101
      omega
    · have hp : p = _ := List.mem_singleton.1 hp
      subst hp
      exact mem_upd_ne (List.mem_append_left _ (.head _)) (by show 1000 + k ≠ 101; omega)
theorem own_end {v : Vlt} : ownObs v v.copies.length = [(12, .cells ZV), (11, .cells (vaultS v))] ++ vObs v.copies := by
  unfold ownObs vObs famC
  rw [mixS_all, List.take_length]
  rfl
theorem hsz_26 : ∀ w, (sizeOf 26).run Tryz.prog w = .ok 3 w := SizeT.of (by kernel_rfl)



set_option maxRecDepth 100000 in
set_option maxHeartbeats 1000000 in
set_option maxRecDepth 20000 in
set_option maxHeartbeats 2000000 in
theorem c_own (v : Vlt) (vo : VOk v) : XSCall Tryz.prog 36 [.d (.agg v.ds)] [] ((100, .val (vaultS v)) :: vObs v.copies) (fun i => Nat.ble 1000 i || Nat.blt i 102) (.own 100) := by
  have hni := vo.ni
  have hnc := vo.nc
  have hnp := vo.np
  have hfx : ∀ k, (!(!(Nat.ble 1000 (1000 + k) || Nat.blt (1000 + k) 102))) = true := fun k => by
    have : Nat.ble 1000 (1000 + k) = true := Nat.ble_eq_true_of_le (by omega)
    rw [this]; rfl
  refine xval_of (n := 36) (b := 2) (t := 26) (size := 3) (vid := 100) (ss' := vaultS v) Tryz.func36 rfl (by kernel_rfl) rfl rfl hag_v rfl rfl rfl ?_
  intro B w0 F0 fr ρ0
  refine AWP.seq (AWP.region ?_)
  refine AOps.boxOwn 11 rfl rfl rfl rfl rfl rfl rfl ?_
  refine AOps.alloc 12 rfl rfl rfl rfl zt_26 rfl rfl rfl (.nil ?_)
  refine AWP.seq ?_
  refine AWP.drawFresh 10 [⟨12, 101, .own 101, .row 65 7 (v.copies.map Cpy.ds)⟩] (FrOk.one rfl (by simp) rfl rfl rfl) (by kernel_rfl) (by kernel_rfl) (by kernel_rfl) (by kernel_rfl) ?_
  refine XRun.step rfl rfl rfl (AOp.fieldAddrP rfl fo_26_0 rfl) ?_
  refine XRun.step rfl rfl rfl (AOp.loadP rfl sc_22 rfl (.tail _ (.head _)) rfl) ?_
  refine XRun.step rfl rfl rfl (AOp.call rfl (.cons (ArgOk.rfl' rfl) .nil) ((c_clItem v.items (by omega)).toA)) ?_
  refine XRun.step rfl rfl rfl (AOp.fieldAddrP rfl fo_26_1 rfl) ?_
  refine XRun.step rfl rfl rfl (AOp.loadP rfl sc_23 rfl (.tail _ (.head _)) rfl) ?_
  refine XRun.step rfl rfl rfl (AOp.call rfl (.cons (ArgOk.rfl' rfl) .nil) ((c_clCarr v.carrs (by omega)).toA)) ?_
  refine XRun.step rfl rfl rfl (AOp.fieldAddrP rfl fo_26_2 rfl) ?_
  refine XRun.step rfl rfl rfl (AOp.loadP rfl sc_24 rfl (.tail _ (.head _)) rfl) ?_
  refine XRun.callO _ (.head _) rfl rfl rfl rfl rfl (.cons (ArgOk.rfl' rfl) .nil) (c_clCpy v.copies (by omega)) rfl rfl ?_
  refine XRun.step rfl rfl rfl (AOp.fieldAddrP rfl fo_26_0 rfl) ?_
  refine XRun.nil ⟨rfl, trivial⟩ ?_
  refine AOps.store rfl rfl rfl sz_22 rfl (.tail _ (.tail _ (.head _))) rfl rfl rfl (Nat.le_of_ble_eq_true rfl) ?_
  refine AOps.step rfl rfl rfl (AOp.fieldAddrP rfl fo_26_1 rfl) ?_
  refine AOps.store rfl rfl rfl sz_23 rfl (.tail _ (.tail _ (.head _))) rfl rfl rfl (Nat.le_of_ble_eq_true rfl) ?_
  refine AOps.step rfl rfl rfl (AOp.fieldAddrP rfl fo_26_2 rfl) ?_
  refine AOps.storeS rfl rfl rfl sz_24 rfl (.tail _ (.tail _ (.head _))) rfl (.head _) (Nat.le_of_ble_eq_true rfl) (.nil ?_)
  refine AWP.seq ?_
  refine AWP.seq ?_
  refine AWP.rowToS 101 (ee := 65) (size := 7) (els := v.copies.map Cpy.ds) (by first | exact .head _ | exact .tail _ (.head _) | exact .tail _ (.tail _ (.head _))) ?_
  refine AWP.obs (σ' := ownObs v 0) (fun p hp => ?_) ?_
  · have hr : (v.copies.map Cpy.ds).map (fun ds => ds.map S.d) = mixS 1000 0 v.copies := by simp [mixS]
    rw [hr]
    rcases List.mem_cons.1 hp with rfl | hp
    · first | exact .head _ | exact .tail _ (.head _) | exact .tail _ (.tail _ (.head _))
    rcases List.mem_cons.1 hp with rfl | hp
    · first | exact .head _ | exact .tail _ (.head _) | exact .tail _ (.tail _ (.head _))
    have hp : p = _ := List.mem_singleton.1 hp
    subst hp
    first | exact .head _ | exact .tail _ (.head _) | exact .tail _ (.tail _ (.head _))
  refine AWP.region ?_
  refine AOps.step rfl rfl rfl (AOp.fieldAddrP rfl fo_26_2 rfl) ?_
  refine AOps.step rfl rfl rfl (AOp.loadP rfl sc_24 rfl (.tail _ (.head _)) rfl) ?_
  refine AOps.step rfl rfl rfl (AOp.weak (AOp.lenOwn rfl het_24.ht rfl (Obs.weak_mem (p := (101, _)) (.tail _ (.tail _ (.head _)))))) ?_
  refine AOps.mD rfl rfl rfl rfl rfl (.nil ?_)
  refine AWP.block ?_
  refine AWP.loop (G := Nat) (fun k => Env.of [(19, .d (.v (.int .i64 (k : Int)))), (18, .d (.v (.int .i64 (((mixS 1000 0 v.copies).map fun ss => ss.map S.weak).length : Int)))), (1, .ptr 11 0), (2, .ptr 12 0)]) (fun k => ownObs v k) (fun k => k ≤ v.copies.length) (fun k => v.copies.length - k) 0 (Nat.zero_le _) (Sub.less ⟨(SLe.of_eq rfl), SLe.refl _, SLe.refl _, SLe.refl _, trivial⟩ (fun _ h => h)) ?_
  intro k hk
  refine AWP.seq (AWP.region ?_)
  refine AOps.step rfl rfl rfl (AOp.lss rfl rfl rfl) (.nil ?_)
  refine AWP.seq ?_
  refine AWP.cond rfl (fun h1 => ?_) (fun h1 => ?_)
  · replace h1 := of_decide_eq_true h1
    rw [List.length_map, mixS_len] at h1
    have hlt : k < v.copies.length := by omega
    have hbk := vok_bad (v := v) vo _ (List.getElem_mem hlt)
    refine AWP.skip ?_
    refine AWP.seq ?_
    refine AWP.block ?_
    refine AWP.seq (AWP.region ?_)
    refine AOps.mD rfl rfl rfl rfl rfl ?_
    refine AOps.aD rfl rfl rfl rfl rfl (.nil ?_)
    refine AWP.drawFresh 10 [⟨31, 1000 + k, .own (1000 + k), .row 3 1 (v.copies[k].bad.map intD)⟩] (FrOk.one (killSelf _) (by simp) (own_fresh hlt) own_kill (hfx k)) (by kernel_rfl) (by kernel_rfl) (by kernel_rfl) (by kernel_rfl) ?_
    refine XRun.set 1 (s := .ptr 11 0) (killP' (i := 1000 + k) (t := 11) (off := 0) (by omega)) ?_
    refine XRun.set 2 (s := .ptr 12 0) (killP' (i := 1000 + k) (t := 12) (off := 0) (by omega)) ?_
    refine XRun.step rfl rfl rfl (AOp.fieldAddrP rfl hfo_v2 rfl) ?_ rfl ⟨.inl (killP' (i := 1000 + k) (t := 11) (by omega)), trivial⟩
    refine XRun.step rfl rfl rfl (AOp.loadP (s := .own 101) rfl hsc_24 rfl (.tail _ (.head _)) rfl) ?_ rfl ⟨.inl (killO' (i := 1000 + k) (t := 101) (by omega)), trivial⟩
    refine XRun.step rfl rfl rfl (AOp.moveD rfl rfl) ?_ rfl ⟨.inl (rfl), trivial⟩
    refine XRun.step rfl rfl rfl (AOp.fieldAddrP rfl hfo_v2 rfl) ?_ rfl ⟨.inl (killP' (i := 1000 + k) (t := 11) (by omega)), trivial⟩
    refine XRun.step rfl rfl rfl (AOp.loadP (s := .own 101) rfl hsc_24 rfl (.tail _ (.head _)) rfl) ?_ rfl ⟨.inl (killO' (i := 1000 + k) (t := 101) (by omega)), trivial⟩
    refine XRun.step rfl rfl rfl (AOp.moveD rfl rfl) ?_ rfl ⟨.inl (rfl), trivial⟩
    refine XRun.step rfl rfl rfl (AOp.weak (AOp.indexOwn rfl het_24 rfl rfl (Obs.weak_mem (p := (101, _)) (.tail _ (.tail _ (.head _)))) k rfl (by rw [List.length_map, mixS_len]; exact hlt))) ?_ rfl ⟨.inl (killP' (i := 1000 + k) (t := 101) (by omega)), trivial⟩
    refine XRun.step rfl rfl rfl (AOp.fieldAddrP rfl hfo_c6 rfl) ?_ rfl ⟨.inl (killP' (i := 1000 + k) (t := 101) (by omega)), trivial⟩
    refine XRun.step rfl rfl rfl (AOp.loadRowS (s := .d (.sl (v.copies[k].bad.map intD))) rfl hsc_75 rfl (.tail _ (.tail _ (.head _))) k 6 rfl (mixS_at hlt) rfl) ?_ rfl ⟨.inl (rfl), trivial⟩
    refine XRun.callO _ (.head _) rfl rfl rfl rfl rfl (.cons (ArgOk.rfl' rfl) .nil) (c_clInt v.copies[k].bad (by omega)) rfl rfl ?_ (hfx k)
    refine XRun.nil ⟨rfl, trivial⟩ ?_
    refine AOps.step rfl rfl rfl (AOp.weak (AOp.indexOwn rfl het_24 rfl rfl (Obs.weak_mem (p := (101, _)) (.tail _ (.tail _ (.tail _ (.head _))))) k rfl (by rw [List.length_map, mixS_len]; exact hlt))) ?_
    refine AOps.step rfl rfl rfl (AOp.fieldAddrP rfl hfo_c6 rfl) ?_
    refine AOps.eff rfl rfl (EOp.storeRowS (s := .own (1000 + k)) rfl rfl hsz_75 rfl (.tail _ (.tail _ (.tail _ (.head _)))) rfl (.own (.head _)) k 6 rfl (mixS_at hlt) (by decide)) ?_
    refine AOps.obs (own_next hlt) ?_
    refine AOps.nil ?_
    refine AWP.region ?_
    refine AOps.step rfl rfl rfl (AOp.add64 rfl rfl rfl (by omega) (by omega)) ?_
    refine AOps.mD rfl rfl rfl rfl rfl (.nil ?_)
    refine ⟨k + 1, (by omega), (by dsimp only; omega), Sub.less ⟨(SLe.of_eq rfl), SLe.refl _, SLe.refl _, SLe.refl _, trivial⟩ (fun _ h => h)⟩
  replace h1 := of_decide_eq_false h1
  rw [List.length_map, mixS_len] at h1
  obtain rfl : k = v.copies.length := by omega
  refine AWP.exit ?_
  refine AWP.seq ?_
  rw [own_end]
  refine AWP.region ?_
  refine AOps.loadVal 13 rfl rfl rfl rfl hag_v rfl (.tail _ (.head _)) (Nat.le_refl 3) (fK rfl rfl) ?_
  refine AOps.nK rfl ?_
  refine AOps.eff rfl rfl (EOp.storeVal (ss' := vaultS v) rfl rfl hsz_26 rfl (.tail _ (.head _)) rfl (.head _) rfl (Nat.le_refl 3)) ?_
  refine AOps.nU rfl ?_
  refine AOps.nil ?_
  refine AWP.ret ?_
  refine ⟨⟨12, vaultS v, rfl, .tail _ (.head _), rfl, vObs_fresh (by omega), vObs_kill (by omega)⟩, AllIn.of fun p hp => .tail _ (.tail _ (.tail _ hp))⟩

end Go.Proofs.YtieccphckobhjaaGreatDoor


namespace Go.Proofs.YtieccphckobhjaaGreatDoor
open Go.RowKit
set_option linter.unusedVariables false

/-! Types. -/
namespace TyQ4
theorem ag_26 : AggT Tryz.prog 26 3 := .of (by kernel_rfl)
theorem et_22 : ElemTy Tryz.prog 22 62 2 24 (.agg #[(.string ⟨#[]⟩), (.int .i64 0)]) := ⟨by kernel_rfl, by kernel_rfl, by kernel_rfl, by decide⟩
theorem fo_26_0 : fieldOff Tryz.prog 26 0 = some 0 := by kernel_rfl
theorem fo_62_1 : fieldOff Tryz.prog 62 1 = some 1 := by kernel_rfl
theorem sc_22 : Scal Tryz.prog 22 := .of (by kernel_rfl)
theorem sc_3 : Scal Tryz.prog 3 := .of (by kernel_rfl)
theorem sc_9 : Scal Tryz.prog 9 := .of (by kernel_rfl)
end TyQ4
open TyQ4


end Go.Proofs.YtieccphckobhjaaGreatDoor


namespace Go.Proofs.YtieccphckobhjaaGreatDoor
open Go.RowKit
set_option linter.unusedVariables false

/-! Types. -/
namespace TyQ8
theorem ag_26 : AggT Tryz.prog 26 3 := .of (by kernel_rfl)
theorem ag_28 : AggT Tryz.prog 28 6 := .of (by kernel_rfl)
end TyQ8
open TyQ8


theorem allIds_of {c : Nat → Bool} : ∀ {σ : Obs}, (∀ p ∈ σ, c p.1 = true) → Obs.allIds c σ = true
  | [], _ => rfl
  | p :: l, h => by
    unfold Obs.allIds
    rw [h p (by simp), allIds_of fun q hq => h q (List.mem_cons_of_mem _ hq)]
    rfl
theorem mem_join_l : ∀ {a b : Obs} {p : Nat × Ob}, p ∈ a → p ∈ Obs.join a b
  | x :: l, b, p, h => by
    unfold Obs.join
    rcases List.mem_cons.1 h with rfl | h
    · exact .head _
    · exact .tail _ (mem_join_l h)
theorem mem_join_r : ∀ {a b : Obs} {p : Nat × Ob}, p ∈ b → p ∈ Obs.join a b
  | [], _, _, h => h
  | x :: l, b, p, h => by
    unfold Obs.join
    exact .tail _ (mem_join_r h)
theorem vObs_ids {l : List Cpy} {q : Nat × Ob} (h : q ∈ vObs l) : q.1 = 101 ∨ 1000 ≤ q.1 := by
  rcases List.mem_cons.1 h with rfl | h
  · exact .inl rfl
  · obtain ⟨m, x, _, rfl⟩ := fam_mem h
    exact .inr (Nat.le_add_right _ _)
section
variable {cx : Cx} {ops : Array Oper} {o : Oper} {rest : List Oper} {e : Env} {σ : Obs} {Q : Post}
def preB (pre : Obs) : Bool := Obs.allIds (fun i => Nat.blt 101 i && Nat.blt i 1000) pre
theorem preB_spec {pre : Obs} (h : preB pre = true) : ∀ p ∈ pre, 101 < p.1 ∧ p.1 < 1000 := fun p hp => by
  have := Obs.allIds_mem h p hp
  simpa [Nat.blt_eq] using this
/-- The call that makes a vault of the program's own. -/
theorem AOps.callOwn {f : FuncId} {xs : List Operand} {ts : Array TypeId} {ss vs : List S} {l : List Cpy} {pre : Obs} (hg : o.guard = none) (hd : DstOk cx.N o)
    (ho : o.op = .call { callee := .value (.func f), args := xs.toArray, argTypes := ts }) (ha : ArgsS e xs ss) (h : XSCall cx.P f ss [] ((100, .val vs) :: vObs l) (fun i => Nat.ble 1000 i || Nat.blt i 102) (.own 100)) (hp : preB pre = true)
    (h3 : ∀ i, (Nat.ble 1000 i || Nat.blt i 102) = true → cx.fixp i = false) (k : AOps cx ops rest ((e.killP fun i => Nat.ble 1000 i || Nat.blt i 102).put o.dst (.own 100)) (((100, .val vs) :: Obs.killP (fun i => Nat.ble 1000 i || Nat.blt i 102) pre) ++ vObs l) Q) :
    AOps cx ops (o :: rest) e pre Q := by
  have hpr := preB_spec hp
  refine AOps.callXS hg hd ho ha h trivial (allIds_of fun p hq => ?_) (allIds_of fun p hq => allIds_of fun q hq2 => ?_) h3 (AOps.obs (fun p hq => ?_) k)
  · have hq : p ∈ pre := hq
    have := hpr p hq
    have h4 : Nat.ble 1000 p.1 = false := by rw [Bool.eq_false_iff]; intro hh; have := Nat.le_of_ble_eq_true hh; omega
    have h5 : Nat.blt p.1 102 = false := by rw [Bool.eq_false_iff]; intro hh; rw [Nat.blt_eq] at hh; omega
    simp [h4, h5]
  · have hq2 : q ∈ pre := hq2
    have := hpr q hq2
    rcases List.mem_cons.1 hq with rfl | hq
    · simp [beqF (show 100 ≠ q.1 by omega)]
    · rcases vObs_ids hq with h4 | h4 <;> simp [beqF (show p.1 ≠ q.1 by omega)]
  · rcases List.mem_append.1 hq with hq | hq
    · rcases List.mem_cons.1 hq with rfl | hq
      · exact mem_join_l (.head _)
      · exact mem_join_r hq
    · exact mem_join_l (.tail _ hq)
end
/-- Where a day stands, behind its first j harms. -/
def hAt (s : St) (day : Int) (j : Nat) : List Cpy := ((dayH s.hs day).take j).foldl harmC s.l
/-- .. behind its first k checks. -/
def cAt (every : Int) (s : St) (day : Int) (k : Nat) : List Cpy × List Dn := chkTo every day ((dayH s.hs day).foldl harmC s.l, s.o) k
/-- Where Live stands, behind n days. -/
def sAt (v : Vlt) (p : Pol) (frm : Int) (hs : List Hrm) (n : Nat) : St := liveTo p.every frm ⟨v.copies, hs, []⟩ n
end Go.Proofs.YtieccphckobhjaaGreatDoor


namespace Go.Proofs.YtieccphckobhjaaGreatDoor
open Go.RowKit
set_option linter.unusedVariables false

/-! Types. -/
namespace TyQ9
theorem ag_26 : AggT Tryz.prog 26 3 := .of (by kernel_rfl)
theorem ag_28 : AggT Tryz.prog 28 6 := .of (by kernel_rfl)
theorem ag_65 : AggT Tryz.prog 65 7 := .of (by kernel_rfl)
theorem bu_26 : StructT Tryz.prog 26 (fun i => (#[(0, 1), (1, 1), (2, 1)] : Array (Nat × Nat))[i]?) [(.slice none 0 0), (.slice none 0 0), (.slice none 0 0)] := .of (by kernel_rfl) (by kernel_rfl) (by decide)
theorem et_24 : ElemTy Tryz.prog 24 65 7 96 (.agg #[(.string ⟨#[]⟩), (.string ⟨#[]⟩), (.string ⟨#[]⟩), (.int .i64 0), (.int .i64 0), (.int .i64 0), (.slice none 0 0)]) := ⟨by kernel_rfl, by kernel_rfl, by kernel_rfl, by decide⟩
theorem fo_26_2 : fieldOff Tryz.prog 26 2 = some 2 := by kernel_rfl
theorem fo_28_3 : fieldOff Tryz.prog 28 3 = some 3 := by kernel_rfl
theorem fo_65_4 : fieldOff Tryz.prog 65 4 = some 4 := by kernel_rfl
theorem sc_24 : Scal Tryz.prog 24 := .of (by kernel_rfl)
theorem sc_3 : Scal Tryz.prog 3 := .of (by kernel_rfl)
theorem sz_26 : ∀ w, (sizeOf 26).run Tryz.prog w = .ok 3 w := SizeT.of (by kernel_rfl)
theorem sz_65 : ∀ w, (sizeOf 65).run Tryz.prog w = .ok 7 w := SizeT.of (by kernel_rfl)
theorem zt_26 : (Tryz.prog.info? 26).bind (·.zero) = some (.agg #[(.slice none 0 0), (.slice none 0 0), (.slice none 0 0)]) := by kernel_rfl
theorem zt_65 : (Tryz.prog.info? 65).bind (·.zero) = some (.agg #[(.string ⟨#[]⟩), (.string ⟨#[]⟩), (.string ⟨#[]⟩), (.int .i64 0), (.int .i64 0), (.int .i64 0), (.slice none 0 0)]) := by kernel_rfl
end TyQ9
open TyQ9


def cpyW (c : Cpy) : List D := [.v (.string c.item), .v (.string c.carrier), .v (.string c.frm), .v (.int .i64 c.day), .v (.int .i64 c.last), .v (.int .i64 c.gen), .any]
end Go.Proofs.YtieccphckobhjaaGreatDoor


namespace Go.Proofs.YtieccphckobhjaaGreatDoor
open Go.RowKit
set_option linter.unusedVariables false

/-! Types. -/
namespace TyR4
theorem ag_26 : AggT Tryz.prog 26 3 := .of (by kernel_rfl)
theorem ag_65 : AggT Tryz.prog 65 7 := .of (by kernel_rfl)
theorem et_22 : ElemTy Tryz.prog 22 62 2 24 (.agg #[(.string ⟨#[]⟩), (.int .i64 0)]) := ⟨by kernel_rfl, by kernel_rfl, by kernel_rfl, by decide⟩
theorem et_24 : ElemTy Tryz.prog 24 65 7 96 (.agg #[(.string ⟨#[]⟩), (.string ⟨#[]⟩), (.string ⟨#[]⟩), (.int .i64 0), (.int .i64 0), (.int .i64 0), (.slice none 0 0)]) := ⟨by kernel_rfl, by kernel_rfl, by kernel_rfl, by decide⟩
theorem et_63 : ElemTy Tryz.prog 63 3 1 8 (.int .i64 0) := ⟨by kernel_rfl, by kernel_rfl, by kernel_rfl, by decide⟩
theorem fo_26_0 : fieldOff Tryz.prog 26 0 = some 0 := by kernel_rfl
theorem fo_26_2 : fieldOff Tryz.prog 26 2 = some 2 := by kernel_rfl
theorem fo_62_1 : fieldOff Tryz.prog 62 1 = some 1 := by kernel_rfl
theorem fo_65_0 : fieldOff Tryz.prog 65 0 = some 0 := by kernel_rfl
theorem fo_65_1 : fieldOff Tryz.prog 65 1 = some 1 := by kernel_rfl
theorem fo_65_4 : fieldOff Tryz.prog 65 4 = some 4 := by kernel_rfl
theorem fo_65_6 : fieldOff Tryz.prog 65 6 = some 6 := by kernel_rfl
theorem sc_22 : Scal Tryz.prog 22 := .of (by kernel_rfl)
theorem sc_24 : Scal Tryz.prog 24 := .of (by kernel_rfl)
theorem sc_3 : Scal Tryz.prog 3 := .of (by kernel_rfl)
theorem sc_63 : Scal Tryz.prog 63 := .of (by kernel_rfl)
theorem sc_9 : Scal Tryz.prog 9 := .of (by kernel_rfl)
theorem sz_24 : ∀ w, (sizeOf 24).run Tryz.prog w = .ok 1 w := SizeT.of (by kernel_rfl)
theorem sz_26 : ∀ w, (sizeOf 26).run Tryz.prog w = .ok 3 w := SizeT.of (by kernel_rfl)
theorem sz_3 : ∀ w, (sizeOf 3).run Tryz.prog w = .ok 1 w := SizeT.of (by kernel_rfl)
theorem sz_65 : ∀ w, (sizeOf 65).run Tryz.prog w = .ok 7 w := SizeT.of (by kernel_rfl)
theorem zt_26 : (Tryz.prog.info? 26).bind (·.zero) = some (.agg #[(.slice none 0 0), (.slice none 0 0), (.slice none 0 0)]) := by kernel_rfl
theorem zt_65 : (Tryz.prog.info? 65).bind (·.zero) = some (.agg #[(.string ⟨#[]⟩), (.string ⟨#[]⟩), (.string ⟨#[]⟩), (.int .i64 0), (.int .i64 0), (.int .i64 0), (.slice none 0 0)]) := by kernel_rfl
end TyR4
open TyR4

set_option maxRecDepth 100000 in
set_option maxHeartbeats 1000000 in
theorem c_copyOfR (v : Vlt) (it ca : ByteArray) (hl : v.copies.length ≤ 100000) : ACall Tryz.prog 56 [.agg v.ds, .v (.string it), .v (.string ca)] (.v (.int .i64 (copyIdx v it ca))) := by
  refine acall_of (n := 29) (ds' := [.v (.int .i64 (copyIdx v it ca))]) Tryz.func56 rfl (by kernel_rfl) rfl [6] rfl rfl ?_
  intro B w0 F0 fr
  unfold copyIdx
  refine AWP.seq (AWP.region ?_)
  refine AOps.step rfl rfl rfl (AOp.box rfl rfl rfl) ?_
  refine AOps.aD rfl rfl rfl rfl rfl (.nil ?_)
  refine AWP.seq ?_
  refine AWP.seq (AWP.region ?_)
  refine AOps.step rfl rfl rfl (AOp.fieldAddr rfl fo_26_2 rfl) ?_
  refine AOps.step rfl rfl rfl (AOp.load rfl sc_24 rfl) ?_
  refine AOps.step rfl rfl rfl (AOp.lenSl rfl et_24.ht rfl) ?_
  refine AOps.mD rfl rfl rfl rfl rfl (.nil ?_)
  refine AWP.block ?_
  refine AWP.loop (G := Nat) (fun k => Env.of [(12, .d (.v (.int .i64 (k : Int)))), (10, .d (.sl (v.copies.map Cpy.ds))), (11, .d (.v (.int .i64 ((v.copies.map Cpy.ds).length : Int)))), (1, .d (.v (.string it))), (2, .d (.v (.string ca)))]) (fun k => []) (fun k => k ≤ v.copies.length ∧ ∀ c ∈ v.copies.take k, (decide (c.item = it) && decide (c.carrier = ca)) = false) (fun k => v.copies.length - k) 0 ⟨Nat.zero_le _, fun c h => by simp at h⟩ (Sub.less ⟨(SLe.of_eq rfl), SLe.refl _, SLe.refl _, SLe.refl _, SLe.refl _, trivial⟩ (fun _ h => h)) ?_
  intro k hk
  refine AWP.seq (AWP.region ?_)
  refine AOps.step rfl rfl rfl (AOp.lss rfl rfl rfl) (.nil ?_)
  refine AWP.seq ?_
  refine AWP.cond rfl (fun h1 => ?_) (fun h1 => ?_)
  · replace h1 := of_decide_eq_true h1
    rw [List.length_map] at h1
    have hlt : k < v.copies.length := by omega
    refine AWP.skip ?_
    refine AWP.seq ?_
    refine AWP.block ?_
    refine AWP.seq (AWP.region ?_)
    refine AOps.mD rfl rfl rfl rfl rfl ?_
    refine AOps.step rfl rfl rfl (AOp.indexAddr rfl et_24 rfl rfl k rfl (at_list hlt) rfl) ?_
    refine AOps.step rfl rfl rfl (AOp.loadAgg rfl ag_65 rfl rfl) ?_
    refine AOps.alloc 101 rfl rfl rfl rfl zt_65 rfl rfl rfl ?_
    refine AOps.aD rfl rfl rfl rfl rfl ?_
    refine AOps.store rfl rfl rfl sz_65 rfl (.head _) rfl rfl rfl (Nat.le_of_ble_eq_true rfl) ?_
    refine AOps.freezeCells 8 (ds := v.copies[k].ds) rfl (.head _) (.nil ?_)
    refine AWP.seq (AWP.region ?_)
    refine AOps.step rfl rfl rfl (AOp.fieldAddr rfl fo_65_0 rfl) ?_
    refine AOps.step rfl rfl rfl (AOp.load rfl sc_9 rfl) ?_
    refine AOps.mD rfl rfl rfl rfl rfl ?_
    refine AOps.step rfl rfl rfl (AOp.seql rfl rfl rfl) ?_
    refine AOps.mD rfl rfl rfl rfl rfl ?_
    refine AOps.split 21 rfl (fun g2 => ?_) (fun g2 => ?_)
    · replace g2 := of_decide_eq_true g2
      have hi1 := g2
      refine AOps.step ⟨21, rfl, .inl ⟨_, rfl, rfl⟩⟩ rfl rfl (AOp.fieldAddr rfl fo_65_1 rfl) ?_
      refine AOps.step ⟨21, rfl, .inl ⟨_, rfl, rfl⟩⟩ rfl rfl (AOp.load rfl sc_9 rfl) ?_
      refine AOps.step ⟨21, rfl, .inl ⟨_, rfl, rfl⟩⟩ rfl rfl (AOp.moveD rfl rfl) ?_
      refine AOps.step ⟨21, rfl, .inl ⟨_, rfl, rfl⟩⟩ rfl rfl (AOp.seql rfl rfl rfl) ?_
      refine AOps.step rfl rfl rfl (AOp.pickT rfl rfl rfl) (.nil ?_)
      refine AWP.cond rfl (fun h3 => ?_) (fun h3 => ?_)
      · replace h3 := of_decide_eq_true h3
        rw [idxBy_yes hlt hk.2 (by simp only [hi1, h3]; simp)]
        refine AWP.seq (AWP.region ?_)
        refine AOps.mD rfl rfl rfl rfl rfl ?_
        refine AOps.aD rfl rfl rfl rfl rfl (.nil ?_)
        refine AWP.ret ?_
        refine ⟨RetD.eq rfl ?_, trivial⟩
        all_goals (rfl)
      replace h3 := of_decide_eq_false h3
      have hT := take_false' (p := fun x : Cpy => decide (x.item = it) && decide (x.carrier = ca)) hlt hk.2 (by simp only [Bool.and_eq_false_iff]; exact .inr (decide_eq_false h3))
      refine AWP.skip ?_
      refine AWP.region ?_
      refine AOps.step rfl rfl rfl (AOp.add64 rfl rfl rfl (by omega) (by omega)) ?_
      refine AOps.mD rfl rfl rfl rfl rfl (.nil ?_)
      refine ⟨k + 1, ⟨by omega, hT⟩, (by dsimp only; omega), Sub.less ⟨(SLe.of_eq rfl), SLe.refl _, SLe.refl _, SLe.refl _, SLe.refl _, trivial⟩ (fun _ h => by cases h)⟩
    replace g2 := of_decide_eq_false g2
    have hT := take_false' (p := fun x : Cpy => decide (x.item = it) && decide (x.carrier = ca)) hlt hk.2 (by simp only [Bool.and_eq_false_iff]; exact .inl (decide_eq_false g2))
    refine AOps.pass ⟨21, rfl, .inl ⟨_, rfl, rfl⟩⟩ rfl rfl ?_
    refine AOps.pass ⟨21, rfl, .inl ⟨_, rfl, rfl⟩⟩ rfl rfl ?_
    refine AOps.pass ⟨21, rfl, .inl ⟨_, rfl, rfl⟩⟩ rfl rfl ?_
    refine AOps.pass ⟨21, rfl, .inl ⟨_, rfl, rfl⟩⟩ rfl rfl ?_
    refine AOps.step rfl rfl rfl (AOp.pickF rfl rfl rfl) (.nil ?_)
    refine AWP.cond rfl (fun h => nomatch h) (fun _ => ?_)
    refine AWP.skip ?_
    refine AWP.region ?_
    refine AOps.step rfl rfl rfl (AOp.add64 rfl rfl rfl (by omega) (by omega)) ?_
    refine AOps.mD rfl rfl rfl rfl rfl (.nil ?_)
    refine ⟨k + 1, ⟨by omega, hT⟩, (by dsimp only; omega), Sub.less ⟨(SLe.of_eq rfl), SLe.refl _, SLe.refl _, SLe.refl _, SLe.refl _, trivial⟩ (fun _ h => by cases h)⟩
  replace h1 := of_decide_eq_false h1
  rw [List.length_map] at h1
  rw [idxBy_no (fun c hc => hk.2 c (by rw [show k = v.copies.length by omega]; exact hc))]
  refine AWP.exit ?_
  refine AWP.seq (AWP.region ?_)
  refine AOps.aD rfl rfl rfl rfl rfl (.nil ?_)
  refine AWP.ret ?_
  refine ⟨RetD.eq rfl ?_, trivial⟩
  all_goals (rfl)

def wAt (l : List Cpy) (i : Nat) (n : Int) (k : Nat) : Bool := !decide (k = i) && (decide ((l.getD k zC).item = (l.getD i zC).item) && !decide (n ∈ (l.getD k zC).bad))
theorem getD_at {l : List Cpy} {k : Nat} (hk : k < l.length) : l.getD k zC = l[k] := by rw [List.getD_eq_getElem?_getD, List.getElem?_eq_getElem hk]; rfl
def leftTo (l : List Cpy) (i j : Nat) : List Int := ((l.getD i zC).bad.take j).filter fun b => !wholeR l i b
end Go.Proofs.YtieccphckobhjaaGreatDoor


namespace Go.Proofs.YtieccphckobhjaaGreatDoor
open Go.RowKit
set_option linter.unusedVariables false

/-! Types. -/
namespace TyR5
theorem ag_26 : AggT Tryz.prog 26 3 := .of (by kernel_rfl)
theorem et_24 : ElemTy Tryz.prog 24 65 7 96 (.agg #[(.string ⟨#[]⟩), (.string ⟨#[]⟩), (.string ⟨#[]⟩), (.int .i64 0), (.int .i64 0), (.int .i64 0), (.slice none 0 0)]) := ⟨by kernel_rfl, by kernel_rfl, by kernel_rfl, by decide⟩
theorem fo_26_2 : fieldOff Tryz.prog 26 2 = some 2 := by kernel_rfl
theorem fo_65_6 : fieldOff Tryz.prog 65 6 = some 6 := by kernel_rfl
theorem sc_24 : Scal Tryz.prog 24 := .of (by kernel_rfl)
theorem sc_3 : Scal Tryz.prog 3 := .of (by kernel_rfl)
theorem sc_63 : Scal Tryz.prog 63 := .of (by kernel_rfl)
theorem sc_9 : Scal Tryz.prog 9 := .of (by kernel_rfl)
theorem sz_24 : ∀ w, (sizeOf 24).run Tryz.prog w = .ok 1 w := SizeT.of (by kernel_rfl)
theorem sz_26 : ∀ w, (sizeOf 26).run Tryz.prog w = .ok 3 w := SizeT.of (by kernel_rfl)
theorem zt_26 : (Tryz.prog.info? 26).bind (·.zero) = some (.agg #[(.slice none 0 0), (.slice none 0 0), (.slice none 0 0)]) := by kernel_rfl
end TyR5
open TyR5


theorem hsc_24r : Scal Tryz.prog 24 := .of (by kernel_rfl)
theorem hsc_ir : Scal Tryz.prog 3 := .of (by kernel_rfl)
theorem hfo_v2r : fieldOff Tryz.prog 26 2 = some 2 := by kernel_rfl
theorem het_75r : ElemTy Tryz.prog 63 3 1 8 (.int .i64 0) := ⟨by kernel_rfl, by kernel_rfl, by kernel_rfl, by decide⟩
end Go.Proofs.YtieccphckobhjaaGreatDoor


namespace Go.Proofs.YtieccphckobhjaaGreatDoor
open Go.RowKit
set_option linter.unusedVariables false

theorem AOp.callCloSnap {P : Program} {B : Nat} {ops : Array Oper} {o : Oper} {e : Env} {σ : Obs} {x : Operand} {f : FuncId} {xs : List Operand} {ts : Array TypeId} {ds caps : List D} {d : D}
    (ho : o.op = .call { callee := .value x, args := xs.toArray, argTypes := ts }) (hx : e.ev x = .d (.clo (.func f) caps)) (ha : SnapArgs e σ xs ds) (h : ACall P f (ds ++ caps) d) (hp : Plain d) : AOp P B ops o e σ (.d d) := by
  intro F ρ w a hF hr hσ
  have hr' : ∀ y ∈ o.op.operands.toList, RepS F ρ w (a.eval y) (e.ev y) := fun y hy => ev_rep fun t ht => hr t (looks_op (by rw [← ht]; exact hy))
  have h1 := ha.rep (a := a) hσ fun x hx => hr' x (by rw [ho]; simp [Op.operands, Call.operands, hx])
  have hF2 : ∀ b, endF F ρ σ b → b < w.heap.size := by
    rintro b (hb | ⟨p, hp, hb⟩)
    · exact hF b hb
    · exact ((hσ.ok p hp).blk_lt hb).2
  have hc := hr' x (by rw [ho]; simp [Op.operands, Call.operands])
  rw [hx] at hc
  have hc2 := (Snap.d (σ := σ) (.clo (.func f) caps)).rep hσ _ hc
  generalize hv : a.eval x = v at hc2
  cases hc2 with
  | clo _ cs _ hl hcs =>
    have h2 := h.2 (endF F ρ σ) w (xs.map a.eval ++ cs) hF2 (RepL.append h1 ⟨hl, hcs⟩)
    have h3 := h.1 (xs.map a.eval ++ cs).toArray w
    have hrun : (execOp a.eval o).run P w = .ok (.enter f (xs.map a.eval ++ cs).toArray) w := by
      unfold execOp
      simp only [ho, resolve, Deferred.ofValue, hv, invoke, Sem.run_bind, Sem.run_pure, Result.andThen_ok]
      simpa using h3
    unfold Oper.wp
    rw [hrun]
    refine h2.mono fun _ w' ⟨v, F', he, hv, hE⟩ => ?_
    subst he
    exact ⟨v, F, rfl, .d (hp.rep _ hv), Ext.of_below hF hE.below⟩
end Go.Proofs.YtieccphckobhjaaGreatDoor


namespace Go.Proofs.YtieccphckobhjaaGreatDoor
open Go.RowKit
set_option linter.unusedVariables false

/-! Types. -/
namespace TyW2
theorem et_63 : ElemTy Tryz.prog 63 3 1 8 (.int .i64 0) := ⟨by kernel_rfl, by kernel_rfl, by kernel_rfl, by decide⟩
theorem sc_3 : Scal Tryz.prog 3 := .of (by kernel_rfl)
theorem sz_3 : ∀ w, (sizeOf 3).run Tryz.prog w = .ok 1 w := SizeT.of (by kernel_rfl)
end TyW2
open TyW2


def fillC (m i : Nat) : List (List D) := (List.range i).map numD ++ List.replicate (m - i) (numD 0)
theorem fill_at {m i : Nat} (h : i < m) : (fillC m i)[i]? = some (numD 0) := by
  unfold fillC
  rw [List.getElem?_append_right (by simp), List.length_map, List.length_range, Nat.sub_self, List.getElem?_replicate, if_pos (by omega)]
theorem fill_len {m i : Nat} (h : i ≤ m) : (fillC m i).length = m := by unfold fillC; simp; omega
theorem fill_set {m i : Nat} (h : i < m) : (fillC m i).set i (numD i) = fillC m (i + 1) := by
  unfold fillC
  rw [List.set_append_right _ _ (by simp), List.range_succ, List.map_append]
  obtain ⟨d, hd⟩ : ∃ d, m - i = d + 1 := ⟨m - i - 1, by omega⟩
  rw [hd, show m - (i + 1) = d by omega]
  simp [List.replicate_succ]
theorem fill_all (m : Nat) : fillC m m = (List.range m).map numD := by unfold fillC; simp
theorem bump_first {l : List Nat} {k : Nat} (hk : k < l.length) : (l.map numD).set k (numD (l[k] + 1)) = (bumpTo l k (k + 1)).map numD := by
  rw [← List.map_set]
  congr 1
  unfold bumpTo
  rw [show k + 1 - k = 1 by omega, numAt hk]
  rw [List.set_eq_take_append_cons_drop]
  simp [hk]
theorem bump_set {l : List Nat} {k i : Nat} (hk : k < i) (hi : i < l.length) : (bumpTo l k i).set i (l.getD k 0 + 1 + (i - k)) = bumpTo l k (i + 1) := by
  unfold bumpTo
  rw [List.set_append_right _ _ (by simp; omega), show i + 1 - k = (i - k) + 1 by omega, List.range_succ, List.map_append]
  have e : (l.take k ++ (List.range (i - k)).map fun j => l.getD k 0 + 1 + j).length = i := by simp; omega
  rw [e, Nat.sub_self, List.drop_eq_getElem_cons hi, List.set_cons_zero]
  simp
theorem bump_prev {l : List Nat} {k i : Nat} (hk : k < i) (hi : i < l.length) : (bumpTo l k i).getD (i - 1) 0 = l.getD k 0 + (i - k) := by
  rw [bumpTo_at (by omega) (by omega) (by omega), if_neg (by omega), if_pos (by omega)]
  omega
theorem bump_next {l : List Nat} {k i : Nat} (hk : k < i) (hi : i < l.length) (h2 : i - 1 < (bumpTo l k i).length) : ((bumpTo l k i).map numD).set i [.v (.int .i64 (((bumpTo l k i)[i - 1] : Nat) + 1 : Int))] = (bumpTo l k (i + 1)).map numD := by
  rw [← bump_set hk hi, List.map_set]
  congr 1
  have h3 := bump_prev hk hi
  rw [numAt h2] at h3
  unfold numD
  rw [h3]
  congr 4
  omega
theorem row_numEq {a b : List (List D)} (h : a = b) {i e s : Nat} : ∀ p ∈ [(i, Ob.row e s b)], p ∈ [(i, Ob.row e s a)] := fun p hp => h ▸ hp


set_option maxRecDepth 100000 in
set_option maxHeartbeats 4000000 in
theorem c_chosen (n : Nat) (hn : n ≤ 1000) (P : List Nat → Bool) (f : Nat) (caps : List D) (hf : ∀ l, Vld n l → ACall Tryz.prog f (.sl (l.map numD) :: caps) (.v (.bool (P l)))) : ACall Tryz.prog 27 [.v (.int .i64 (n : Int)), .clo (.func f) caps] (.tup [.sl (((chosenC n P).getD []).map numD), .v (.bool (chosenC n P).isSome)]) := by
  refine acall_of (n := 75) (ds' := [.sl (((chosenC n P).getD []).map numD), .v (.bool (chosenC n P).isSome)]) Tryz.func27 rfl (by kernel_rfl) rfl [4, 5] rfl rfl ?_
  intro B w0 F0 fr
  refine AWP.seq (AWP.region ?_)
  refine AOps.aD rfl rfl rfl rfl rfl ?_
  refine AOps.aD rfl rfl rfl rfl rfl (.nil ?_)
  refine AWP.seq ?_
  refine AWP.seq (AWP.region ?_)
  refine AOps.mD rfl rfl rfl rfl rfl ?_
  refine AOps.step rfl rfl rfl (AOp.add64 rfl rfl rfl (by omega) (by omega)) ?_
  refine AOps.mD rfl rfl rfl rfl rfl (.nil ?_)
  refine AWP.block ?_
  refine AWP.loop (G := Nat) (fun m => Env.of [(13, .d (.v (.int .i64 (m : Int)))), (12, .d (.v (.int .i64 ((n : Int) + 1)))), (0, .d (.v (.int .i64 (n : Int)))), (1, .d (.clo (.func f) caps))]) (fun m => []) (fun m => m ≤ n + 1 ∧ chosenTo n P m = none) (fun m => n + 1 - m) 0 ⟨Nat.zero_le _, rfl⟩ (Sub.less ⟨(SLe.of_eq rfl), SLe.refl _, SLe.refl _, SLe.refl _, trivial⟩ (fun _ h => h)) ?_
  intro m hm
  refine AWP.seq (AWP.region ?_)
  refine AOps.step rfl rfl rfl (AOp.lss rfl rfl rfl) (.nil ?_)
  refine AWP.seq ?_
  refine AWP.cond rfl (fun h1 => ?_) (fun h1 => ?_)
  · replace h1 := of_decide_eq_true h1
    have hmn : m ≤ n := by omega
    refine AWP.skip ?_
    refine AWP.seq ?_
    refine AWP.block ?_
    refine AWP.seq (AWP.region ?_)
    refine AOps.mD rfl rfl rfl rfl rfl ?_
    refine AOps.aD rfl rfl rfl rfl rfl (.nil ?_)
    refine AWP.seq (AWP.region ?_)
    refine AOps.mD rfl rfl rfl rfl rfl ?_
    refine AOps.makeI 51 m rfl rfl rfl rfl et_63 rfl rfl rfl (by omega) (by omega) rfl rfl ?_
    refine AOps.step rfl rfl rfl (AOp.assignO rfl rfl) (.nil ?_)
    refine AWP.seq ?_
    refine AWP.seq (AWP.region ?_)
    refine AOps.step rfl rfl rfl (AOp.moveO rfl rfl) ?_
    refine AOps.step rfl rfl rfl (AOp.lenOwn rfl et_63.ht rfl (.head _)) ?_
    refine AOps.mD rfl rfl rfl rfl rfl (.nil ?_)
    refine AWP.block ?_
    refine AWP.loop (G := Nat) (fun i => Env.of [(20, .d (.v (.int .i64 (i : Int)))), (19, .d (.v (.int .i64 (m : Int)))), (7, .own 51), (6, .d (.v (.int .i64 (m : Int)))), (13, .d (.v (.int .i64 (m : Int)))), (12, .d (.v (.int .i64 ((n : Int) + 1)))), (0, .d (.v (.int .i64 (n : Int)))), (1, .d (.clo (.func f) caps))]) (fun i => [(51, .row 3 1 (fillC m i))]) (fun i => i ≤ m) (fun i => m - i) 0 (Nat.zero_le _) (Sub.less ⟨(SLe.of_eq rfl), (SLe.i64 (by simp)), SLe.refl _, SLe.refl _, SLe.refl _, SLe.refl _, SLe.refl _, SLe.refl _, trivial⟩ (row_numEq rfl)) ?_
    intro i hi
    refine AWP.seq (AWP.region ?_)
    refine AOps.step rfl rfl rfl (AOp.lss rfl rfl rfl) (.nil ?_)
    refine AWP.seq ?_
    refine AWP.cond rfl (fun h2 => ?_) (fun h2 => ?_)
    · replace h2 := of_decide_eq_true h2
      have him : i < m := by omega
      refine AWP.skip ?_
      refine AWP.seq ?_
      refine AWP.block ?_
      refine AWP.seq (AWP.region ?_)
      refine AOps.mD rfl rfl rfl rfl rfl ?_
      refine AOps.aD rfl rfl rfl rfl rfl (.nil ?_)
      refine AWP.region ?_
      refine AOps.step rfl rfl rfl (AOp.moveO rfl rfl) ?_
      refine AOps.mD rfl rfl rfl rfl rfl ?_
      refine AOps.mD rfl rfl rfl rfl rfl ?_
      refine AOps.step rfl rfl rfl (AOp.indexOwn rfl et_63 rfl rfl (.head _) i rfl (by rw [fill_len (by omega)]; omega)) ?_
      refine AOps.storeRow rfl rfl rfl sz_3 rfl (.head _) rfl rfl rfl i 0 rfl (fill_at him) (Nat.le_of_ble_eq_true rfl) (.nil ?_)
      refine AWP.region ?_
      refine AOps.step rfl rfl rfl (AOp.add64 rfl rfl rfl (by omega) (by omega)) ?_
      refine AOps.mD rfl rfl rfl rfl rfl (.nil ?_)
      refine ⟨i + 1, (by dsimp only; omega), (by dsimp only; omega), Sub.less ⟨(SLe.of_eq rfl), SLe.refl _, SLe.refl _, SLe.refl _, SLe.refl _, SLe.refl _, SLe.refl _, SLe.refl _, trivial⟩ (row_numEq (fill_set him))⟩
    replace h2 := of_decide_eq_false h2
    obtain rfl : m = i := by omega
    refine AWP.exit ?_
    refine AWP.block ?_
    refine AWP.loop (G := List Nat) (fun l => Env.of [(7, .own 51), (6, .d (.v (.int .i64 (m : Int)))), (13, .d (.v (.int .i64 (m : Int)))), (12, .d (.v (.int .i64 ((n : Int) + 1)))), (0, .d (.v (.int .i64 (n : Int)))), (1, .d (.clo (.func f) caps))]) (fun l => [(51, .row 3 1 (l.map numD))]) (fun l => Vld n l ∧ l.length = m ∧ srch n P (List.range m) = srch n P l) (fun l => leftC n l) (List.range m) ⟨range_vld (by omega), List.length_range, rfl⟩ (Sub.less ⟨SLe.refl _, SLe.refl _, SLe.refl _, SLe.refl _, SLe.refl _, SLe.refl _, trivial⟩ (row_numEq (fill_all _))) ?_
    intro l hl
    refine AWP.block ?_
    refine AWP.seq ?_
    refine AWP.seq (AWP.region ?_)
    refine AOps.mD rfl rfl rfl rfl rfl ?_
    refine AOps.step rfl rfl rfl (AOp.moveO rfl rfl) ?_
    refine AOps.step rfl rfl rfl (AOp.callCloSnap rfl rfl (.cons rfl (.row (.head _)) .nil) (hf l hl.1) (.v _)) (.nil ?_)
    refine AWP.cond rfl (fun h3 => ?_) (fun h3 => ?_)
    · skip
      have HC : chosenC n P = some l := chosenTo_some hm.2 (hl.2.2.trans (srch_hit hl.1 h3)) (n + 1) (by omega)
      rw [HC]
      refine AWP.seq (AWP.region ?_)
      refine AOps.step rfl rfl rfl (AOp.moveO rfl rfl) ?_
      refine AOps.step rfl rfl rfl (AOp.assignO rfl rfl) ?_
      refine AOps.aD rfl rfl rfl rfl rfl (.nil ?_)
      refine AWP.ret ?_
      refine ⟨RetD.own rfl (.head _) ?_, RetD.eq rfl ?_, trivial⟩
      all_goals (rfl)
    have hP : P l = false := by simpa using h3
    have hlm := hl.2.1
    have hln := hl.1.1
    refine AWP.skip ?_
    refine AWP.seq (AWP.region ?_)
    refine AOps.mD rfl rfl rfl rfl rfl ?_
    refine AOps.step rfl rfl rfl (AOp.sub64 rfl rfl rfl (by omega) (by omega)) ?_
    refine AOps.aD rfl rfl rfl rfl rfl (.nil ?_)
    refine AWP.seq ?_
    refine AWP.block ?_
    refine AWP.loop (G := Nat) (fun j => Env.of [(9, .d (.v (.int .i64 ((j : Int) - 1)))), (7, .own 51), (6, .d (.v (.int .i64 (m : Int)))), (13, .d (.v (.int .i64 (m : Int)))), (12, .d (.v (.int .i64 ((n : Int) + 1)))), (0, .d (.v (.int .i64 (n : Int)))), (1, .d (.clo (.func f) caps))]) (fun j => [(51, .row 3 1 (l.map numD))]) (fun j => j ≤ m ∧ pivot n l m = pivot n l j) (fun j => j) m ⟨Nat.le_refl _, rfl⟩ (Sub.less ⟨(SLe.of_eq rfl), SLe.refl _, SLe.refl _, SLe.refl _, SLe.refl _, SLe.refl _, SLe.refl _, trivial⟩ (row_numEq rfl)) ?_
    intro j hj
    refine AWP.seq ?_
    refine AWP.seq (AWP.region ?_)
    refine AOps.mD rfl rfl rfl rfl rfl ?_
    refine AOps.step rfl rfl rfl (AOp.geq rfl rfl rfl) ?_
    refine AOps.mD rfl rfl rfl rfl rfl ?_
    refine AOps.split 36 rfl (fun g4 => ?_) (fun g4 => ?_)
    · replace g4 := of_decide_eq_true g4
      have hj1 : 0 < j := by omega
      have hjl : j - 1 < l.length := by omega
      have hlj := hl.1.2 (j - 1) hjl
      refine AOps.step ⟨36, rfl, .inl ⟨_, rfl, rfl⟩⟩ rfl rfl (AOp.moveO rfl rfl) ?_
      refine AOps.step ⟨36, rfl, .inl ⟨_, rfl, rfl⟩⟩ rfl rfl (AOp.moveD rfl rfl) ?_
      refine AOps.step ⟨36, rfl, .inl ⟨_, rfl, rfl⟩⟩ rfl rfl (AOp.indexOwn rfl et_63 rfl rfl (.head _) (j - 1) (by omega) (by rw [List.length_map]; omega)) ?_
      refine AOps.step ⟨36, rfl, .inl ⟨_, rfl, rfl⟩⟩ rfl rfl (AOp.loadRow rfl sc_3 rfl (.head _) (j - 1) 0 rfl (at_list hjl) rfl) ?_
      refine AOps.step ⟨36, rfl, .inl ⟨_, rfl, rfl⟩⟩ rfl rfl (AOp.moveD rfl rfl) ?_
      refine AOps.step ⟨36, rfl, .inl ⟨_, rfl, rfl⟩⟩ rfl rfl (AOp.moveD rfl rfl) ?_
      refine AOps.step ⟨36, rfl, .inl ⟨_, rfl, rfl⟩⟩ rfl rfl (AOp.sub64 rfl rfl rfl (by omega) (by omega)) ?_
      refine AOps.step ⟨36, rfl, .inl ⟨_, rfl, rfl⟩⟩ rfl rfl (AOp.moveD rfl rfl) ?_
      refine AOps.step ⟨36, rfl, .inl ⟨_, rfl, rfl⟩⟩ rfl rfl (AOp.add64 rfl rfl rfl (by omega) (by omega)) ?_
      refine AOps.step ⟨36, rfl, .inl ⟨_, rfl, rfl⟩⟩ rfl rfl (AOp.eql rfl rfl rfl) ?_
      refine AOps.step rfl rfl rfl (AOp.pickT rfl rfl rfl) (.nil ?_)
      refine AWP.cond rfl (fun h5 => ?_) (fun h5 => ?_)
      · replace h5 := of_decide_eq_true h5
        have HP := pivot_step (n := n) (l := l) (j := j - 1) (by rw [numAt (by omega)]; omega)
        rw [show j - 1 + 1 = j by omega] at HP
        refine AWP.skip ?_
        refine AWP.block ?_
        refine AWP.region ?_
        refine AOps.mD rfl rfl rfl rfl rfl ?_
        refine AOps.step rfl rfl rfl (AOp.sub64 rfl rfl rfl (by omega) (by omega)) ?_
        refine AOps.aD rfl rfl rfl rfl rfl (.nil ?_)
        refine ⟨j - 1, ⟨by omega, hj.2.trans HP⟩, (by dsimp only; omega), Sub.less ⟨(SLe.i64 (by omega)), SLe.refl _, SLe.refl _, SLe.refl _, SLe.refl _, SLe.refl _, SLe.refl _, trivial⟩ (row_numEq rfl)⟩
      replace h5 := of_decide_eq_false h5
      have HP := pivot_here (n := n) (l := l) (j := j - 1) (by rw [numAt (by omega)]; omega)
      rw [show j - 1 + 1 = j by omega] at HP
      have HQ : 0 < j → pivot n l l.length = some (j - 1) := fun _ => by rw [hlm, hj.2, HP]
      refine AWP.exit ?_
      refine AWP.seq ?_
      refine AWP.seq (AWP.region ?_)
      refine AOps.mD rfl rfl rfl rfl rfl ?_
      refine AOps.step rfl rfl rfl (AOp.lss rfl rfl rfl) (.nil ?_)
      refine AWP.cond rfl (fun h6 => ?_) (fun h6 => ?_)
      · replace h6 := of_decide_eq_true h6
        have hj0 : j = 0 := by omega
        have HE : srch n P l = none := srch_end hl.1 hP (by rw [hlm, hj.2, hj0]; rfl)
        refine AWP.exit ?_
        refine AWP.region ?_
        refine AOps.step rfl rfl rfl (AOp.add64 rfl rfl rfl (by omega) (by omega)) ?_
        refine AOps.mD rfl rfl rfl rfl rfl (.nil ?_)
        refine ⟨m + 1, ⟨by omega, chosenTo_next hm.2 (hl.2.2.trans HE)⟩, (by dsimp only; omega), Sub.less ⟨(SLe.of_eq rfl), SLe.refl _, SLe.refl _, SLe.refl _, trivial⟩ (fun _ h => by cases h)⟩
      replace h6 := of_decide_eq_false h6
      have hjp : 0 < j := by omega
      have hpv := HQ hjp
      have hkl : j - 1 < l.length := by omega
      have hlk := hl.1.2 (j - 1) hkl
      refine AWP.skip ?_
      refine AWP.seq (AWP.region ?_)
      refine AOps.step rfl rfl rfl (AOp.moveO rfl rfl) ?_
      refine AOps.mD rfl rfl rfl rfl rfl ?_
      refine AOps.step rfl rfl rfl (AOp.indexOwn rfl et_63 rfl rfl (.head _) (j - 1) (by omega) (by rw [List.length_map]; omega)) ?_
      refine AOps.step rfl rfl rfl (AOp.loadRow rfl sc_3 rfl (.head _) (j - 1) 0 rfl (at_list hkl) rfl) ?_
      refine AOps.step rfl rfl rfl (AOp.add64 rfl rfl rfl (by omega) (by omega)) ?_
      refine AOps.step rfl rfl rfl (AOp.indexOwn rfl et_63 rfl rfl (.head _) (j - 1) (by omega) (by rw [List.length_map]; omega)) ?_
      refine AOps.storeRow rfl rfl rfl sz_3 rfl (.head _) rfl rfl rfl (j - 1) 0 rfl (at_list hkl) (Nat.le_of_ble_eq_true rfl) (.nil ?_)
      refine AWP.seq (AWP.region ?_)
      refine AOps.mD rfl rfl rfl rfl rfl ?_
      refine AOps.step rfl rfl rfl (AOp.add64 rfl rfl rfl (by omega) (by omega)) ?_
      refine AOps.aD rfl rfl rfl rfl rfl (.nil ?_)
      refine AWP.block ?_
      refine AWP.loop (G := Nat) (fun i => Env.of [(10, .d (.v (.int .i64 (i : Int)))), (7, .own 51), (6, .d (.v (.int .i64 (m : Int)))), (13, .d (.v (.int .i64 (m : Int)))), (12, .d (.v (.int .i64 ((n : Int) + 1)))), (0, .d (.v (.int .i64 (n : Int)))), (1, .d (.clo (.func f) caps))]) (fun i => [(51, .row 3 1 ((bumpTo l (j - 1) i).map numD))]) (fun i => j ≤ i ∧ i ≤ m) (fun i => m - i) j ⟨Nat.le_refl _, hj.1⟩ (Sub.less ⟨(SLe.i64 (by omega)), SLe.refl _, SLe.refl _, SLe.refl _, SLe.refl _, SLe.refl _, SLe.refl _, trivial⟩ (row_numEq ((bump_first hkl).trans (by rw [show j - 1 + 1 = j by omega])))) ?_
      intro i hi
      refine AWP.seq ?_
      refine AWP.seq (AWP.region ?_)
      refine AOps.mD rfl rfl rfl rfl rfl ?_
      refine AOps.mD rfl rfl rfl rfl rfl ?_
      refine AOps.step rfl rfl rfl (AOp.lss rfl rfl rfl) (.nil ?_)
      refine AWP.cond rfl (fun h7 => ?_) (fun h7 => ?_)
      · replace h7 := of_decide_eq_true h7
        have him : i < l.length := by omega
        have hbl := bumpTo_len (l := l) (k := j - 1) (i := i) (by omega) (by omega)
        have h2 : i - 1 < (bumpTo l (j - 1) i).length := by omega
        have hbp := bump_prev (l := l) (k := j - 1) (i := i) (by omega) him
        rw [numAt h2, numAt hkl] at hbp
        refine AWP.skip ?_
        refine AWP.seq ?_
        refine AWP.block ?_
        refine AWP.region ?_
        refine AOps.step rfl rfl rfl (AOp.moveO rfl rfl) ?_
        refine AOps.mD rfl rfl rfl rfl rfl ?_
        refine AOps.step rfl rfl rfl (AOp.moveO rfl rfl) ?_
        refine AOps.mD rfl rfl rfl rfl rfl ?_
        refine AOps.step rfl rfl rfl (AOp.sub64 rfl rfl rfl (by omega) (by omega)) ?_
        refine AOps.step rfl rfl rfl (AOp.indexOwn rfl et_63 rfl rfl (.head _) (i - 1) (by omega) (by rw [List.length_map]; omega)) ?_
        refine AOps.step rfl rfl rfl (AOp.loadRow rfl sc_3 rfl (.head _) (i - 1) 0 rfl (at_list h2) rfl) ?_
        refine AOps.step rfl rfl rfl (AOp.add64 rfl rfl rfl (by omega) (by omega)) ?_
        refine AOps.step rfl rfl rfl (AOp.indexOwn rfl et_63 rfl rfl (.head _) i rfl (by rw [List.length_map]; omega)) ?_
        refine AOps.storeRow rfl rfl rfl sz_3 rfl (.head _) rfl rfl rfl i 0 rfl (at_list (by omega)) (Nat.le_of_ble_eq_true rfl) (.nil ?_)
        refine AWP.region ?_
        refine AOps.mD rfl rfl rfl rfl rfl ?_
        refine AOps.step rfl rfl rfl (AOp.add64 rfl rfl rfl (by omega) (by omega)) ?_
        refine AOps.aD rfl rfl rfl rfl rfl (.nil ?_)
        refine ⟨i + 1, ⟨by omega, by omega⟩, (by dsimp only; omega), Sub.less ⟨(SLe.of_eq rfl), SLe.refl _, SLe.refl _, SLe.refl _, SLe.refl _, SLe.refl _, SLe.refl _, trivial⟩ (row_numEq (bump_next (by omega) him h2))⟩
      replace h7 := of_decide_eq_false h7
      obtain rfl : i = l.length := by omega
      refine AWP.exit ?_
      refine ⟨bump l (j - 1), ⟨bump_vld hl.1 hpv, by rw [bump_len (by omega)]; exact hlm, hl.2.2.trans (srch_next hl.1 hP hpv)⟩, (leftC_next hl.1 hpv), Sub.less ⟨SLe.refl _, SLe.refl _, SLe.refl _, SLe.refl _, SLe.refl _, SLe.refl _, trivial⟩ (row_numEq rfl)⟩
    replace g4 := of_decide_eq_false g4
    have HQ : 0 < j → pivot n l l.length = some (j - 1) := fun hh => by omega
    refine AOps.pass ⟨36, rfl, .inl ⟨_, rfl, rfl⟩⟩ rfl rfl ?_
    refine AOps.pass ⟨36, rfl, .inl ⟨_, rfl, rfl⟩⟩ rfl rfl ?_
    refine AOps.pass ⟨36, rfl, .inl ⟨_, rfl, rfl⟩⟩ rfl rfl ?_
    refine AOps.pass ⟨36, rfl, .inl ⟨_, rfl, rfl⟩⟩ rfl rfl ?_
    refine AOps.pass ⟨36, rfl, .inl ⟨_, rfl, rfl⟩⟩ rfl rfl ?_
    refine AOps.pass ⟨36, rfl, .inl ⟨_, rfl, rfl⟩⟩ rfl rfl ?_
    refine AOps.pass ⟨36, rfl, .inl ⟨_, rfl, rfl⟩⟩ rfl rfl ?_
    refine AOps.pass ⟨36, rfl, .inl ⟨_, rfl, rfl⟩⟩ rfl rfl ?_
    refine AOps.pass ⟨36, rfl, .inl ⟨_, rfl, rfl⟩⟩ rfl rfl ?_
    refine AOps.pass ⟨36, rfl, .inl ⟨_, rfl, rfl⟩⟩ rfl rfl ?_
    refine AOps.step rfl rfl rfl (AOp.pickF rfl rfl rfl) (.nil ?_)
    refine AWP.cond rfl (fun h => nomatch h) (fun _ => ?_)
    refine AWP.exit ?_
    refine AWP.seq ?_
    refine AWP.seq (AWP.region ?_)
    refine AOps.mD rfl rfl rfl rfl rfl ?_
    refine AOps.step rfl rfl rfl (AOp.lss rfl rfl rfl) (.nil ?_)
    refine AWP.cond rfl (fun h8 => ?_) (fun h8 => ?_)
    · replace h8 := of_decide_eq_true h8
      have hj0 : j = 0 := by omega
      have HE : srch n P l = none := srch_end hl.1 hP (by rw [hlm, hj.2, hj0]; rfl)
      refine AWP.exit ?_
      refine AWP.region ?_
      refine AOps.step rfl rfl rfl (AOp.add64 rfl rfl rfl (by omega) (by omega)) ?_
      refine AOps.mD rfl rfl rfl rfl rfl (.nil ?_)
      refine ⟨m + 1, ⟨by omega, chosenTo_next hm.2 (hl.2.2.trans HE)⟩, (by dsimp only; omega), Sub.less ⟨(SLe.of_eq rfl), SLe.refl _, SLe.refl _, SLe.refl _, trivial⟩ (fun _ h => by cases h)⟩
    replace h8 := of_decide_eq_false h8
    have hjp : 0 < j := by omega
    have hpv := HQ hjp
    have hkl : j - 1 < l.length := by omega
    have hlk := hl.1.2 (j - 1) hkl
    refine AWP.skip ?_
    refine AWP.seq (AWP.region ?_)
    refine AOps.step rfl rfl rfl (AOp.moveO rfl rfl) ?_
    refine AOps.mD rfl rfl rfl rfl rfl ?_
    refine AOps.step rfl rfl rfl (AOp.indexOwn rfl et_63 rfl rfl (.head _) (j - 1) (by omega) (by rw [List.length_map]; omega)) ?_
    refine AOps.step rfl rfl rfl (AOp.loadRow rfl sc_3 rfl (.head _) (j - 1) 0 rfl (at_list hkl) rfl) ?_
    refine AOps.step rfl rfl rfl (AOp.add64 rfl rfl rfl (by omega) (by omega)) ?_
    refine AOps.step rfl rfl rfl (AOp.indexOwn rfl et_63 rfl rfl (.head _) (j - 1) (by omega) (by rw [List.length_map]; omega)) ?_
    refine AOps.storeRow rfl rfl rfl sz_3 rfl (.head _) rfl rfl rfl (j - 1) 0 rfl (at_list hkl) (Nat.le_of_ble_eq_true rfl) (.nil ?_)
    refine AWP.seq (AWP.region ?_)
    refine AOps.mD rfl rfl rfl rfl rfl ?_
    refine AOps.step rfl rfl rfl (AOp.add64 rfl rfl rfl (by omega) (by omega)) ?_
    refine AOps.aD rfl rfl rfl rfl rfl (.nil ?_)
    refine AWP.block ?_
    refine AWP.loop (G := Nat) (fun i => Env.of [(10, .d (.v (.int .i64 (i : Int)))), (7, .own 51), (6, .d (.v (.int .i64 (m : Int)))), (13, .d (.v (.int .i64 (m : Int)))), (12, .d (.v (.int .i64 ((n : Int) + 1)))), (0, .d (.v (.int .i64 (n : Int)))), (1, .d (.clo (.func f) caps))]) (fun i => [(51, .row 3 1 ((bumpTo l (j - 1) i).map numD))]) (fun i => j ≤ i ∧ i ≤ m) (fun i => m - i) j ⟨Nat.le_refl _, hj.1⟩ (Sub.less ⟨(SLe.i64 (by omega)), SLe.refl _, SLe.refl _, SLe.refl _, SLe.refl _, SLe.refl _, SLe.refl _, trivial⟩ (row_numEq ((bump_first hkl).trans (by rw [show j - 1 + 1 = j by omega])))) ?_
    intro i hi
    refine AWP.seq ?_
    refine AWP.seq (AWP.region ?_)
    refine AOps.mD rfl rfl rfl rfl rfl ?_
    refine AOps.mD rfl rfl rfl rfl rfl ?_
    refine AOps.step rfl rfl rfl (AOp.lss rfl rfl rfl) (.nil ?_)
    refine AWP.cond rfl (fun h9 => ?_) (fun h9 => ?_)
    · replace h9 := of_decide_eq_true h9
      have him : i < l.length := by omega
      have hbl := bumpTo_len (l := l) (k := j - 1) (i := i) (by omega) (by omega)
      have h2 : i - 1 < (bumpTo l (j - 1) i).length := by omega
      have hbp := bump_prev (l := l) (k := j - 1) (i := i) (by omega) him
      rw [numAt h2, numAt hkl] at hbp
      refine AWP.skip ?_
      refine AWP.seq ?_
      refine AWP.block ?_
      refine AWP.region ?_
      refine AOps.step rfl rfl rfl (AOp.moveO rfl rfl) ?_
      refine AOps.mD rfl rfl rfl rfl rfl ?_
      refine AOps.step rfl rfl rfl (AOp.moveO rfl rfl) ?_
      refine AOps.mD rfl rfl rfl rfl rfl ?_
      refine AOps.step rfl rfl rfl (AOp.sub64 rfl rfl rfl (by omega) (by omega)) ?_
      refine AOps.step rfl rfl rfl (AOp.indexOwn rfl et_63 rfl rfl (.head _) (i - 1) (by omega) (by rw [List.length_map]; omega)) ?_
      refine AOps.step rfl rfl rfl (AOp.loadRow rfl sc_3 rfl (.head _) (i - 1) 0 rfl (at_list h2) rfl) ?_
      refine AOps.step rfl rfl rfl (AOp.add64 rfl rfl rfl (by omega) (by omega)) ?_
      refine AOps.step rfl rfl rfl (AOp.indexOwn rfl et_63 rfl rfl (.head _) i rfl (by rw [List.length_map]; omega)) ?_
      refine AOps.storeRow rfl rfl rfl sz_3 rfl (.head _) rfl rfl rfl i 0 rfl (at_list (by omega)) (Nat.le_of_ble_eq_true rfl) (.nil ?_)
      refine AWP.region ?_
      refine AOps.mD rfl rfl rfl rfl rfl ?_
      refine AOps.step rfl rfl rfl (AOp.add64 rfl rfl rfl (by omega) (by omega)) ?_
      refine AOps.aD rfl rfl rfl rfl rfl (.nil ?_)
      refine ⟨i + 1, ⟨by omega, by omega⟩, (by dsimp only; omega), Sub.less ⟨(SLe.of_eq rfl), SLe.refl _, SLe.refl _, SLe.refl _, SLe.refl _, SLe.refl _, SLe.refl _, trivial⟩ (row_numEq (bump_next (by omega) him h2))⟩
    replace h9 := of_decide_eq_false h9
    obtain rfl : i = l.length := by omega
    refine AWP.exit ?_
    refine ⟨bump l (j - 1), ⟨bump_vld hl.1 hpv, by rw [bump_len (by omega)]; exact hlm, hl.2.2.trans (srch_next hl.1 hP hpv)⟩, (leftC_next hl.1 hpv), Sub.less ⟨SLe.refl _, SLe.refl _, SLe.refl _, SLe.refl _, SLe.refl _, SLe.refl _, trivial⟩ (row_numEq rfl)⟩
  replace h1 := of_decide_eq_false h1
  obtain rfl : m = n + 1 := by omega
  have HC : chosenC n P = none := hm.2
  rw [HC]
  refine AWP.exit ?_
  refine AWP.seq (AWP.region ?_)
  refine AOps.aD rfl rfl rfl rfl rfl ?_
  refine AOps.aD rfl rfl rfl rfl rfl (.nil ?_)
  refine AWP.ret ?_
  refine ⟨RetD.nil rfl, RetD.eq rfl ?_, trivial⟩
  all_goals (rfl)

end Go.Proofs.YtieccphckobhjaaGreatDoor


namespace Go.Proofs.YtieccphckobhjaaGreatDoor
open Go.RowKit
set_option linter.unusedVariables false

/-! Types. -/
namespace TyW3
theorem et_63 : ElemTy Tryz.prog 63 3 1 8 (.int .i64 0) := ⟨by kernel_rfl, by kernel_rfl, by kernel_rfl, by decide⟩
theorem sc_3 : Scal Tryz.prog 3 := .of (by kernel_rfl)
theorem sz_3 : ∀ w, (sizeOf 3).run Tryz.prog w = .ok 1 w := SizeT.of (by kernel_rfl)
end TyW3
open TyW3

set_option maxRecDepth 100000 in
set_option maxHeartbeats 1000000 in
theorem c_first (n : Nat) (hn : n ≤ 1000) : OCall Tryz.prog 74 [.v (.int .i64 (n : Int))] 3 1 ((List.range n).map numD) := by
  refine ocall_of (n := 15) Tryz.func74 rfl (by kernel_rfl) rfl 2 rfl rfl ?_
  intro B w0 F0 fr
  refine AWP.seq (AWP.region ?_)
  refine AOps.aD rfl rfl rfl rfl rfl (.nil ?_)
  refine AWP.seq (AWP.region ?_)
  refine AOps.aD rfl rfl rfl rfl rfl (.nil ?_)
  refine AWP.seq ?_
  refine AWP.seq (AWP.region ?_)
  refine AOps.mD rfl rfl rfl rfl rfl ?_
  refine AOps.mD rfl rfl rfl rfl rfl (.nil ?_)
  refine AWP.block ?_
  refine AWP.adopt 3 51 3 1 rfl rfl ?_
  refine AWP.loop (G := Nat) (fun i => Env.of [(6, .d (.v (.int .i64 (i : Int)))), (5, .d (.v (.int .i64 (n : Int)))), (3, .own 51)]) (fun i => [(51, .row 3 1 ((List.range i).map numD))]) (fun i => i ≤ n) (fun i => n - i) 0 (Nat.zero_le _) (Sub.less ⟨(SLe.of_eq rfl), SLe.refl _, SLe.refl _, trivial⟩ (row_numEq rfl)) ?_
  intro i hi
  refine AWP.seq (AWP.region ?_)
  refine AOps.step rfl rfl rfl (AOp.lss rfl rfl rfl) (.nil ?_)
  refine AWP.seq ?_
  refine AWP.cond rfl (fun h1 => ?_) (fun h1 => ?_)
  · replace h1 := of_decide_eq_true h1
    have hin : i < n := by omega
    refine AWP.skip ?_
    refine AWP.seq ?_
    refine AWP.block ?_
    refine AWP.seq (AWP.region ?_)
    refine AOps.mD rfl rfl rfl rfl rfl ?_
    refine AOps.aD rfl rfl rfl rfl rfl (.nil ?_)
    refine AWP.region ?_
    refine AOps.step rfl rfl rfl (AOp.moveO rfl rfl) ?_
    refine AOps.mD rfl rfl rfl rfl rfl ?_
    refine AOps.step rfl rfl rfl (AOp.buildSlice rfl et_63 (.cons rfl rfl rfl .nil) rfl (by decide)) ?_
    -- append 12
    refine AOps.append rfl rfl rfl rfl et_63 rfl (.head _) rfl (fun y hy => by obtain rfl := List.mem_singleton.1 hy; rfl) (by simp; omega) (by simp; omega) ?_
    refine AOps.step rfl rfl rfl (AOp.assignO rfl rfl) (.nil ?_)
    refine AWP.region ?_
    refine AOps.step rfl rfl rfl (AOp.add64 rfl rfl rfl (by omega) (by omega)) ?_
    refine AOps.mD rfl rfl rfl rfl rfl (.nil ?_)
    refine ⟨i + 1, (by dsimp only; omega), (by dsimp only; omega), Sub.less ⟨(SLe.of_eq rfl), SLe.refl _, SLe.refl _, trivial⟩ (row_numEq (by rw [List.range_succ, List.map_append]; rfl))⟩
  replace h1 := of_decide_eq_false h1
  obtain rfl : n = i := by omega
  refine AWP.exit ?_
  refine AWP.seq (AWP.region ?_)
  refine AOps.step rfl rfl rfl (AOp.moveO rfl rfl) ?_
  refine AOps.step rfl rfl rfl (AOp.assignO rfl rfl) (.nil ?_)
  refine AWP.ret ?_
  refine ⟨51, rfl, mem_row_eq (.head _) ?_⟩
  rfl

set_option maxRecDepth 100000 in
set_option maxHeartbeats 1000000 in
theorem c_next (n : Nat) (hn : n ≤ 1000) (l : List Nat) (hv : Vld n l) : RCall Tryz.prog 75 3 1 (l.map numD) (((nextC n l).getD l).map numD) [.v (.int .i64 (n : Int))] (.v (.bool (nextC n l).isSome)) := by
  refine RCall.of1 (chg := fun i => Nat.ble 1000 i) (xcall_of (n := 48) (ds' := [.v (.bool (nextC n l).isSome)]) Tryz.func75 rfl (by kernel_rfl) rfl [4] rfl rfl ?_) rfl
  intro B w0 F0 fr ρ0
  have hln := hv.1
  refine AWP.seq (AWP.region ?_)
  refine AOps.aD rfl rfl rfl rfl rfl (.nil ?_)
  refine AWP.seq ?_
  refine AWP.seq (AWP.region ?_)
  refine AOps.step rfl rfl rfl (AOp.moveO rfl rfl) ?_
  refine AOps.step rfl rfl rfl (AOp.lenOwn rfl et_63.ht rfl (.head _)) ?_
  refine AOps.step rfl rfl rfl (AOp.sub64 rfl rfl rfl (by (try simp only [List.length_map]); omega) (by (try simp only [List.length_map]); omega)) ?_
  refine AOps.aD rfl rfl rfl rfl rfl (.nil ?_)
  refine AWP.block ?_
  refine AWP.loop (G := Nat) (fun j => Env.of [(5, .d (.v (.int .i64 ((j : Int) - 1)))), (0, .own 1), (1, .d (.v (.int .i64 (n : Int))))]) (fun j => [(1, .row 3 1 (l.map numD))]) (fun j => j ≤ l.length ∧ pivot n l l.length = pivot n l j) (fun j => j) l.length ⟨Nat.le_refl _, rfl⟩ (Sub.less ⟨(SLe.i64 (by rw [List.length_map])), SLe.refl _, SLe.refl _, trivial⟩ (row_numEq rfl)) ?_
  intro j hj
  refine AWP.seq ?_
  refine AWP.seq (AWP.region ?_)
  refine AOps.mD rfl rfl rfl rfl rfl ?_
  refine AOps.step rfl rfl rfl (AOp.geq rfl rfl rfl) (.nil ?_)
  refine AWP.cond rfl (fun h1 => ?_) (fun h1 => ?_)
  · replace h1 := of_decide_eq_true h1
    have hj1 : 0 < j := by omega
    have hkl : j - 1 < l.length := by omega
    have hlk := hv.2 (j - 1) hkl
    refine AWP.skip ?_
    refine AWP.seq ?_
    refine AWP.block ?_
    refine AWP.seq (AWP.region ?_)
    refine AOps.step rfl rfl rfl (AOp.moveO rfl rfl) ?_
    refine AOps.mD rfl rfl rfl rfl rfl ?_
    refine AOps.step rfl rfl rfl (AOp.indexOwn rfl et_63 rfl rfl (.head _) (j - 1) (by omega) (by rw [List.length_map]; omega)) ?_
    refine AOps.step rfl rfl rfl (AOp.loadRow rfl sc_3 rfl (.head _) (j - 1) 0 rfl (at_list hkl) rfl) ?_
    refine AOps.mD rfl rfl rfl rfl rfl ?_
    refine AOps.step rfl rfl rfl (AOp.moveO rfl rfl) ?_
    refine AOps.step rfl rfl rfl (AOp.lenOwn rfl et_63.ht rfl (.head _)) ?_
    refine AOps.step rfl rfl rfl (AOp.sub64 rfl rfl rfl (by (try simp only [List.length_map]); omega) (by (try simp only [List.length_map]); omega)) ?_
    refine AOps.mD rfl rfl rfl rfl rfl ?_
    refine AOps.step rfl rfl rfl (AOp.add64 rfl rfl rfl (by (try simp only [List.length_map]); omega) (by (try simp only [List.length_map]); omega)) ?_
    refine AOps.step rfl rfl rfl (AOp.lss rfl rfl rfl) (.nil ?_)
    refine AWP.cond rfl (fun h2 => ?_) (fun h2 => ?_)
    · replace h2 := of_decide_eq_true h2
      rw [List.length_map] at h2
      have HP := pivot_here (n := n) (l := l) (j := j - 1) (by rw [numAt (by omega)]; omega)
      rw [show j - 1 + 1 = j by omega] at HP
      have HN : nextC n l = some (bump l (j - 1)) := by unfold nextC; rw [hj.2, HP]; rfl
      rw [HN]
      refine AWP.seq (AWP.region ?_)
      refine AOps.step rfl rfl rfl (AOp.moveO rfl rfl) ?_
      refine AOps.mD rfl rfl rfl rfl rfl ?_
      refine AOps.step rfl rfl rfl (AOp.indexOwn rfl et_63 rfl rfl (.head _) (j - 1) (by omega) (by rw [List.length_map]; omega)) ?_
      refine AOps.step rfl rfl rfl (AOp.loadRow rfl sc_3 rfl (.head _) (j - 1) 0 rfl (at_list hkl) rfl) ?_
      refine AOps.step rfl rfl rfl (AOp.add64 rfl rfl rfl (by (try simp only [List.length_map]); omega) (by (try simp only [List.length_map]); omega)) ?_
      refine AOps.step rfl rfl rfl (AOp.indexOwn rfl et_63 rfl rfl (.head _) (j - 1) (by omega) (by rw [List.length_map]; omega)) ?_
      refine AOps.storeRow rfl rfl rfl sz_3 rfl (.head _) rfl rfl rfl (j - 1) 0 rfl (at_list hkl) (Nat.le_of_ble_eq_true rfl) (.nil ?_)
      refine AWP.seq ?_
      refine AWP.seq (AWP.region ?_)
      refine AOps.mD rfl rfl rfl rfl rfl ?_
      refine AOps.step rfl rfl rfl (AOp.add64 rfl rfl rfl (by (try simp only [List.length_map]); omega) (by (try simp only [List.length_map]); omega)) ?_
      refine AOps.aD rfl rfl rfl rfl rfl (.nil ?_)
      refine AWP.block ?_
      refine AWP.loop (G := Nat) (fun i => Env.of [(6, .d (.v (.int .i64 (i : Int)))), (0, .own 1), (1, .d (.v (.int .i64 (n : Int))))]) (fun i => [(1, .row 3 1 ((bumpTo l (j - 1) i).map numD))]) (fun i => j ≤ i ∧ i ≤ l.length) (fun i => l.length - i) j ⟨Nat.le_refl _, hj.1⟩ (Sub.less ⟨(SLe.i64 (by omega)), SLe.refl _, SLe.refl _, trivial⟩ (row_numEq ((bump_first hkl).trans (by rw [show j - 1 + 1 = j by omega])))) ?_
      intro i hi
      refine AWP.seq ?_
      refine AWP.seq (AWP.region ?_)
      refine AOps.mD rfl rfl rfl rfl rfl ?_
      refine AOps.step rfl rfl rfl (AOp.moveO rfl rfl) ?_
      refine AOps.step rfl rfl rfl (AOp.lenOwn rfl et_63.ht rfl (.head _)) ?_
      refine AOps.step rfl rfl rfl (AOp.lss rfl rfl rfl) (.nil ?_)
      refine AWP.cond rfl (fun h3 => ?_) (fun h3 => ?_)
      · replace h3 := of_decide_eq_true h3
        have hbl := bumpTo_len (l := l) (k := j - 1) (i := i) (by omega) (by omega)
        rw [List.length_map, hbl] at h3
        have him : i < l.length := by omega
        have h2 : i - 1 < (bumpTo l (j - 1) i).length := by omega
        have hbp := bump_prev (l := l) (k := j - 1) (i := i) (by omega) him
        rw [numAt h2, numAt hkl] at hbp
        refine AWP.skip ?_
        refine AWP.seq ?_
        refine AWP.block ?_
        refine AWP.region ?_
        refine AOps.step rfl rfl rfl (AOp.moveO rfl rfl) ?_
        refine AOps.mD rfl rfl rfl rfl rfl ?_
        refine AOps.step rfl rfl rfl (AOp.moveO rfl rfl) ?_
        refine AOps.mD rfl rfl rfl rfl rfl ?_
        refine AOps.step rfl rfl rfl (AOp.sub64 rfl rfl rfl (by (try simp only [List.length_map]); omega) (by (try simp only [List.length_map]); omega)) ?_
        refine AOps.step rfl rfl rfl (AOp.indexOwn rfl et_63 rfl rfl (.head _) (i - 1) (by omega) (by rw [List.length_map]; omega)) ?_
        refine AOps.step rfl rfl rfl (AOp.loadRow rfl sc_3 rfl (.head _) (i - 1) 0 rfl (at_list h2) rfl) ?_
        refine AOps.step rfl rfl rfl (AOp.add64 rfl rfl rfl (by (try simp only [List.length_map]); omega) (by (try simp only [List.length_map]); omega)) ?_
        refine AOps.step rfl rfl rfl (AOp.indexOwn rfl et_63 rfl rfl (.head _) i rfl (by rw [List.length_map]; omega)) ?_
        refine AOps.storeRow rfl rfl rfl sz_3 rfl (.head _) rfl rfl rfl i 0 rfl (at_list (by omega)) (Nat.le_of_ble_eq_true rfl) (.nil ?_)
        refine AWP.region ?_
        refine AOps.mD rfl rfl rfl rfl rfl ?_
        refine AOps.step rfl rfl rfl (AOp.add64 rfl rfl rfl (by (try simp only [List.length_map]); omega) (by (try simp only [List.length_map]); omega)) ?_
        refine AOps.aD rfl rfl rfl rfl rfl (.nil ?_)
        refine ⟨i + 1, ⟨by omega, by omega⟩, (by dsimp only; omega), Sub.less ⟨(SLe.of_eq rfl), SLe.refl _, SLe.refl _, trivial⟩ (row_numEq (bump_next (by omega) him h2))⟩
      replace h3 := of_decide_eq_false h3
      have hbl := bumpTo_len (l := l) (k := j - 1) (i := i) (by omega) (by omega)
      rw [List.length_map, hbl] at h3
      obtain rfl : i = l.length := by omega
      refine AWP.exit ?_
      refine AWP.seq (AWP.region ?_)
      refine AOps.aD rfl rfl rfl rfl rfl (.nil ?_)
      refine AWP.ret ?_
      refine ⟨⟨RetDX.eq rfl ?_, trivial⟩, ⟨mem_row_eq (.head _) ?_, trivial⟩⟩
      all_goals (rfl)
    replace h2 := of_decide_eq_false h2
    rw [List.length_map] at h2
    have HP := pivot_step (n := n) (l := l) (j := j - 1) (by rw [numAt (by omega)]; omega)
    rw [show j - 1 + 1 = j by omega] at HP
    refine AWP.skip ?_
    refine AWP.region ?_
    refine AOps.mD rfl rfl rfl rfl rfl ?_
    refine AOps.step rfl rfl rfl (AOp.sub64 rfl rfl rfl (by (try simp only [List.length_map]); omega) (by (try simp only [List.length_map]); omega)) ?_
    refine AOps.aD rfl rfl rfl rfl rfl (.nil ?_)
    refine ⟨j - 1, ⟨by omega, hj.2.trans HP⟩, (by dsimp only; omega), Sub.less ⟨(SLe.i64 (by omega)), SLe.refl _, SLe.refl _, trivial⟩ (row_numEq rfl)⟩
  replace h1 := of_decide_eq_false h1
  have HN : nextC n l = none := by unfold nextC; rw [hj.2, show j = 0 by omega]; rfl
  rw [HN]
  refine AWP.exit ?_
  refine AWP.seq (AWP.region ?_)
  refine AOps.aD rfl rfl rfl rfl rfl (.nil ?_)
  refine AWP.ret ?_
  refine ⟨⟨RetDX.eq rfl ?_, trivial⟩, ⟨mem_row_eq (.head _) ?_, trivial⟩⟩
  all_goals (rfl)

end Go.Proofs.YtieccphckobhjaaGreatDoor


namespace Go.Proofs.YtieccphckobhjaaGreatDoor
open Go.RowKit
set_option linter.unusedVariables false

/-! Types. -/
namespace TyL1
theorem ag_26 : AggT Tryz.prog 26 3 := .of (by kernel_rfl)
theorem ag_59 : AggT Tryz.prog 59 5 := .of (by kernel_rfl)
theorem ag_65 : AggT Tryz.prog 65 7 := .of (by kernel_rfl)
theorem et_23 : ElemTy Tryz.prog 23 59 5 64 (.agg #[(.string ⟨#[]⟩), (.string ⟨#[]⟩), (.string ⟨#[]⟩), (.int .i64 0), (.int .i64 0)]) := ⟨by kernel_rfl, by kernel_rfl, by kernel_rfl, by decide⟩
theorem et_24 : ElemTy Tryz.prog 24 65 7 96 (.agg #[(.string ⟨#[]⟩), (.string ⟨#[]⟩), (.string ⟨#[]⟩), (.int .i64 0), (.int .i64 0), (.int .i64 0), (.slice none 0 0)]) := ⟨by kernel_rfl, by kernel_rfl, by kernel_rfl, by decide⟩
theorem fo_26_1 : fieldOff Tryz.prog 26 1 = some 1 := by kernel_rfl
theorem fo_26_2 : fieldOff Tryz.prog 26 2 = some 2 := by kernel_rfl
theorem fo_28_4 : fieldOff Tryz.prog 28 4 = some 4 := by kernel_rfl
theorem fo_59_3 : fieldOff Tryz.prog 59 3 = some 3 := by kernel_rfl
theorem fo_65_0 : fieldOff Tryz.prog 65 0 = some 0 := by kernel_rfl
theorem sc_23 : Scal Tryz.prog 23 := .of (by kernel_rfl)
theorem sc_24 : Scal Tryz.prog 24 := .of (by kernel_rfl)
theorem sc_3 : Scal Tryz.prog 3 := .of (by kernel_rfl)
theorem sc_9 : Scal Tryz.prog 9 := .of (by kernel_rfl)
theorem sz_59 : ∀ w, (sizeOf 59).run Tryz.prog w = .ok 5 w := SizeT.of (by kernel_rfl)
theorem sz_65 : ∀ w, (sizeOf 65).run Tryz.prog w = .ok 7 w := SizeT.of (by kernel_rfl)
theorem zt_59 : (Tryz.prog.info? 59).bind (·.zero) = some (.agg #[(.string ⟨#[]⟩), (.string ⟨#[]⟩), (.string ⟨#[]⟩), (.int .i64 0), (.int .i64 0)]) := by kernel_rfl
theorem zt_65 : (Tryz.prog.info? 65).bind (·.zero) = some (.agg #[(.string ⟨#[]⟩), (.string ⟨#[]⟩), (.string ⟨#[]⟩), (.int .i64 0), (.int .i64 0), (.int .i64 0), (.slice none 0 0)]) := by kernel_rfl
end TyL1
open TyL1


structure Lck where
  item : ByteArray
  carrier : ByteArray
  what : Int
  many : Int
deriving DecidableEq
def Lck.ds (x : Lck) : List D := [.v (.string x.item), .v (.string x.carrier), .v (.int .i64 x.what), .v (.int .i64 x.many)]
def oldB (p : Pol) (day : Int) (x : Carr) : Bool := decide (p.old < day - x.made)
def zeroCarr : Carr := ⟨⟨#[]⟩, ⟨#[]⟩, ⟨#[]⟩, 0, 0⟩
def carrAt (v : Vlt) (nm : ByteArray) : Carr := (v.carrs[(carrIdx v nm).toNat]?).getD zeroCarr
theorem carrAt_eq {v : Vlt} {nm : ByteArray} {k : Nat} (hk : k < v.carrs.length) (e : carrIdx v nm = k) : carrAt v nm = v.carrs[k] := by
  unfold carrAt; rw [e, Int.toNat_natCast, List.getElem?_eq_getElem hk]; rfl
theorem carrAt_mem {v : Vlt} {nm : ByteArray} (h : 0 ≤ carrIdx v nm) : carrAt v nm ∈ v.carrs := by
  obtain ⟨k, hk, e, _⟩ := idxBy_some h
  rw [carrAt_eq hk e]; exact List.getElem_mem hk
theorem VOk.carr {v : Vlt} (h : VOk v) {x : Carr} (hx : x ∈ v.carrs) : nameOk x.name = true ∧ (0 ≤ x.made ∧ x.made ≤ 200000) ∧ 0 ≤ x.room ∧ x.room ≤ 1000000 := by
  obtain ⟨k, hk, rfl⟩ := List.mem_iff_getElem.1 hx
  exact carrFault_ok hk (ffst_all _ h.carrs k hk)
def goodB (v : Vlt) (p : Pol) (day : Int) (c : Cpy) : Bool := (decide ((c.bad.length : Int) = 0) && decide (c.gen ≤ p.gens)) && !oldB p day (carrAt v c.carrier)
def ofItem (it : ByteArray) (c : Cpy) : Bool := decide (c.item = it)
def copiesTo (v : Vlt) (it : ByteArray) (k : Nat) : List Cpy := (v.copies.take k).filter (ofItem it)
def copiesOf (v : Vlt) (it : ByteArray) : List Cpy := v.copies.filter (ofItem it)
theorem copiesOf_eq (v : Vlt) (it : ByteArray) : copiesTo v it v.copies.length = copiesOf v it := by unfold copiesTo copiesOf; rw [List.take_length]
theorem filter_yes {α : Type} {p : α → Bool} {l : List α} {k : Nat} (hk : k < l.length) (h : p l[k] = true) : (l.take (k + 1)).filter p = (l.take k).filter p ++ [l[k]] := by
  rw [List.take_add_one, List.getElem?_eq_getElem hk, Option.toList_some, List.filter_append, List.filter_cons, List.filter_nil, if_pos h]
theorem filter_no {α : Type} {p : α → Bool} {l : List α} {k : Nat} (hk : k < l.length) (h : p l[k] = false) : (l.take (k + 1)).filter p = (l.take k).filter p := by
  rw [List.take_add_one, List.getElem?_eq_getElem hk, Option.toList_some, List.filter_append, List.filter_cons, List.filter_nil, if_neg (by rw [h]; simp), List.append_nil]
theorem copiesTo_yes {v : Vlt} {it : ByteArray} {k : Nat} (hk : k < v.copies.length) (h : v.copies[k].item = it) : copiesTo v it (k + 1) = copiesTo v it k ++ [v.copies[k]] := filter_yes hk (decide_eq_true h)
theorem copiesTo_no {v : Vlt} {it : ByteArray} {k : Nat} (hk : k < v.copies.length) (h : ¬ v.copies[k].item = it) : copiesTo v it (k + 1) = copiesTo v it k := filter_no hk (decide_eq_false h)
theorem copiesTo_len (v : Vlt) (it : ByteArray) (k : Nat) : (copiesTo v it k).length ≤ v.copies.length := Nat.le_trans (List.length_filter_le _ _) (by rw [List.length_take]; omega)
theorem copiesOf_len (v : Vlt) (it : ByteArray) : (copiesOf v it).length ≤ v.copies.length := List.length_filter_le _ _
theorem copiesOf_mem {v : Vlt} {it : ByteArray} {c : Cpy} (h : c ∈ copiesOf v it) : c ∈ v.copies ∧ c.item = it := by
  unfold copiesOf at h
  rw [List.mem_filter] at h
  exact ⟨h.1, of_decide_eq_true h.2⟩
def goodTo (v : Vlt) (it : ByteArray) (p : Pol) (day : Int) (k : Nat) : List Carr := (((copiesOf v it).take k).filter (goodB v p day)).map fun c => carrAt v c.carrier
def goodOnes (v : Vlt) (it : ByteArray) (p : Pol) (day : Int) : List Carr := ((copiesOf v it).filter (goodB v p day)).map fun c => carrAt v c.carrier
theorem goodTo_yes {v : Vlt} {it : ByteArray} {p : Pol} {day : Int} {k : Nat} (hk : k < (copiesOf v it).length) (h : goodB v p day (copiesOf v it)[k] = true) : goodTo v it p day (k + 1) = goodTo v it p day k ++ [carrAt v (copiesOf v it)[k].carrier] := by
  unfold goodTo; rw [filter_yes hk h, List.map_append]; rfl
theorem goodTo_no {v : Vlt} {it : ByteArray} {p : Pol} {day : Int} {k : Nat} (hk : k < (copiesOf v it).length) (h : goodB v p day (copiesOf v it)[k] = false) : goodTo v it p day (k + 1) = goodTo v it p day k := by
  unfold goodTo; rw [filter_no hk h]
theorem goodTo_all (v : Vlt) (it : ByteArray) (p : Pol) (day : Int) : goodTo v it p day (copiesOf v it).length = goodOnes v it p day := by unfold goodTo goodOnes; rw [List.take_length]
theorem goodTo_len (v : Vlt) (it : ByteArray) (p : Pol) (day : Int) (k : Nat) : (goodTo v it p day k).length ≤ v.copies.length := by
  unfold goodTo
  rw [List.length_map]
  refine Nat.le_trans (List.length_filter_le _ _) ?_
  rw [List.length_take]
  have := copiesOf_len v it
  omega
/-- The same, in one go over all copies. -/
def rGoodTo (v : Vlt) (it : ByteArray) (p : Pol) (day : Int) (k : Nat) : List Carr := ((v.copies.take k).filter fun c => ofItem it c && goodB v p day c).map fun c => carrAt v c.carrier
theorem rGoodTo_all (v : Vlt) (it : ByteArray) (p : Pol) (day : Int) : rGoodTo v it p day v.copies.length = goodOnes v it p day := by
  unfold rGoodTo goodOnes copiesOf
  rw [List.take_length, List.filter_filter]
  congr 2
  funext c
  exact Bool.and_comm _ _
theorem rGoodTo_yes {v : Vlt} {it : ByteArray} {p : Pol} {day : Int} {k : Nat} (hk : k < v.copies.length) (h : (ofItem it v.copies[k] && goodB v p day v.copies[k]) = true) : rGoodTo v it p day (k + 1) = rGoodTo v it p day k ++ [carrAt v v.copies[k].carrier] := by
  unfold rGoodTo; rw [filter_yes (p := fun c => ofItem it c && goodB v p day c) hk h, List.map_append]; rfl
theorem rGoodTo_no {v : Vlt} {it : ByteArray} {p : Pol} {day : Int} {k : Nat} (hk : k < v.copies.length) (h : (ofItem it v.copies[k] && goodB v p day v.copies[k]) = false) : rGoodTo v it p day (k + 1) = rGoodTo v it p day k := by
  unfold rGoodTo; rw [filter_no (p := fun c => ofItem it c && goodB v p day c) hk h]
theorem rGoodTo_len (v : Vlt) (it : ByteArray) (p : Pol) (day : Int) (k : Nat) : (rGoodTo v it p day k).length ≤ v.copies.length := by
  unfold rGoodTo
  rw [List.length_map]
  refine Nat.le_trans (List.length_filter_le _ _) ?_
  rw [List.length_take]
  omega
/-! Sets of strings. -/
def addS (l : List ByteArray) (s : ByteArray) : List ByteArray := if s ∈ l then l else l ++ [s]
def uniq (l : List ByteArray) : List ByteArray := l.foldl addS []
theorem addS_in {l : List ByteArray} {s : ByteArray} (h : s ∈ l) : addS l s = l := if_pos h
theorem addS_out {l : List ByteArray} {s : ByteArray} (h : ¬ s ∈ l) : addS l s = l ++ [s] := if_neg h
theorem uniq_snoc (l : List ByteArray) (s : ByteArray) : uniq (l ++ [s]) = addS (uniq l) s := by unfold uniq; rw [List.foldl_append]; rfl
theorem addS_nodup {l : List ByteArray} {s : ByteArray} (h : l.Nodup) : (addS l s).Nodup := by
  by_cases hs : s ∈ l
  · rw [addS_in hs]; exact h
  · rw [addS_out hs, List.nodup_append]
    exact ⟨h, by simp, fun a ha b hb => by rw [List.mem_singleton] at hb; subst hb; exact fun e => hs (e ▸ ha)⟩
theorem foldl_addS_nodup : ∀ (l : List ByteArray) {acc : List ByteArray}, acc.Nodup → (l.foldl addS acc).Nodup
  | [], _, h => h
  | s :: l, _, h => foldl_addS_nodup l (addS_nodup h)
theorem uniq_nodup (l : List ByteArray) : (uniq l).Nodup := foldl_addS_nodup l .nil
theorem addS_len (l : List ByteArray) (s : ByteArray) : (addS l s).length ≤ l.length + 1 := by
  by_cases hs : s ∈ l
  · rw [addS_in hs]; omega
  · rw [addS_out hs, List.length_append]; exact Nat.le_refl _
theorem foldl_addS_len : ∀ (l acc : List ByteArray), (l.foldl addS acc).length ≤ acc.length + l.length
  | [], acc => Nat.le_refl _
  | s :: l, acc => by
    have h1 := foldl_addS_len l (addS acc s)
    have h2 := addS_len acc s
    simp only [List.foldl_cons, List.length_cons]
    omega
theorem uniq_len (l : List ByteArray) : (uniq l).length ≤ l.length := by have := foldl_addS_len l []; unfold uniq; simpa using this
def setM (l : List ByteArray) : List (Value × D) := l.map fun s => (.string s, .v (.bool true))
theorem setM_keys {l : List ByteArray} : ∀ p ∈ setM l, MapKept.IsKey .string p.1 := fun p hp => by
  obtain ⟨s, _, rfl⟩ := List.mem_map.1 hp
  trivial
theorem setM_put {l : List ByteArray} {s : ByteArray} (h : l.Nodup) : MPut (setM l) (.string s) (.v (.bool true)) (setM (addS l s)) := by
  by_cases hs : s ∈ l
  · obtain ⟨i, hi, he⟩ := List.mem_iff_getElem.1 hs
    refine .inl ⟨i, .v (.bool true), ?_, fun j p hj hp => ?_, ?_⟩
    · unfold setM; rw [List.getElem?_map, List.getElem?_eq_getElem hi, he]; rfl
    · unfold setM at hj
      rw [List.getElem?_map] at hj
      cases hjl : l[j]? with
      | none => rw [hjl] at hj; simp at hj
      | some u =>
        rw [hjl] at hj
        have hj := Option.some.inj hj
        rw [← hj] at hp
        have hu : u = s := by simpa using hp
        subst hu
        obtain ⟨hjlt, hje⟩ := List.getElem?_eq_some_iff.1 hjl
        exact (List.getElem_inj h).1 (hje.trans he.symm)
    · rw [addS_in hs]
      unfold setM
      apply List.ext_getElem?
      intro j
      rw [List.getElem?_set]
      by_cases hij : i = j
      · subst hij
        rw [if_pos rfl, List.length_map, if_pos hi, List.getElem?_map, List.getElem?_eq_getElem hi, he]; rfl
      · rw [if_neg hij]
  · refine .inr ⟨fun p hp e => ?_, by rw [addS_out hs]; unfold setM; rw [List.map_append]; rfl⟩
    obtain ⟨u, hu, rfl⟩ := List.mem_map.1 hp
    have : u = s := by simpa using e
    subst this
    exact hs hu
def lackC (p : Pol) (l : List Carr) : Int := max 0 (p.copies - (l.length : Int))
def lackP (p : Pol) (l : List Carr) : Int := max 0 (p.places - ((uniq (l.map Carr.place)).length : Int))
def lackK (p : Pol) (l : List Carr) : Int := max 0 (p.kinds - ((uniq (l.map Carr.kind)).length : Int))
def spreadDs (l : List Carr) : List D := [.v (.int .i64 (l.length : Int)), .v (.int .i64 ((uniq (l.map Carr.place)).length : Int)), .v (.int .i64 ((uniq (l.map Carr.kind)).length : Int))]


set_option maxRecDepth 100000 in
set_option maxHeartbeats 1000000 in
theorem c_old (x : Carr) (p : Pol) (day : Int) (hx : 0 ≤ x.made ∧ x.made ≤ 200000) (hd : 0 ≤ day ∧ day ≤ 200001) : ACall Tryz.prog 26 [.agg x.ds, .agg p.ds, .v (.int .i64 day)] (.v (.bool (oldB p day x))) := by
  refine acall_of (n := 14) (ds' := [.v (.bool (oldB p day x))]) Tryz.func26 rfl (by kernel_rfl) rfl [6] rfl rfl ?_
  intro B w0 F0 fr
  refine AWP.seq (AWP.region ?_)
  refine AOps.step rfl rfl rfl (AOp.box rfl rfl rfl) ?_
  refine AOps.step rfl rfl rfl (AOp.box rfl rfl rfl) ?_
  refine AOps.aD rfl rfl rfl rfl rfl (.nil ?_)
  refine AWP.seq (AWP.region ?_)
  refine AOps.mD rfl rfl rfl rfl rfl ?_
  refine AOps.step rfl rfl rfl (AOp.fieldAddr rfl fo_59_3 rfl) ?_
  refine AOps.step rfl rfl rfl (AOp.load rfl sc_3 rfl) ?_
  refine AOps.step rfl rfl rfl (AOp.sub64 rfl rfl rfl (by omega) (by omega)) ?_
  refine AOps.step rfl rfl rfl (AOp.fieldAddr rfl fo_28_4 rfl) ?_
  refine AOps.step rfl rfl rfl (AOp.load rfl sc_3 rfl) ?_
  refine AOps.step rfl rfl rfl (AOp.gtr rfl rfl rfl) ?_
  refine AOps.aD rfl rfl rfl rfl rfl (.nil ?_)
  refine AWP.ret ?_
  refine ⟨RetD.eq rfl ?_, trivial⟩
  all_goals (rfl)

set_option maxRecDepth 100000 in
set_option maxHeartbeats 1000000 in
theorem c_rOld (x : Carr) (p : Pol) (day : Int) (hx : 0 ≤ x.made ∧ x.made ≤ 200000) (hp : 1 ≤ p.old ∧ p.old ≤ 200000) : ACall Tryz.prog 83 [.agg x.ds, .agg p.ds, .v (.int .i64 day)] (.v (.bool (oldB p day x))) := by
  refine acall_of (n := 14) (ds' := [.v (.bool (oldB p day x))]) Tryz.func83 rfl (by kernel_rfl) rfl [6] rfl rfl ?_
  intro B w0 F0 fr
  refine AWP.seq (AWP.region ?_)
  refine AOps.step rfl rfl rfl (AOp.box rfl rfl rfl) ?_
  refine AOps.step rfl rfl rfl (AOp.box rfl rfl rfl) ?_
  refine AOps.aD rfl rfl rfl rfl rfl (.nil ?_)
  refine AWP.seq (AWP.region ?_)
  refine AOps.mD rfl rfl rfl rfl rfl ?_
  refine AOps.step rfl rfl rfl (AOp.fieldAddr rfl fo_59_3 rfl) ?_
  refine AOps.step rfl rfl rfl (AOp.load rfl sc_3 rfl) ?_
  refine AOps.step rfl rfl rfl (AOp.fieldAddr rfl fo_28_4 rfl) ?_
  refine AOps.step rfl rfl rfl (AOp.load rfl sc_3 rfl) ?_
  refine AOps.step rfl rfl rfl (AOp.add64 rfl rfl rfl (by omega) (by omega)) ?_
  refine AOps.step rfl rfl rfl (AOp.gtr rfl rfl rfl) ?_
  refine AOps.aD rfl rfl rfl rfl rfl (.nil ?_)
  refine AWP.ret ?_
  refine ⟨RetD.eq rfl ?_, trivial⟩
  all_goals ((unfold oldB; rw [decide_eq_decide.2 (by omega : day > x.made + p.old ↔ p.old < day - x.made)]))

set_option maxRecDepth 100000 in
set_option maxHeartbeats 1000000 in
theorem c_carrier (v : Vlt) (nm : ByteArray) (h : 0 ≤ carrIdx v nm) : ACall Tryz.prog 59 [.agg v.ds, .v (.string nm)] (.agg (carrAt v nm).ds) := by
  refine acall_ofR (n := 12) (ds' := [.agg (carrAt v nm).ds]) Tryz.func59 rfl (by kernel_rfl) rfl [.cell 4 59] rfl rfl ?_
  intro B w0 F0 fr
  obtain ⟨k, hk, e, _⟩ := idxBy_some h
  rw [carrAt_eq hk e]
  refine AWP.seq (AWP.region ?_)
  refine AOps.step rfl rfl rfl (AOp.box rfl rfl rfl) ?_
  refine AOps.alloc 101 rfl rfl rfl rfl zt_59 rfl rfl rfl (.nil ?_)
  refine AWP.seq ?_
  refine AWP.drawTail 7 (by kernel_rfl) (by kernel_rfl) (by kernel_rfl) ?_
  refine DRun.step rfl rfl rfl (AOp.fieldAddr rfl fo_26_1 rfl) ?_
  refine DRun.step rfl rfl rfl (AOp.load rfl sc_23 rfl) ?_
  refine DRun.step rfl rfl rfl (AOp.loadAgg rfl ag_26 rfl rfl) ?_
  refine DRun.step rfl rfl rfl (AOp.moveD rfl rfl) ?_
  refine DRun.step rfl rfl rfl (AOp.call rfl (.cons (ArgOk.rfl' rfl) (.cons (ArgOk.rfl' rfl) .nil)) (c_carrAt _ _)) ?_
  refine DRun.step rfl rfl rfl (AOp.indexAddr rfl et_23 rfl rfl k e (at_list hk) rfl) ?_
  refine DRun.step rfl rfl rfl (AOp.loadAgg rfl ag_59 rfl rfl) ?_
  refine DRun.nil ?_
  refine AOps.store rfl rfl rfl sz_59 rfl (.head _) rfl rfl rfl (Nat.le_of_ble_eq_true rfl) (.nil ?_)
  refine AWP.ret ?_
  refine ⟨RetR.agg rfl (.head _) ag_59 rfl (.cons (by first | exact CellD.nil | exact CellD.d | exact CellD.eq (by simp) | (refine CellD.own (by first | exact .head _ | exact .tail _ (.head _)) ?_; rfl)) (.cons (by first | exact CellD.nil | exact CellD.d | exact CellD.eq (by simp) | (refine CellD.own (by first | exact .head _ | exact .tail _ (.head _)) ?_; rfl)) (.cons (by first | exact CellD.nil | exact CellD.d | exact CellD.eq (by simp) | (refine CellD.own (by first | exact .head _ | exact .tail _ (.head _)) ?_; rfl)) (.cons (by first | exact CellD.nil | exact CellD.d | exact CellD.eq (by simp) | (refine CellD.own (by first | exact .head _ | exact .tail _ (.head _)) ?_; rfl)) (.cons (by first | exact CellD.nil | exact CellD.d | exact CellD.eq (by simp) | (refine CellD.own (by first | exact .head _ | exact .tail _ (.head _)) ?_; rfl)) .nil))))), trivial⟩
  all_goals (rfl)

set_option maxRecDepth 100000 in
set_option maxHeartbeats 1000000 in
theorem c_copiesOf (v : Vlt) (it : ByteArray) (hn : v.copies.length ≤ 200) : ACall Tryz.prog 58 [.agg v.ds, .v (.string it)] (.sl ((copiesOf v it).map Cpy.ds)) := by
  refine acall_of (n := 25) (ds' := [.sl ((copiesOf v it).map Cpy.ds)]) Tryz.func58 rfl (by kernel_rfl) rfl [4] rfl rfl ?_
  intro B w0 F0 fr
  refine AWP.seq (AWP.region ?_)
  refine AOps.step rfl rfl rfl (AOp.box rfl rfl rfl) ?_
  refine AOps.aD rfl rfl rfl rfl rfl (.nil ?_)
  refine AWP.seq (AWP.region ?_)
  refine AOps.aD rfl rfl rfl rfl rfl (.nil ?_)
  refine AWP.seq ?_
  refine AWP.seq (AWP.region ?_)
  refine AOps.step rfl rfl rfl (AOp.fieldAddr rfl fo_26_2 rfl) ?_
  refine AOps.step rfl rfl rfl (AOp.load rfl sc_24 rfl) ?_
  refine AOps.step rfl rfl rfl (AOp.lenSl rfl et_24.ht rfl) ?_
  refine AOps.mD rfl rfl rfl rfl rfl (.nil ?_)
  refine AWP.block ?_
  refine AWP.adopt 5 1 65 7 rfl rfl ?_
  refine AWP.loop (G := Nat) (fun k => Env.of [(11, .d (.v (.int .i64 (k : Int)))), (9, .d (.sl (v.copies.map Cpy.ds))), (10, .d (.v (.int .i64 ((v.copies.map Cpy.ds).length : Int)))), (1, .d (.v (.string it))), (5, .own 1)]) (fun k => [(1, .row 65 7 ((copiesTo v it k).map Cpy.ds))]) (fun k => k ≤ v.copies.length) (fun k => v.copies.length - k) 0 (Nat.zero_le _) (Sub.less ⟨(SLe.of_eq rfl), SLe.refl _, SLe.refl _, SLe.refl _, SLe.refl _, trivial⟩ (row_same rfl)) ?_
  intro k hk
  refine AWP.seq (AWP.region ?_)
  refine AOps.step rfl rfl rfl (AOp.lss rfl rfl rfl) (.nil ?_)
  refine AWP.seq ?_
  refine AWP.cond rfl (fun h1 => ?_) (fun h1 => ?_)
  · replace h1 := of_decide_eq_true h1
    rw [List.length_map] at h1
    have hlt : k < v.copies.length := by omega
    have hcl := copiesTo_len v it k
    refine AWP.skip ?_
    refine AWP.seq ?_
    refine AWP.block ?_
    refine AWP.seq (AWP.region ?_)
    refine AOps.step rfl rfl rfl (AOp.indexAddr rfl et_24 rfl rfl k rfl (at_list hlt) rfl) ?_
    refine AOps.step rfl rfl rfl (AOp.loadAgg rfl ag_65 rfl rfl) ?_
    refine AOps.alloc 101 rfl rfl rfl rfl zt_65 rfl rfl rfl ?_
    refine AOps.store rfl rfl rfl sz_65 rfl (.head _) rfl rfl rfl (Nat.le_of_ble_eq_true rfl) (.nil ?_)
    refine AWP.seq (AWP.region ?_)
    refine AOps.step rfl rfl rfl (AOp.fieldAddrP rfl fo_65_0 rfl) ?_
    refine AOps.step rfl rfl rfl (AOp.loadP rfl sc_9 rfl (.head _) rfl) ?_
    refine AOps.mD rfl rfl rfl rfl rfl ?_
    refine AOps.step rfl rfl rfl (AOp.seql rfl rfl rfl) (.nil ?_)
    refine AWP.cond rfl (fun h2 => ?_) (fun h2 => ?_)
    · replace h2 := of_decide_eq_true h2
      have HY := copiesTo_yes hlt h2
      refine AWP.region ?_
      refine AOps.step rfl rfl rfl (AOp.moveO rfl rfl) ?_
      refine AOps.step rfl rfl rfl (AOp.loadPU rfl ag_65 rfl (.head _) rfl rfl) ?_
      refine AOps.step rfl rfl rfl (AOp.buildSlice rfl et_24 (.cons rfl rfl rfl .nil) rfl (by decide)) ?_
      -- append 22
      refine AOps.append rfl rfl rfl rfl et_24 rfl (.tail _ (.head _)) rfl (by simp [D.parts]; rfl) (by simp; omega) (by simp; omega) ?_
      refine AOps.step rfl rfl rfl (AOp.assignO rfl rfl) (.nil ?_)
      refine AWP.region ?_
      refine AOps.step rfl rfl rfl (AOp.add64 rfl rfl rfl (by omega) (by omega)) ?_
      refine AOps.mD rfl rfl rfl rfl rfl (.nil ?_)
      refine ⟨k + 1, (by omega), (by dsimp only; omega), Sub.less ⟨(SLe.of_eq rfl), SLe.refl _, SLe.refl _, SLe.refl _, SLe.refl _, trivial⟩ (row_same2 (by rw [HY, List.map_append]; rfl))⟩
    replace h2 := of_decide_eq_false h2
    have HY := copiesTo_no hlt h2
    refine AWP.skip ?_
    refine AWP.region ?_
    refine AOps.step rfl rfl rfl (AOp.add64 rfl rfl rfl (by omega) (by omega)) ?_
    refine AOps.mD rfl rfl rfl rfl rfl (.nil ?_)
    refine ⟨k + 1, (by omega), (by dsimp only; omega), Sub.less ⟨(SLe.of_eq rfl), SLe.refl _, SLe.refl _, SLe.refl _, SLe.refl _, trivial⟩ (row_same2 (by rw [HY]))⟩
  replace h1 := of_decide_eq_false h1
  rw [List.length_map] at h1
  obtain rfl : k = v.copies.length := by omega
  have HE := copiesOf_eq v it
  refine AWP.exit ?_
  refine AWP.seq (AWP.region ?_)
  refine AOps.step rfl rfl rfl (AOp.moveO rfl rfl) ?_
  refine AOps.step rfl rfl rfl (AOp.assignO rfl rfl) (.nil ?_)
  refine AWP.ret ?_
  refine ⟨RetD.own rfl (.head _) ?_, trivial⟩
  all_goals (rw [HE])

end Go.Proofs.YtieccphckobhjaaGreatDoor
