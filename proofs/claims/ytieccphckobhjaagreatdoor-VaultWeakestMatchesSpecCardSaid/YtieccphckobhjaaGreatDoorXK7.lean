/- Walks and laws over abstract values, merged by tools/merge.py. No statement of the seat. -/
import Derived.Test.YtieccphckobhjaaGreatDoorXK6

namespace Go.Proofs.YtieccphckobhjaaGreatDoor
open Go.RowKit
set_option linter.unusedVariables false

/-! Types. -/
namespace TyQ5

end TyQ5
open TyQ5


def vId (i : Nat) : Bool := Nat.blt i 1000 && !(Nat.beq i 101)
section
variable {l : List Cpy} {i : Nat} {o : Ob} {pre : Obs}
end
section
variable {cx : Cx} {ops : Array Oper} {rest : List Oper} {e : Env} {Q : Post} {l : List Cpy} {i : Nat} {ob : Ob} {pre : Obs} {Φ : List Fr} {c : Code}
end
section
variable {cx : Cx} {ops : Array Oper} {rest : List Oper} {e : Env} {Q : Post} {l : List Cpy} {o x : Ob} {pre : Obs}
end
end Go.Proofs.YtieccphckobhjaaGreatDoor


namespace Go.Proofs.YtieccphckobhjaaGreatDoor
open Go.RowKit
set_option linter.unusedVariables false

/-! Types. -/
namespace TyQ6
theorem et_24 : ElemTy Tryz.prog 24 65 7 96 (.agg #[(.string ⟨#[]⟩), (.string ⟨#[]⟩), (.string ⟨#[]⟩), (.int .i64 0), (.int .i64 0), (.int .i64 0), (.slice none 0 0)]) := ⟨by kernel_rfl, by kernel_rfl, by kernel_rfl, by decide⟩
theorem et_63 : ElemTy Tryz.prog 63 3 1 8 (.int .i64 0) := ⟨by kernel_rfl, by kernel_rfl, by kernel_rfl, by decide⟩
theorem fo_26_2 : fieldOff Tryz.prog 26 2 = some 2 := by kernel_rfl
theorem fo_65_0 : fieldOff Tryz.prog 65 0 = some 0 := by kernel_rfl
theorem fo_65_1 : fieldOff Tryz.prog 65 1 = some 1 := by kernel_rfl
theorem fo_65_4 : fieldOff Tryz.prog 65 4 = some 4 := by kernel_rfl
theorem fo_65_6 : fieldOff Tryz.prog 65 6 = some 6 := by kernel_rfl
theorem sc_24 : Scal Tryz.prog 24 := .of (by kernel_rfl)
theorem sc_3 : Scal Tryz.prog 3 := .of (by kernel_rfl)
theorem sc_63 : Scal Tryz.prog 63 := .of (by kernel_rfl)
theorem sc_9 : Scal Tryz.prog 9 := .of (by kernel_rfl)
theorem sz_3 : ∀ w, (sizeOf 3).run Tryz.prog w = .ok 1 w := SizeT.of (by kernel_rfl)
end TyQ6
open TyQ6


end Go.Proofs.YtieccphckobhjaaGreatDoor


namespace Go.Proofs.YtieccphckobhjaaGreatDoor
open Go.RowKit
set_option linter.unusedVariables false

/-! Types. -/
namespace TyQ7
theorem et_22 : ElemTy Tryz.prog 22 62 2 24 (.agg #[(.string ⟨#[]⟩), (.int .i64 0)]) := ⟨by kernel_rfl, by kernel_rfl, by kernel_rfl, by decide⟩
theorem et_23 : ElemTy Tryz.prog 23 59 5 64 (.agg #[(.string ⟨#[]⟩), (.string ⟨#[]⟩), (.string ⟨#[]⟩), (.int .i64 0), (.int .i64 0)]) := ⟨by kernel_rfl, by kernel_rfl, by kernel_rfl, by decide⟩
theorem et_24 : ElemTy Tryz.prog 24 65 7 96 (.agg #[(.string ⟨#[]⟩), (.string ⟨#[]⟩), (.string ⟨#[]⟩), (.int .i64 0), (.int .i64 0), (.int .i64 0), (.slice none 0 0)]) := ⟨by kernel_rfl, by kernel_rfl, by kernel_rfl, by decide⟩
theorem et_63 : ElemTy Tryz.prog 63 3 1 8 (.int .i64 0) := ⟨by kernel_rfl, by kernel_rfl, by kernel_rfl, by decide⟩
theorem fo_26_0 : fieldOff Tryz.prog 26 0 = some 0 := by kernel_rfl
theorem fo_26_1 : fieldOff Tryz.prog 26 1 = some 1 := by kernel_rfl
theorem fo_26_2 : fieldOff Tryz.prog 26 2 = some 2 := by kernel_rfl
theorem sc_22 : Scal Tryz.prog 22 := .of (by kernel_rfl)
theorem sc_23 : Scal Tryz.prog 23 := .of (by kernel_rfl)
theorem sc_24 : Scal Tryz.prog 24 := .of (by kernel_rfl)
theorem sz_23 : ∀ w, (sizeOf 23).run Tryz.prog w = .ok 1 w := SizeT.of (by kernel_rfl)
end TyQ7
open TyQ7

/-- The copies as cells, where the first k have their own damaged blocks. -/
def mixS : Nat → Nat → List Cpy → List (List S)
  | _, 0, l => l.map fun c => c.ds.map S.d
  | _, _ + 1, [] => []
  | b, k + 1, c :: l => cpyS b c :: mixS (b + 1) k l
def ZV : List S := [.d (.v (.slice none 0 0)), .d (.v (.slice none 0 0)), .d (.v (.slice none 0 0))]
/-- The objects while the k-th copy is being cloned. -/
def ownObs (v : Vlt) (k : Nat) : Obs := [(12, .cells ZV), (11, .cells (vaultS v)), (101, .rowS 65 7 (mixS 1000 k v.copies))] ++ fam 3 1 1000 (badsD (v.copies.take k))
end Go.Proofs.YtieccphckobhjaaGreatDoor


namespace Go.Proofs.YtieccphckobhjaaGreatDoor
open Go.RowKit
set_option linter.unusedVariables false

/-! Types. -/
namespace TyQ4
theorem ag_26 : AggT Tryz.prog 26 3 := .of (by kernel_rfl)
theorem et_22 : ElemTy Tryz.prog 22 62 2 24 (.agg #[(.string ⟨#[]⟩), (.int .i64 0)]) := ⟨by kernel_rfl, by kernel_rfl, by kernel_rfl, by decide⟩
theorem fo_26_0 : fieldOff Tryz.prog 26 0 = some 0 := by kernel_rfl
theorem fo_62_1 : fieldOff Tryz.prog 62 1 = some 1 := by kernel_rfl
theorem sc_22 : Scal Tryz.prog 22 := .of (by kernel_rfl)
theorem sc_3 : Scal Tryz.prog 3 := .of (by kernel_rfl)
theorem sc_9 : Scal Tryz.prog 9 := .of (by kernel_rfl)
end TyQ4
open TyQ4


end Go.Proofs.YtieccphckobhjaaGreatDoor


namespace Go.Proofs.YtieccphckobhjaaGreatDoor
open Go.RowKit
set_option linter.unusedVariables false

/-! Types. -/
namespace TyQ8
theorem ag_26 : AggT Tryz.prog 26 3 := .of (by kernel_rfl)
end TyQ8
open TyQ8


section
variable {cx : Cx} {ops : Array Oper} {o : Oper} {rest : List Oper} {e : Env} {σ : Obs} {Q : Post}
def preB (pre : Obs) : Bool := Obs.allIds (fun i => Nat.blt 101 i && Nat.blt i 1000) pre
end
/-- Where a day stands, behind its first j harms. -/
def hAt (s : St) (day : Int) (j : Nat) : List Cpy := ((dayH s.hs day).take j).foldl harmC s.l
/-- .. behind its first k checks. -/
def cAt (every : Int) (s : St) (day : Int) (k : Nat) : List Cpy × List Dn := chkTo every day ((dayH s.hs day).foldl harmC s.l, s.o) k
/-- Where Live stands, behind n days. -/
def sAt (v : Vlt) (p : Pol) (frm : Int) (hs : List Hrm) (n : Nat) : St := liveTo p.every frm ⟨v.copies, hs, []⟩ n
end Go.Proofs.YtieccphckobhjaaGreatDoor


namespace Go.Proofs.YtieccphckobhjaaGreatDoor
open Go.RowKit
set_option linter.unusedVariables false

/-! Types. -/
namespace TyQ9
theorem ag_26 : AggT Tryz.prog 26 3 := .of (by kernel_rfl)
theorem ag_65 : AggT Tryz.prog 65 7 := .of (by kernel_rfl)
theorem et_24 : ElemTy Tryz.prog 24 65 7 96 (.agg #[(.string ⟨#[]⟩), (.string ⟨#[]⟩), (.string ⟨#[]⟩), (.int .i64 0), (.int .i64 0), (.int .i64 0), (.slice none 0 0)]) := ⟨by kernel_rfl, by kernel_rfl, by kernel_rfl, by decide⟩
theorem fo_26_2 : fieldOff Tryz.prog 26 2 = some 2 := by kernel_rfl
theorem fo_65_4 : fieldOff Tryz.prog 65 4 = some 4 := by kernel_rfl
theorem sc_24 : Scal Tryz.prog 24 := .of (by kernel_rfl)
theorem sc_3 : Scal Tryz.prog 3 := .of (by kernel_rfl)
theorem sz_65 : ∀ w, (sizeOf 65).run Tryz.prog w = .ok 7 w := SizeT.of (by kernel_rfl)
theorem zt_65 : (Tryz.prog.info? 65).bind (·.zero) = some (.agg #[(.string ⟨#[]⟩), (.string ⟨#[]⟩), (.string ⟨#[]⟩), (.int .i64 0), (.int .i64 0), (.int .i64 0), (.slice none 0 0)]) := by kernel_rfl
end TyQ9
open TyQ9


def cpyW (c : Cpy) : List D := [.v (.string c.item), .v (.string c.carrier), .v (.string c.frm), .v (.int .i64 c.day), .v (.int .i64 c.last), .v (.int .i64 c.gen), .any]
end Go.Proofs.YtieccphckobhjaaGreatDoor


namespace Go.Proofs.YtieccphckobhjaaGreatDoor
open Go.RowKit
set_option linter.unusedVariables false

/-! Types. -/
namespace TyR4
theorem ag_26 : AggT Tryz.prog 26 3 := .of (by kernel_rfl)
theorem ag_65 : AggT Tryz.prog 65 7 := .of (by kernel_rfl)
theorem et_22 : ElemTy Tryz.prog 22 62 2 24 (.agg #[(.string ⟨#[]⟩), (.int .i64 0)]) := ⟨by kernel_rfl, by kernel_rfl, by kernel_rfl, by decide⟩
theorem et_24 : ElemTy Tryz.prog 24 65 7 96 (.agg #[(.string ⟨#[]⟩), (.string ⟨#[]⟩), (.string ⟨#[]⟩), (.int .i64 0), (.int .i64 0), (.int .i64 0), (.slice none 0 0)]) := ⟨by kernel_rfl, by kernel_rfl, by kernel_rfl, by decide⟩
theorem et_63 : ElemTy Tryz.prog 63 3 1 8 (.int .i64 0) := ⟨by kernel_rfl, by kernel_rfl, by kernel_rfl, by decide⟩
theorem fo_26_0 : fieldOff Tryz.prog 26 0 = some 0 := by kernel_rfl
theorem fo_26_2 : fieldOff Tryz.prog 26 2 = some 2 := by kernel_rfl
theorem fo_62_1 : fieldOff Tryz.prog 62 1 = some 1 := by kernel_rfl
theorem fo_65_0 : fieldOff Tryz.prog 65 0 = some 0 := by kernel_rfl
theorem fo_65_1 : fieldOff Tryz.prog 65 1 = some 1 := by kernel_rfl
theorem fo_65_4 : fieldOff Tryz.prog 65 4 = some 4 := by kernel_rfl
theorem fo_65_6 : fieldOff Tryz.prog 65 6 = some 6 := by kernel_rfl
theorem sc_22 : Scal Tryz.prog 22 := .of (by kernel_rfl)
theorem sc_24 : Scal Tryz.prog 24 := .of (by kernel_rfl)
theorem sc_3 : Scal Tryz.prog 3 := .of (by kernel_rfl)
theorem sc_63 : Scal Tryz.prog 63 := .of (by kernel_rfl)
theorem sc_9 : Scal Tryz.prog 9 := .of (by kernel_rfl)
theorem sz_3 : ∀ w, (sizeOf 3).run Tryz.prog w = .ok 1 w := SizeT.of (by kernel_rfl)
theorem sz_65 : ∀ w, (sizeOf 65).run Tryz.prog w = .ok 7 w := SizeT.of (by kernel_rfl)
theorem zt_65 : (Tryz.prog.info? 65).bind (·.zero) = some (.agg #[(.string ⟨#[]⟩), (.string ⟨#[]⟩), (.string ⟨#[]⟩), (.int .i64 0), (.int .i64 0), (.int .i64 0), (.slice none 0 0)]) := by kernel_rfl
end TyR4
open TyR4

def wAt (l : List Cpy) (i : Nat) (n : Int) (k : Nat) : Bool := !decide (k = i) && (decide ((l.getD k zC).item = (l.getD i zC).item) && !decide (n ∈ (l.getD k zC).bad))
def leftTo (l : List Cpy) (i j : Nat) : List Int := ((l.getD i zC).bad.take j).filter fun b => !wholeR l i b
end Go.Proofs.YtieccphckobhjaaGreatDoor


namespace Go.Proofs.YtieccphckobhjaaGreatDoor
open Go.RowKit
set_option linter.unusedVariables false

/-! Types. -/
namespace TyR5
theorem ag_26 : AggT Tryz.prog 26 3 := .of (by kernel_rfl)
theorem et_24 : ElemTy Tryz.prog 24 65 7 96 (.agg #[(.string ⟨#[]⟩), (.string ⟨#[]⟩), (.string ⟨#[]⟩), (.int .i64 0), (.int .i64 0), (.int .i64 0), (.slice none 0 0)]) := ⟨by kernel_rfl, by kernel_rfl, by kernel_rfl, by decide⟩
theorem fo_26_2 : fieldOff Tryz.prog 26 2 = some 2 := by kernel_rfl
theorem fo_65_6 : fieldOff Tryz.prog 65 6 = some 6 := by kernel_rfl
theorem sc_24 : Scal Tryz.prog 24 := .of (by kernel_rfl)
theorem sc_3 : Scal Tryz.prog 3 := .of (by kernel_rfl)
theorem sc_63 : Scal Tryz.prog 63 := .of (by kernel_rfl)
theorem sc_9 : Scal Tryz.prog 9 := .of (by kernel_rfl)
end TyR5
open TyR5


end Go.Proofs.YtieccphckobhjaaGreatDoor


namespace Go.Proofs.YtieccphckobhjaaGreatDoor
open Go.RowKit
set_option linter.unusedVariables false

theorem AOp.callCloSnap {P : Program} {B : Nat} {ops : Array Oper} {o : Oper} {e : Env} {σ : Obs} {x : Operand} {f : FuncId} {xs : List Operand} {ts : Array TypeId} {ds caps : List D} {d : D}
    (ho : o.op = .call { callee := .value x, args := xs.toArray, argTypes := ts }) (hx : e.ev x = .d (.clo (.func f) caps)) (ha : SnapArgs e σ xs ds) (h : ACall P f (ds ++ caps) d) (hp : Plain d) : AOp P B ops o e σ (.d d) := by
  intro F ρ w a hF hr hσ
  have hr' : ∀ y ∈ o.op.operands.toList, RepS F ρ w (a.eval y) (e.ev y) := fun y hy => ev_rep fun t ht => hr t (looks_op (by rw [← ht]; exact hy))
  have h1 := ha.rep (a := a) hσ fun x hx => hr' x (by rw [ho]; simp [Op.operands, Call.operands, hx])
  have hF2 : ∀ b, endF F ρ σ b → b < w.heap.size := by
    rintro b (hb | ⟨p, hp, hb⟩)
    · exact hF b hb
    · exact ((hσ.ok p hp).blk_lt hb).2
  have hc := hr' x (by rw [ho]; simp [Op.operands, Call.operands])
  rw [hx] at hc
  have hc2 := (Snap.d (σ := σ) (.clo (.func f) caps)).rep hσ _ hc
  generalize hv : a.eval x = v at hc2
  cases hc2 with
  | clo _ cs _ hl hcs =>
    have h2 := h.2 (endF F ρ σ) w (xs.map a.eval ++ cs) hF2 (RepL.append h1 ⟨hl, hcs⟩)
    have h3 := h.1 (xs.map a.eval ++ cs).toArray w
    have hrun : (execOp a.eval o).run P w = .ok (.enter f (xs.map a.eval ++ cs).toArray) w := by
      unfold execOp
      simp only [ho, resolve, Deferred.ofValue, hv, invoke, Sem.run_bind, Sem.run_pure, Result.andThen_ok]
      simpa using h3
    unfold Oper.wp
    rw [hrun]
    refine h2.mono fun _ w' ⟨v, F', he, hv, hE⟩ => ?_
    subst he
    exact ⟨v, F, rfl, .d (hp.rep _ hv), Ext.of_below hF hE.below⟩
end Go.Proofs.YtieccphckobhjaaGreatDoor


namespace Go.Proofs.YtieccphckobhjaaGreatDoor
open Go.RowKit
set_option linter.unusedVariables false

/-! Types. -/
namespace TyW2
theorem et_63 : ElemTy Tryz.prog 63 3 1 8 (.int .i64 0) := ⟨by kernel_rfl, by kernel_rfl, by kernel_rfl, by decide⟩
theorem sc_3 : Scal Tryz.prog 3 := .of (by kernel_rfl)
theorem sz_3 : ∀ w, (sizeOf 3).run Tryz.prog w = .ok 1 w := SizeT.of (by kernel_rfl)
end TyW2
open TyW2


def fillC (m i : Nat) : List (List D) := (List.range i).map numD ++ List.replicate (m - i) (numD 0)
theorem fill_at {m i : Nat} (h : i < m) : (fillC m i)[i]? = some (numD 0) := by
  unfold fillC
  rw [List.getElem?_append_right (by simp), List.length_map, List.length_range, Nat.sub_self, List.getElem?_replicate, if_pos (by omega)]
theorem fill_len {m i : Nat} (h : i ≤ m) : (fillC m i).length = m := by unfold fillC; simp; omega
theorem fill_set {m i : Nat} (h : i < m) : (fillC m i).set i (numD i) = fillC m (i + 1) := by
  unfold fillC
  rw [List.set_append_right _ _ (by simp), List.range_succ, List.map_append]
  obtain ⟨d, hd⟩ : ∃ d, m - i = d + 1 := ⟨m - i - 1, by omega⟩
  rw [hd, show m - (i + 1) = d by omega]
  simp [List.replicate_succ]
theorem fill_all (m : Nat) : fillC m m = (List.range m).map numD := by unfold fillC; simp
theorem bump_first {l : List Nat} {k : Nat} (hk : k < l.length) : (l.map numD).set k (numD (l[k] + 1)) = (bumpTo l k (k + 1)).map numD := by
  rw [← List.map_set]
  congr 1
  unfold bumpTo
  rw [show k + 1 - k = 1 by omega, numAt hk]
  rw [List.set_eq_take_append_cons_drop]
  simp [hk]
theorem bump_set {l : List Nat} {k i : Nat} (hk : k < i) (hi : i < l.length) : (bumpTo l k i).set i (l.getD k 0 + 1 + (i - k)) = bumpTo l k (i + 1) := by
  unfold bumpTo
  rw [List.set_append_right _ _ (by simp; omega), show i + 1 - k = (i - k) + 1 by omega, List.range_succ, List.map_append]
  have e : (l.take k ++ (List.range (i - k)).map fun j => l.getD k 0 + 1 + j).length = i := by simp; omega
  rw [e, Nat.sub_self, List.drop_eq_getElem_cons hi, List.set_cons_zero]
  simp
theorem bump_prev {l : List Nat} {k i : Nat} (hk : k < i) (hi : i < l.length) : (bumpTo l k i).getD (i - 1) 0 = l.getD k 0 + (i - k) := by
  rw [bumpTo_at (by omega) (by omega) (by omega), if_neg (by omega), if_pos (by omega)]
  omega
theorem bump_next {l : List Nat} {k i : Nat} (hk : k < i) (hi : i < l.length) (h2 : i - 1 < (bumpTo l k i).length) : ((bumpTo l k i).map numD).set i [.v (.int .i64 (((bumpTo l k i)[i - 1] : Nat) + 1 : Int))] = (bumpTo l k (i + 1)).map numD := by
  rw [← bump_set hk hi, List.map_set]
  congr 1
  have h3 := bump_prev hk hi
  rw [numAt h2] at h3
  unfold numD
  rw [h3]
  congr 4
  omega
theorem row_numEq {a b : List (List D)} (h : a = b) {i e s : Nat} : ∀ p ∈ [(i, Ob.row e s b)], p ∈ [(i, Ob.row e s a)] := fun p hp => h ▸ hp


set_option maxRecDepth 100000 in
set_option maxHeartbeats 4000000 in
theorem c_chosen (n : Nat) (hn : n ≤ 1000) (P : List Nat → Bool) (f : Nat) (caps : List D) (hf : ∀ l, Vld n l → ACall Tryz.prog f (.sl (l.map numD) :: caps) (.v (.bool (P l)))) : ACall Tryz.prog 27 [.v (.int .i64 (n : Int)), .clo (.func f) caps] (.tup [.sl (((chosenC n P).getD []).map numD), .v (.bool (chosenC n P).isSome)]) := by
  refine acall_of (n := 75) (ds' := [.sl (((chosenC n P).getD []).map numD), .v (.bool (chosenC n P).isSome)]) Tryz.func27 rfl (by kernel_rfl) rfl [4, 5] rfl rfl ?_
  intro B w0 F0 fr
  refine AWP.seq (AWP.region ?_)
  refine AOps.aD rfl rfl rfl rfl rfl ?_
  refine AOps.aD rfl rfl rfl rfl rfl (.nil ?_)
  refine AWP.seq ?_
  refine AWP.seq (AWP.region ?_)
  refine AOps.mD rfl rfl rfl rfl rfl ?_
  refine AOps.step rfl rfl rfl (AOp.add64 rfl rfl rfl (by omega) (by omega)) ?_
  refine AOps.mD rfl rfl rfl rfl rfl (.nil ?_)
  refine AWP.block ?_
  refine AWP.loop (G := Nat) (fun m => Env.of [(13, .d (.v (.int .i64 (m : Int)))), (12, .d (.v (.int .i64 ((n : Int) + 1)))), (0, .d (.v (.int .i64 (n : Int)))), (1, .d (.clo (.func f) caps))]) (fun m => []) (fun m => m ≤ n + 1 ∧ chosenTo n P m = none) (fun m => n + 1 - m) 0 ⟨Nat.zero_le _, rfl⟩ (Sub.less ⟨(SLe.of_eq rfl), SLe.refl _, SLe.refl _, SLe.refl _, trivial⟩ (fun _ h => h)) ?_
  intro m hm
  refine AWP.seq (AWP.region ?_)
  refine AOps.step rfl rfl rfl (AOp.lss rfl rfl rfl) (.nil ?_)
  refine AWP.seq ?_
  refine AWP.cond rfl (fun h1 => ?_) (fun h1 => ?_)
  · replace h1 := of_decide_eq_true h1
    have hmn : m ≤ n := by omega
    refine AWP.skip ?_
    refine AWP.seq ?_
    refine AWP.block ?_
    refine AWP.seq (AWP.region ?_)
    refine AOps.mD rfl rfl rfl rfl rfl ?_
    refine AOps.aD rfl rfl rfl rfl rfl (.nil ?_)
    refine AWP.seq (AWP.region ?_)
    refine AOps.mD rfl rfl rfl rfl rfl ?_
    refine AOps.makeI 51 m rfl rfl rfl rfl et_63 rfl rfl rfl (by omega) (by omega) rfl rfl ?_
    refine AOps.step rfl rfl rfl (AOp.assignO rfl rfl) (.nil ?_)
    refine AWP.seq ?_
    refine AWP.seq (AWP.region ?_)
    refine AOps.step rfl rfl rfl (AOp.moveO rfl rfl) ?_
    refine AOps.step rfl rfl rfl (AOp.lenOwn rfl et_63.ht rfl (.head _)) ?_
    refine AOps.mD rfl rfl rfl rfl rfl (.nil ?_)
    refine AWP.block ?_
    refine AWP.loop (G := Nat) (fun i => Env.of [(20, .d (.v (.int .i64 (i : Int)))), (19, .d (.v (.int .i64 (m : Int)))), (7, .own 51), (6, .d (.v (.int .i64 (m : Int)))), (13, .d (.v (.int .i64 (m : Int)))), (12, .d (.v (.int .i64 ((n : Int) + 1)))), (0, .d (.v (.int .i64 (n : Int)))), (1, .d (.clo (.func f) caps))]) (fun i => [(51, .row 3 1 (fillC m i))]) (fun i => i ≤ m) (fun i => m - i) 0 (Nat.zero_le _) (Sub.less ⟨(SLe.of_eq rfl), (SLe.i64 (by simp)), SLe.refl _, SLe.refl _, SLe.refl _, SLe.refl _, SLe.refl _, SLe.refl _, trivial⟩ (row_numEq rfl)) ?_
    intro i hi
    refine AWP.seq (AWP.region ?_)
    refine AOps.step rfl rfl rfl (AOp.lss rfl rfl rfl) (.nil ?_)
    refine AWP.seq ?_
    refine AWP.cond rfl (fun h2 => ?_) (fun h2 => ?_)
    · replace h2 := of_decide_eq_true h2
      have him : i < m := by omega
      refine AWP.skip ?_
      refine AWP.seq ?_
      refine AWP.block ?_
      refine AWP.seq (AWP.region ?_)
      refine AOps.mD rfl rfl rfl rfl rfl ?_
      refine AOps.aD rfl rfl rfl rfl rfl (.nil ?_)
      refine AWP.region ?_
      refine AOps.step rfl rfl rfl (AOp.moveO rfl rfl) ?_
      refine AOps.mD rfl rfl rfl rfl rfl ?_
      refine AOps.mD rfl rfl rfl rfl rfl ?_
      refine AOps.step rfl rfl rfl (AOp.indexOwn rfl et_63 rfl rfl (.head _) i rfl (by rw [fill_len (by omega)]; omega)) ?_
      refine AOps.storeRow rfl rfl rfl sz_3 rfl (.head _) rfl rfl rfl i 0 rfl (fill_at him) (Nat.le_of_ble_eq_true rfl) (.nil ?_)
      refine AWP.region ?_
      refine AOps.step rfl rfl rfl (AOp.add64 rfl rfl rfl (by omega) (by omega)) ?_
      refine AOps.mD rfl rfl rfl rfl rfl (.nil ?_)
      refine ⟨i + 1, (by dsimp only; omega), (by dsimp only; omega), Sub.less ⟨(SLe.of_eq rfl), SLe.refl _, SLe.refl _, SLe.refl _, SLe.refl _, SLe.refl _, SLe.refl _, SLe.refl _, trivial⟩ (row_numEq (fill_set him))⟩
    replace h2 := of_decide_eq_false h2
    obtain rfl : m = i := by omega
    refine AWP.exit ?_
    refine AWP.block ?_
    refine AWP.loop (G := List Nat) (fun l => Env.of [(7, .own 51), (6, .d (.v (.int .i64 (m : Int)))), (13, .d (.v (.int .i64 (m : Int)))), (12, .d (.v (.int .i64 ((n : Int) + 1)))), (0, .d (.v (.int .i64 (n : Int)))), (1, .d (.clo (.func f) caps))]) (fun l => [(51, .row 3 1 (l.map numD))]) (fun l => Vld n l ∧ l.length = m ∧ srch n P (List.range m) = srch n P l) (fun l => leftC n l) (List.range m) ⟨range_vld (by omega), List.length_range, rfl⟩ (Sub.less ⟨SLe.refl _, SLe.refl _, SLe.refl _, SLe.refl _, SLe.refl _, SLe.refl _, trivial⟩ (row_numEq (fill_all _))) ?_
    intro l hl
    refine AWP.block ?_
    refine AWP.seq ?_
    refine AWP.seq (AWP.region ?_)
    refine AOps.mD rfl rfl rfl rfl rfl ?_
    refine AOps.step rfl rfl rfl (AOp.moveO rfl rfl) ?_
    refine AOps.step rfl rfl rfl (AOp.callCloSnap rfl rfl (.cons rfl (.row (.head _)) .nil) (hf l hl.1) (.v _)) (.nil ?_)
    refine AWP.cond rfl (fun h3 => ?_) (fun h3 => ?_)
    · skip
      have HC : chosenC n P = some l := chosenTo_some hm.2 (hl.2.2.trans (srch_hit hl.1 h3)) (n + 1) (by omega)
      rw [HC]
      refine AWP.seq (AWP.region ?_)
      refine AOps.step rfl rfl rfl (AOp.moveO rfl rfl) ?_
      refine AOps.step rfl rfl rfl (AOp.assignO rfl rfl) ?_
      refine AOps.aD rfl rfl rfl rfl rfl (.nil ?_)
      refine AWP.ret ?_
      refine ⟨RetD.own rfl (.head _) ?_, RetD.eq rfl ?_, trivial⟩
      all_goals (rfl)
    have hP : P l = false := by simpa using h3
    have hlm := hl.2.1
    have hln := hl.1.1
    refine AWP.skip ?_
    refine AWP.seq (AWP.region ?_)
    refine AOps.mD rfl rfl rfl rfl rfl ?_
    refine AOps.step rfl rfl rfl (AOp.sub64 rfl rfl rfl (by omega) (by omega)) ?_
    refine AOps.aD rfl rfl rfl rfl rfl (.nil ?_)
    refine AWP.seq ?_
    refine AWP.block ?_
    refine AWP.loop (G := Nat) (fun j => Env.of [(9, .d (.v (.int .i64 ((j : Int) - 1)))), (7, .own 51), (6, .d (.v (.int .i64 (m : Int)))), (13, .d (.v (.int .i64 (m : Int)))), (12, .d (.v (.int .i64 ((n : Int) + 1)))), (0, .d (.v (.int .i64 (n : Int)))), (1, .d (.clo (.func f) caps))]) (fun j => [(51, .row 3 1 (l.map numD))]) (fun j => j ≤ m ∧ pivot n l m = pivot n l j) (fun j => j) m ⟨Nat.le_refl _, rfl⟩ (Sub.less ⟨(SLe.of_eq rfl), SLe.refl _, SLe.refl _, SLe.refl _, SLe.refl _, SLe.refl _, SLe.refl _, trivial⟩ (row_numEq rfl)) ?_
    intro j hj
    refine AWP.seq ?_
    refine AWP.seq (AWP.region ?_)
    refine AOps.mD rfl rfl rfl rfl rfl ?_
    refine AOps.step rfl rfl rfl (AOp.geq rfl rfl rfl) ?_
    refine AOps.mD rfl rfl rfl rfl rfl ?_
    refine AOps.split 36 rfl (fun g4 => ?_) (fun g4 => ?_)
    · replace g4 := of_decide_eq_true g4
      have hj1 : 0 < j := by omega
      have hjl : j - 1 < l.length := by omega
      have hlj := hl.1.2 (j - 1) hjl
      refine AOps.step ⟨36, rfl, .inl ⟨_, rfl, rfl⟩⟩ rfl rfl (AOp.moveO rfl rfl) ?_
      refine AOps.step ⟨36, rfl, .inl ⟨_, rfl, rfl⟩⟩ rfl rfl (AOp.moveD rfl rfl) ?_
      refine AOps.step ⟨36, rfl, .inl ⟨_, rfl, rfl⟩⟩ rfl rfl (AOp.indexOwn rfl et_63 rfl rfl (.head _) (j - 1) (by omega) (by rw [List.length_map]; omega)) ?_
      refine AOps.step ⟨36, rfl, .inl ⟨_, rfl, rfl⟩⟩ rfl rfl (AOp.loadRow rfl sc_3 rfl (.head _) (j - 1) 0 rfl (at_list hjl) rfl) ?_
      refine AOps.step ⟨36, rfl, .inl ⟨_, rfl, rfl⟩⟩ rfl rfl (AOp.moveD rfl rfl) ?_
      refine AOps.step ⟨36, rfl, .inl ⟨_, rfl, rfl⟩⟩ rfl rfl (AOp.moveD rfl rfl) ?_
      refine AOps.step ⟨36, rfl, .inl ⟨_, rfl, rfl⟩⟩ rfl rfl (AOp.sub64 rfl rfl rfl (by omega) (by omega)) ?_
      refine AOps.step ⟨36, rfl, .inl ⟨_, rfl, rfl⟩⟩ rfl rfl (AOp.moveD rfl rfl) ?_
      refine AOps.step ⟨36, rfl, .inl ⟨_, rfl, rfl⟩⟩ rfl rfl (AOp.add64 rfl rfl rfl (by omega) (by omega)) ?_
      refine AOps.step ⟨36, rfl, .inl ⟨_, rfl, rfl⟩⟩ rfl rfl (AOp.eql rfl rfl rfl) ?_
      refine AOps.step rfl rfl rfl (AOp.pickT rfl rfl rfl) (.nil ?_)
      refine AWP.cond rfl (fun h5 => ?_) (fun h5 => ?_)
      · replace h5 := of_decide_eq_true h5
        have HP := pivot_step (n := n) (l := l) (j := j - 1) (by rw [numAt (by omega)]; omega)
        rw [show j - 1 + 1 = j by omega] at HP
        refine AWP.skip ?_
        refine AWP.block ?_
        refine AWP.region ?_
        refine AOps.mD rfl rfl rfl rfl rfl ?_
        refine AOps.step rfl rfl rfl (AOp.sub64 rfl rfl rfl (by omega) (by omega)) ?_
        refine AOps.aD rfl rfl rfl rfl rfl (.nil ?_)
        refine ⟨j - 1, ⟨by omega, hj.2.trans HP⟩, (by dsimp only; omega), Sub.less ⟨(SLe.i64 (by omega)), SLe.refl _, SLe.refl _, SLe.refl _, SLe.refl _, SLe.refl _, SLe.refl _, trivial⟩ (row_numEq rfl)⟩
      replace h5 := of_decide_eq_false h5
      have HP := pivot_here (n := n) (l := l) (j := j - 1) (by rw [numAt (by omega)]; omega)
      rw [show j - 1 + 1 = j by omega] at HP
      have HQ : 0 < j → pivot n l l.length = some (j - 1) := fun _ => by rw [hlm, hj.2, HP]
      refine AWP.exit ?_
      refine AWP.seq ?_
      refine AWP.seq (AWP.region ?_)
      refine AOps.mD rfl rfl rfl rfl rfl ?_
      refine AOps.step rfl rfl rfl (AOp.lss rfl rfl rfl) (.nil ?_)
      refine AWP.cond rfl (fun h6 => ?_) (fun h6 => ?_)
      · replace h6 := of_decide_eq_true h6
        have hj0 : j = 0 := by omega
        have HE : srch n P l = none := srch_end hl.1 hP (by rw [hlm, hj.2, hj0]; rfl)
        refine AWP.exit ?_
        refine AWP.region ?_
        refine AOps.step rfl rfl rfl (AOp.add64 rfl rfl rfl (by omega) (by omega)) ?_
        refine AOps.mD rfl rfl rfl rfl rfl (.nil ?_)
        refine ⟨m + 1, ⟨by omega, chosenTo_next hm.2 (hl.2.2.trans HE)⟩, (by dsimp only; omega), Sub.less ⟨(SLe.of_eq rfl), SLe.refl _, SLe.refl _, SLe.refl _, trivial⟩ (fun _ h => by cases h)⟩
      replace h6 := of_decide_eq_false h6
      have hjp : 0 < j := by omega
      have hpv := HQ hjp
      have hkl : j - 1 < l.length := by omega
      have hlk := hl.1.2 (j - 1) hkl
      refine AWP.skip ?_
      refine AWP.seq (AWP.region ?_)
      refine AOps.step rfl rfl rfl (AOp.moveO rfl rfl) ?_
      refine AOps.mD rfl rfl rfl rfl rfl ?_
      refine AOps.step rfl rfl rfl (AOp.indexOwn rfl et_63 rfl rfl (.head _) (j - 1) (by omega) (by rw [List.length_map]; omega)) ?_
      refine AOps.step rfl rfl rfl (AOp.loadRow rfl sc_3 rfl (.head _) (j - 1) 0 rfl (at_list hkl) rfl) ?_
      refine AOps.step rfl rfl rfl (AOp.add64 rfl rfl rfl (by omega) (by omega)) ?_
      refine AOps.step rfl rfl rfl (AOp.indexOwn rfl et_63 rfl rfl (.head _) (j - 1) (by omega) (by rw [List.length_map]; omega)) ?_
      refine AOps.storeRow rfl rfl rfl sz_3 rfl (.head _) rfl rfl rfl (j - 1) 0 rfl (at_list hkl) (Nat.le_of_ble_eq_true rfl) (.nil ?_)
      refine AWP.seq (AWP.region ?_)
      refine AOps.mD rfl rfl rfl rfl rfl ?_
      refine AOps.step rfl rfl rfl (AOp.add64 rfl rfl rfl (by omega) (by omega)) ?_
      refine AOps.aD rfl rfl rfl rfl rfl (.nil ?_)
      refine AWP.block ?_
      refine AWP.loop (G := Nat) (fun i => Env.of [(10, .d (.v (.int .i64 (i : Int)))), (7, .own 51), (6, .d (.v (.int .i64 (m : Int)))), (13, .d (.v (.int .i64 (m : Int)))), (12, .d (.v (.int .i64 ((n : Int) + 1)))), (0, .d (.v (.int .i64 (n : Int)))), (1, .d (.clo (.func f) caps))]) (fun i => [(51, .row 3 1 ((bumpTo l (j - 1) i).map numD))]) (fun i => j ≤ i ∧ i ≤ m) (fun i => m - i) j ⟨Nat.le_refl _, hj.1⟩ (Sub.less ⟨(SLe.i64 (by omega)), SLe.refl _, SLe.refl _, SLe.refl _, SLe.refl _, SLe.refl _, SLe.refl _, trivial⟩ (row_numEq ((bump_first hkl).trans (by rw [show j - 1 + 1 = j by omega])))) ?_
      intro i hi
      refine AWP.seq ?_
      refine AWP.seq (AWP.region ?_)
      refine AOps.mD rfl rfl rfl rfl rfl ?_
      refine AOps.mD rfl rfl rfl rfl rfl ?_
      refine AOps.step rfl rfl rfl (AOp.lss rfl rfl rfl) (.nil ?_)
      refine AWP.cond rfl (fun h7 => ?_) (fun h7 => ?_)
      · replace h7 := of_decide_eq_true h7
        have him : i < l.length := by omega
        have hbl := bumpTo_len (l := l) (k := j - 1) (i := i) (by omega) (by omega)
        have h2 : i - 1 < (bumpTo l (j - 1) i).length := by omega
        have hbp := bump_prev (l := l) (k := j - 1) (i := i) (by omega) him
        rw [numAt h2, numAt hkl] at hbp
        refine AWP.skip ?_
        refine AWP.seq ?_
        refine AWP.block ?_
        refine AWP.region ?_
        refine AOps.step rfl rfl rfl (AOp.moveO rfl rfl) ?_
        refine AOps.mD rfl rfl rfl rfl rfl ?_
        refine AOps.step rfl rfl rfl (AOp.moveO rfl rfl) ?_
        refine AOps.mD rfl rfl rfl rfl rfl ?_
        refine AOps.step rfl rfl rfl (AOp.sub64 rfl rfl rfl (by omega) (by omega)) ?_
        refine AOps.step rfl rfl rfl (AOp.indexOwn rfl et_63 rfl rfl (.head _) (i - 1) (by omega) (by rw [List.length_map]; omega)) ?_
        refine AOps.step rfl rfl rfl (AOp.loadRow rfl sc_3 rfl (.head _) (i - 1) 0 rfl (at_list h2) rfl) ?_
        refine AOps.step rfl rfl rfl (AOp.add64 rfl rfl rfl (by omega) (by omega)) ?_
        refine AOps.step rfl rfl rfl (AOp.indexOwn rfl et_63 rfl rfl (.head _) i rfl (by rw [List.length_map]; omega)) ?_
        refine AOps.storeRow rfl rfl rfl sz_3 rfl (.head _) rfl rfl rfl i 0 rfl (at_list (by omega)) (Nat.le_of_ble_eq_true rfl) (.nil ?_)
        refine AWP.region ?_
        refine AOps.mD rfl rfl rfl rfl rfl ?_
        refine AOps.step rfl rfl rfl (AOp.add64 rfl rfl rfl (by omega) (by omega)) ?_
        refine AOps.aD rfl rfl rfl rfl rfl (.nil ?_)
        refine ⟨i + 1, ⟨by omega, by omega⟩, (by dsimp only; omega), Sub.less ⟨(SLe.of_eq rfl), SLe.refl _, SLe.refl _, SLe.refl _, SLe.refl _, SLe.refl _, SLe.refl _, trivial⟩ (row_numEq (bump_next (by omega) him h2))⟩
      replace h7 := of_decide_eq_false h7
      obtain rfl : i = l.length := by omega
      refine AWP.exit ?_
      refine ⟨bump l (j - 1), ⟨bump_vld hl.1 hpv, by rw [bump_len (by omega)]; exact hlm, hl.2.2.trans (srch_next hl.1 hP hpv)⟩, (leftC_next hl.1 hpv), Sub.less ⟨SLe.refl _, SLe.refl _, SLe.refl _, SLe.refl _, SLe.refl _, SLe.refl _, trivial⟩ (row_numEq rfl)⟩
    replace g4 := of_decide_eq_false g4
    have HQ : 0 < j → pivot n l l.length = some (j - 1) := fun hh => by omega
    refine AOps.pass ⟨36, rfl, .inl ⟨_, rfl, rfl⟩⟩ rfl rfl ?_
    refine AOps.pass ⟨36, rfl, .inl ⟨_, rfl, rfl⟩⟩ rfl rfl ?_
    refine AOps.pass ⟨36, rfl, .inl ⟨_, rfl, rfl⟩⟩ rfl rfl ?_
    refine AOps.pass ⟨36, rfl, .inl ⟨_, rfl, rfl⟩⟩ rfl rfl ?_
    refine AOps.pass ⟨36, rfl, .inl ⟨_, rfl, rfl⟩⟩ rfl rfl ?_
    refine AOps.pass ⟨36, rfl, .inl ⟨_, rfl, rfl⟩⟩ rfl rfl ?_
    refine AOps.pass ⟨36, rfl, .inl ⟨_, rfl, rfl⟩⟩ rfl rfl ?_
    refine AOps.pass ⟨36, rfl, .inl ⟨_, rfl, rfl⟩⟩ rfl rfl ?_
    refine AOps.pass ⟨36, rfl, .inl ⟨_, rfl, rfl⟩⟩ rfl rfl ?_
    refine AOps.pass ⟨36, rfl, .inl ⟨_, rfl, rfl⟩⟩ rfl rfl ?_
    refine AOps.step rfl rfl rfl (AOp.pickF rfl rfl rfl) (.nil ?_)
    refine AWP.cond rfl (fun h => nomatch h) (fun _ => ?_)
    refine AWP.exit ?_
    refine AWP.seq ?_
    refine AWP.seq (AWP.region ?_)
    refine AOps.mD rfl rfl rfl rfl rfl ?_
    refine AOps.step rfl rfl rfl (AOp.lss rfl rfl rfl) (.nil ?_)
    refine AWP.cond rfl (fun h8 => ?_) (fun h8 => ?_)
    · replace h8 := of_decide_eq_true h8
      have hj0 : j = 0 := by omega
      have HE : srch n P l = none := srch_end hl.1 hP (by rw [hlm, hj.2, hj0]; rfl)
      refine AWP.exit ?_
      refine AWP.region ?_
      refine AOps.step rfl rfl rfl (AOp.add64 rfl rfl rfl (by omega) (by omega)) ?_
      refine AOps.mD rfl rfl rfl rfl rfl (.nil ?_)
      refine ⟨m + 1, ⟨by omega, chosenTo_next hm.2 (hl.2.2.trans HE)⟩, (by dsimp only; omega), Sub.less ⟨(SLe.of_eq rfl), SLe.refl _, SLe.refl _, SLe.refl _, trivial⟩ (fun _ h => by cases h)⟩
    replace h8 := of_decide_eq_false h8
    have hjp : 0 < j := by omega
    have hpv := HQ hjp
    have hkl : j - 1 < l.length := by omega
    have hlk := hl.1.2 (j - 1) hkl
    refine AWP.skip ?_
    refine AWP.seq (AWP.region ?_)
    refine AOps.step rfl rfl rfl (AOp.moveO rfl rfl) ?_
    refine AOps.mD rfl rfl rfl rfl rfl ?_
    refine AOps.step rfl rfl rfl (AOp.indexOwn rfl et_63 rfl rfl (.head _) (j - 1) (by omega) (by rw [List.length_map]; omega)) ?_
    refine AOps.step rfl rfl rfl (AOp.loadRow rfl sc_3 rfl (.head _) (j - 1) 0 rfl (at_list hkl) rfl) ?_
    refine AOps.step rfl rfl rfl (AOp.add64 rfl rfl rfl (by omega) (by omega)) ?_
    refine AOps.step rfl rfl rfl (AOp.indexOwn rfl et_63 rfl rfl (.head _) (j - 1) (by omega) (by rw [List.length_map]; omega)) ?_
    refine AOps.storeRow rfl rfl rfl sz_3 rfl (.head _) rfl rfl rfl (j - 1) 0 rfl (at_list hkl) (Nat.le_of_ble_eq_true rfl) (.nil ?_)
    refine AWP.seq (AWP.region ?_)
    refine AOps.mD rfl rfl rfl rfl rfl ?_
    refine AOps.step rfl rfl rfl (AOp.add64 rfl rfl rfl (by omega) (by omega)) ?_
    refine AOps.aD rfl rfl rfl rfl rfl (.nil ?_)
    refine AWP.block ?_
    refine AWP.loop (G := Nat) (fun i => Env.of [(10, .d (.v (.int .i64 (i : Int)))), (7, .own 51), (6, .d (.v (.int .i64 (m : Int)))), (13, .d (.v (.int .i64 (m : Int)))), (12, .d (.v (.int .i64 ((n : Int) + 1)))), (0, .d (.v (.int .i64 (n : Int)))), (1, .d (.clo (.func f) caps))]) (fun i => [(51, .row 3 1 ((bumpTo l (j - 1) i).map numD))]) (fun i => j ≤ i ∧ i ≤ m) (fun i => m - i) j ⟨Nat.le_refl _, hj.1⟩ (Sub.less ⟨(SLe.i64 (by omega)), SLe.refl _, SLe.refl _, SLe.refl _, SLe.refl _, SLe.refl _, SLe.refl _, trivial⟩ (row_numEq ((bump_first hkl).trans (by rw [show j - 1 + 1 = j by omega])))) ?_
    intro i hi
    refine AWP.seq ?_
    refine AWP.seq (AWP.region ?_)
    refine AOps.mD rfl rfl rfl rfl rfl ?_
    refine AOps.mD rfl rfl rfl rfl rfl ?_
    refine AOps.step rfl rfl rfl (AOp.lss rfl rfl rfl) (.nil ?_)
    refine AWP.cond rfl (fun h9 => ?_) (fun h9 => ?_)
    · replace h9 := of_decide_eq_true h9
      have him : i < l.length := by omega
      have hbl := bumpTo_len (l := l) (k := j - 1) (i := i) (by omega) (by omega)
      have h2 : i - 1 < (bumpTo l (j - 1) i).length := by omega
      have hbp := bump_prev (l := l) (k := j - 1) (i := i) (by omega) him
      rw [numAt h2, numAt hkl] at hbp
      refine AWP.skip ?_
      refine AWP.seq ?_
      refine AWP.block ?_
      refine AWP.region ?_
      refine AOps.step rfl rfl rfl (AOp.moveO rfl rfl) ?_
      refine AOps.mD rfl rfl rfl rfl rfl ?_
      refine AOps.step rfl rfl rfl (AOp.moveO rfl rfl) ?_
      refine AOps.mD rfl rfl rfl rfl rfl ?_
      refine AOps.step rfl rfl rfl (AOp.sub64 rfl rfl rfl (by omega) (by omega)) ?_
      refine AOps.step rfl rfl rfl (AOp.indexOwn rfl et_63 rfl rfl (.head _) (i - 1) (by omega) (by rw [List.length_map]; omega)) ?_
      refine AOps.step rfl rfl rfl (AOp.loadRow rfl sc_3 rfl (.head _) (i - 1) 0 rfl (at_list h2) rfl) ?_
      refine AOps.step rfl rfl rfl (AOp.add64 rfl rfl rfl (by omega) (by omega)) ?_
      refine AOps.step rfl rfl rfl (AOp.indexOwn rfl et_63 rfl rfl (.head _) i rfl (by rw [List.length_map]; omega)) ?_
      refine AOps.storeRow rfl rfl rfl sz_3 rfl (.head _) rfl rfl rfl i 0 rfl (at_list (by omega)) (Nat.le_of_ble_eq_true rfl) (.nil ?_)
      refine AWP.region ?_
      refine AOps.mD rfl rfl rfl rfl rfl ?_
      refine AOps.step rfl rfl rfl (AOp.add64 rfl rfl rfl (by omega) (by omega)) ?_
      refine AOps.aD rfl rfl rfl rfl rfl (.nil ?_)
      refine ⟨i + 1, ⟨by omega, by omega⟩, (by dsimp only; omega), Sub.less ⟨(SLe.of_eq rfl), SLe.refl _, SLe.refl _, SLe.refl _, SLe.refl _, SLe.refl _, SLe.refl _, trivial⟩ (row_numEq (bump_next (by omega) him h2))⟩
    replace h9 := of_decide_eq_false h9
    obtain rfl : i = l.length := by omega
    refine AWP.exit ?_
    refine ⟨bump l (j - 1), ⟨bump_vld hl.1 hpv, by rw [bump_len (by omega)]; exact hlm, hl.2.2.trans (srch_next hl.1 hP hpv)⟩, (leftC_next hl.1 hpv), Sub.less ⟨SLe.refl _, SLe.refl _, SLe.refl _, SLe.refl _, SLe.refl _, SLe.refl _, trivial⟩ (row_numEq rfl)⟩
  replace h1 := of_decide_eq_false h1
  obtain rfl : m = n + 1 := by omega
  have HC : chosenC n P = none := hm.2
  rw [HC]
  refine AWP.exit ?_
  refine AWP.seq (AWP.region ?_)
  refine AOps.aD rfl rfl rfl rfl rfl ?_
  refine AOps.aD rfl rfl rfl rfl rfl (.nil ?_)
  refine AWP.ret ?_
  refine ⟨RetD.nil rfl, RetD.eq rfl ?_, trivial⟩
  all_goals (rfl)

end Go.Proofs.YtieccphckobhjaaGreatDoor


namespace Go.Proofs.YtieccphckobhjaaGreatDoor
open Go.RowKit
set_option linter.unusedVariables false

/-! Types. -/
namespace TyW3
theorem et_63 : ElemTy Tryz.prog 63 3 1 8 (.int .i64 0) := ⟨by kernel_rfl, by kernel_rfl, by kernel_rfl, by decide⟩
theorem sc_3 : Scal Tryz.prog 3 := .of (by kernel_rfl)
theorem sz_3 : ∀ w, (sizeOf 3).run Tryz.prog w = .ok 1 w := SizeT.of (by kernel_rfl)
end TyW3
open TyW3

set_option maxRecDepth 100000 in
set_option maxHeartbeats 1000000 in
theorem c_first (n : Nat) (hn : n ≤ 1000) : OCall Tryz.prog 74 [.v (.int .i64 (n : Int))] 3 1 ((List.range n).map numD) := by
  refine ocall_of (n := 15) Tryz.func74 rfl (by kernel_rfl) rfl 2 rfl rfl ?_
  intro B w0 F0 fr
  refine AWP.seq (AWP.region ?_)
  refine AOps.aD rfl rfl rfl rfl rfl (.nil ?_)
  refine AWP.seq (AWP.region ?_)
  refine AOps.aD rfl rfl rfl rfl rfl (.nil ?_)
  refine AWP.seq ?_
  refine AWP.seq (AWP.region ?_)
  refine AOps.mD rfl rfl rfl rfl rfl ?_
  refine AOps.mD rfl rfl rfl rfl rfl (.nil ?_)
  refine AWP.block ?_
  refine AWP.adopt 3 51 3 1 rfl rfl ?_
  refine AWP.loop (G := Nat) (fun i => Env.of [(6, .d (.v (.int .i64 (i : Int)))), (5, .d (.v (.int .i64 (n : Int)))), (3, .own 51)]) (fun i => [(51, .row 3 1 ((List.range i).map numD))]) (fun i => i ≤ n) (fun i => n - i) 0 (Nat.zero_le _) (Sub.less ⟨(SLe.of_eq rfl), SLe.refl _, SLe.refl _, trivial⟩ (row_numEq rfl)) ?_
  intro i hi
  refine AWP.seq (AWP.region ?_)
  refine AOps.step rfl rfl rfl (AOp.lss rfl rfl rfl) (.nil ?_)
  refine AWP.seq ?_
  refine AWP.cond rfl (fun h1 => ?_) (fun h1 => ?_)
  · replace h1 := of_decide_eq_true h1
    have hin : i < n := by omega
    refine AWP.skip ?_
    refine AWP.seq ?_
    refine AWP.block ?_
    refine AWP.seq (AWP.region ?_)
    refine AOps.mD rfl rfl rfl rfl rfl ?_
    refine AOps.aD rfl rfl rfl rfl rfl (.nil ?_)
    refine AWP.region ?_
    refine AOps.step rfl rfl rfl (AOp.moveO rfl rfl) ?_
    refine AOps.mD rfl rfl rfl rfl rfl ?_
    refine AOps.step rfl rfl rfl (AOp.buildSlice rfl et_63 (.cons rfl rfl rfl .nil) rfl (by decide)) ?_
    -- append 12
    refine AOps.append rfl rfl rfl rfl et_63 rfl (.head _) rfl (fun y hy => by obtain rfl := List.mem_singleton.1 hy; rfl) (by simp; omega) (by simp; omega) ?_
    refine AOps.step rfl rfl rfl (AOp.assignO rfl rfl) (.nil ?_)
    refine AWP.region ?_
    refine AOps.step rfl rfl rfl (AOp.add64 rfl rfl rfl (by omega) (by omega)) ?_
    refine AOps.mD rfl rfl rfl rfl rfl (.nil ?_)
    refine ⟨i + 1, (by dsimp only; omega), (by dsimp only; omega), Sub.less ⟨(SLe.of_eq rfl), SLe.refl _, SLe.refl _, trivial⟩ (row_numEq (by rw [List.range_succ, List.map_append]; rfl))⟩
  replace h1 := of_decide_eq_false h1
  obtain rfl : n = i := by omega
  refine AWP.exit ?_
  refine AWP.seq (AWP.region ?_)
  refine AOps.step rfl rfl rfl (AOp.moveO rfl rfl) ?_
  refine AOps.step rfl rfl rfl (AOp.assignO rfl rfl) (.nil ?_)
  refine AWP.ret ?_
  refine ⟨51, rfl, mem_row_eq (.head _) ?_⟩
  rfl

set_option maxRecDepth 100000 in
set_option maxHeartbeats 1000000 in
theorem c_next (n : Nat) (hn : n ≤ 1000) (l : List Nat) (hv : Vld n l) : RCall Tryz.prog 75 3 1 (l.map numD) (((nextC n l).getD l).map numD) [.v (.int .i64 (n : Int))] (.v (.bool (nextC n l).isSome)) := by
  refine RCall.of1 (chg := fun i => Nat.ble 1000 i) (xcall_of (n := 48) (ds' := [.v (.bool (nextC n l).isSome)]) Tryz.func75 rfl (by kernel_rfl) rfl [4] rfl rfl ?_) rfl
  intro B w0 F0 fr ρ0
  have hln := hv.1
  refine AWP.seq (AWP.region ?_)
  refine AOps.aD rfl rfl rfl rfl rfl (.nil ?_)
  refine AWP.seq ?_
  refine AWP.seq (AWP.region ?_)
  refine AOps.step rfl rfl rfl (AOp.moveO rfl rfl) ?_
  refine AOps.step rfl rfl rfl (AOp.lenOwn rfl et_63.ht rfl (.head _)) ?_
  refine AOps.step rfl rfl rfl (AOp.sub64 rfl rfl rfl (by (try simp only [List.length_map]); omega) (by (try simp only [List.length_map]); omega)) ?_
  refine AOps.aD rfl rfl rfl rfl rfl (.nil ?_)
  refine AWP.block ?_
  refine AWP.loop (G := Nat) (fun j => Env.of [(5, .d (.v (.int .i64 ((j : Int) - 1)))), (0, .own 1), (1, .d (.v (.int .i64 (n : Int))))]) (fun j => [(1, .row 3 1 (l.map numD))]) (fun j => j ≤ l.length ∧ pivot n l l.length = pivot n l j) (fun j => j) l.length ⟨Nat.le_refl _, rfl⟩ (Sub.less ⟨(SLe.i64 (by rw [List.length_map])), SLe.refl _, SLe.refl _, trivial⟩ (row_numEq rfl)) ?_
  intro j hj
  refine AWP.seq ?_
  refine AWP.seq (AWP.region ?_)
  refine AOps.mD rfl rfl rfl rfl rfl ?_
  refine AOps.step rfl rfl rfl (AOp.geq rfl rfl rfl) (.nil ?_)
  refine AWP.cond rfl (fun h1 => ?_) (fun h1 => ?_)
  · replace h1 := of_decide_eq_true h1
    have hj1 : 0 < j := by omega
    have hkl : j - 1 < l.length := by omega
    have hlk := hv.2 (j - 1) hkl
    refine AWP.skip ?_
    refine AWP.seq ?_
    refine AWP.block ?_
    refine AWP.seq (AWP.region ?_)
    refine AOps.step rfl rfl rfl (AOp.moveO rfl rfl) ?_
    refine AOps.mD rfl rfl rfl rfl rfl ?_
    refine AOps.step rfl rfl rfl (AOp.indexOwn rfl et_63 rfl rfl (.head _) (j - 1) (by omega) (by rw [List.length_map]; omega)) ?_
    refine AOps.step rfl rfl rfl (AOp.loadRow rfl sc_3 rfl (.head _) (j - 1) 0 rfl (at_list hkl) rfl) ?_
    refine AOps.mD rfl rfl rfl rfl rfl ?_
    refine AOps.step rfl rfl rfl (AOp.moveO rfl rfl) ?_
    refine AOps.step rfl rfl rfl (AOp.lenOwn rfl et_63.ht rfl (.head _)) ?_
    refine AOps.step rfl rfl rfl (AOp.sub64 rfl rfl rfl (by (try simp only [List.length_map]); omega) (by (try simp only [List.length_map]); omega)) ?_
    refine AOps.mD rfl rfl rfl rfl rfl ?_
    refine AOps.step rfl rfl rfl (AOp.add64 rfl rfl rfl (by (try simp only [List.length_map]); omega) (by (try simp only [List.length_map]); omega)) ?_
    refine AOps.step rfl rfl rfl (AOp.lss rfl rfl rfl) (.nil ?_)
    refine AWP.cond rfl (fun h2 => ?_) (fun h2 => ?_)
    · replace h2 := of_decide_eq_true h2
      rw [List.length_map] at h2
      have HP := pivot_here (n := n) (l := l) (j := j - 1) (by rw [numAt (by omega)]; omega)
      rw [show j - 1 + 1 = j by omega] at HP
      have HN : nextC n l = some (bump l (j - 1)) := by unfold nextC; rw [hj.2, HP]; rfl
      rw [HN]
      refine AWP.seq (AWP.region ?_)
      refine AOps.step rfl rfl rfl (AOp.moveO rfl rfl) ?_
      refine AOps.mD rfl rfl rfl rfl rfl ?_
      refine AOps.step rfl rfl rfl (AOp.indexOwn rfl et_63 rfl rfl (.head _) (j - 1) (by omega) (by rw [List.length_map]; omega)) ?_
      refine AOps.step rfl rfl rfl (AOp.loadRow rfl sc_3 rfl (.head _) (j - 1) 0 rfl (at_list hkl) rfl) ?_
      refine AOps.step rfl rfl rfl (AOp.add64 rfl rfl rfl (by (try simp only [List.length_map]); omega) (by (try simp only [List.length_map]); omega)) ?_
      refine AOps.step rfl rfl rfl (AOp.indexOwn rfl et_63 rfl rfl (.head _) (j - 1) (by omega) (by rw [List.length_map]; omega)) ?_
      refine AOps.storeRow rfl rfl rfl sz_3 rfl (.head _) rfl rfl rfl (j - 1) 0 rfl (at_list hkl) (Nat.le_of_ble_eq_true rfl) (.nil ?_)
      refine AWP.seq ?_
      refine AWP.seq (AWP.region ?_)
      refine AOps.mD rfl rfl rfl rfl rfl ?_
      refine AOps.step rfl rfl rfl (AOp.add64 rfl rfl rfl (by (try simp only [List.length_map]); omega) (by (try simp only [List.length_map]); omega)) ?_
      refine AOps.aD rfl rfl rfl rfl rfl (.nil ?_)
      refine AWP.block ?_
      refine AWP.loop (G := Nat) (fun i => Env.of [(6, .d (.v (.int .i64 (i : Int)))), (0, .own 1), (1, .d (.v (.int .i64 (n : Int))))]) (fun i => [(1, .row 3 1 ((bumpTo l (j - 1) i).map numD))]) (fun i => j ≤ i ∧ i ≤ l.length) (fun i => l.length - i) j ⟨Nat.le_refl _, hj.1⟩ (Sub.less ⟨(SLe.i64 (by omega)), SLe.refl _, SLe.refl _, trivial⟩ (row_numEq ((bump_first hkl).trans (by rw [show j - 1 + 1 = j by omega])))) ?_
      intro i hi
      refine AWP.seq ?_
      refine AWP.seq (AWP.region ?_)
      refine AOps.mD rfl rfl rfl rfl rfl ?_
      refine AOps.step rfl rfl rfl (AOp.moveO rfl rfl) ?_
      refine AOps.step rfl rfl rfl (AOp.lenOwn rfl et_63.ht rfl (.head _)) ?_
      refine AOps.step rfl rfl rfl (AOp.lss rfl rfl rfl) (.nil ?_)
      refine AWP.cond rfl (fun h3 => ?_) (fun h3 => ?_)
      · replace h3 := of_decide_eq_true h3
        have hbl := bumpTo_len (l := l) (k := j - 1) (i := i) (by omega) (by omega)
        rw [List.length_map, hbl] at h3
        have him : i < l.length := by omega
        have h2 : i - 1 < (bumpTo l (j - 1) i).length := by omega
        have hbp := bump_prev (l := l) (k := j - 1) (i := i) (by omega) him
        rw [numAt h2, numAt hkl] at hbp
        refine AWP.skip ?_
        refine AWP.seq ?_
        refine AWP.block ?_
        refine AWP.region ?_
        refine AOps.step rfl rfl rfl (AOp.moveO rfl rfl) ?_
        refine AOps.mD rfl rfl rfl rfl rfl ?_
        refine AOps.step rfl rfl rfl (AOp.moveO rfl rfl) ?_
        refine AOps.mD rfl rfl rfl rfl rfl ?_
        refine AOps.step rfl rfl rfl (AOp.sub64 rfl rfl rfl (by (try simp only [List.length_map]); omega) (by (try simp only [List.length_map]); omega)) ?_
        refine AOps.step rfl rfl rfl (AOp.indexOwn rfl et_63 rfl rfl (.head _) (i - 1) (by omega) (by rw [List.length_map]; omega)) ?_
        refine AOps.step rfl rfl rfl (AOp.loadRow rfl sc_3 rfl (.head _) (i - 1) 0 rfl (at_list h2) rfl) ?_
        refine AOps.step rfl rfl rfl (AOp.add64 rfl rfl rfl (by (try simp only [List.length_map]); omega) (by (try simp only [List.length_map]); omega)) ?_
        refine AOps.step rfl rfl rfl (AOp.indexOwn rfl et_63 rfl rfl (.head _) i rfl (by rw [List.length_map]; omega)) ?_
        refine AOps.storeRow rfl rfl rfl sz_3 rfl (.head _) rfl rfl rfl i 0 rfl (at_list (by omega)) (Nat.le_of_ble_eq_true rfl) (.nil ?_)
        refine AWP.region ?_
        refine AOps.mD rfl rfl rfl rfl rfl ?_
        refine AOps.step rfl rfl rfl (AOp.add64 rfl rfl rfl (by (try simp only [List.length_map]); omega) (by (try simp only [List.length_map]); omega)) ?_
        refine AOps.aD rfl rfl rfl rfl rfl (.nil ?_)
        refine ⟨i + 1, ⟨by omega, by omega⟩, (by dsimp only; omega), Sub.less ⟨(SLe.of_eq rfl), SLe.refl _, SLe.refl _, trivial⟩ (row_numEq (bump_next (by omega) him h2))⟩
      replace h3 := of_decide_eq_false h3
      have hbl := bumpTo_len (l := l) (k := j - 1) (i := i) (by omega) (by omega)
      rw [List.length_map, hbl] at h3
      obtain rfl : i = l.length := by omega
      refine AWP.exit ?_
      refine AWP.seq (AWP.region ?_)
      refine AOps.aD rfl rfl rfl rfl rfl (.nil ?_)
      refine AWP.ret ?_
      refine ⟨⟨RetDX.eq rfl ?_, trivial⟩, ⟨mem_row_eq (.head _) ?_, trivial⟩⟩
      all_goals (rfl)
    replace h2 := of_decide_eq_false h2
    rw [List.length_map] at h2
    have HP := pivot_step (n := n) (l := l) (j := j - 1) (by rw [numAt (by omega)]; omega)
    rw [show j - 1 + 1 = j by omega] at HP
    refine AWP.skip ?_
    refine AWP.region ?_
    refine AOps.mD rfl rfl rfl rfl rfl ?_
    refine AOps.step rfl rfl rfl (AOp.sub64 rfl rfl rfl (by (try simp only [List.length_map]); omega) (by (try simp only [List.length_map]); omega)) ?_
    refine AOps.aD rfl rfl rfl rfl rfl (.nil ?_)
    refine ⟨j - 1, ⟨by omega, hj.2.trans HP⟩, (by dsimp only; omega), Sub.less ⟨(SLe.i64 (by omega)), SLe.refl _, SLe.refl _, trivial⟩ (row_numEq rfl)⟩
  replace h1 := of_decide_eq_false h1
  have HN : nextC n l = none := by unfold nextC; rw [hj.2, show j = 0 by omega]; rfl
  rw [HN]
  refine AWP.exit ?_
  refine AWP.seq (AWP.region ?_)
  refine AOps.aD rfl rfl rfl rfl rfl (.nil ?_)
  refine AWP.ret ?_
  refine ⟨⟨RetDX.eq rfl ?_, trivial⟩, ⟨mem_row_eq (.head _) ?_, trivial⟩⟩
  all_goals (rfl)

end Go.Proofs.YtieccphckobhjaaGreatDoor


namespace Go.Proofs.YtieccphckobhjaaGreatDoor
open Go.RowKit
set_option linter.unusedVariables false

/-! Types. -/
namespace TyL1
theorem ag_26 : AggT Tryz.prog 26 3 := .of (by kernel_rfl)
theorem ag_59 : AggT Tryz.prog 59 5 := .of (by kernel_rfl)
theorem ag_65 : AggT Tryz.prog 65 7 := .of (by kernel_rfl)
theorem et_23 : ElemTy Tryz.prog 23 59 5 64 (.agg #[(.string ⟨#[]⟩), (.string ⟨#[]⟩), (.string ⟨#[]⟩), (.int .i64 0), (.int .i64 0)]) := ⟨by kernel_rfl, by kernel_rfl, by kernel_rfl, by decide⟩
theorem et_24 : ElemTy Tryz.prog 24 65 7 96 (.agg #[(.string ⟨#[]⟩), (.string ⟨#[]⟩), (.string ⟨#[]⟩), (.int .i64 0), (.int .i64 0), (.int .i64 0), (.slice none 0 0)]) := ⟨by kernel_rfl, by kernel_rfl, by kernel_rfl, by decide⟩
theorem fo_26_1 : fieldOff Tryz.prog 26 1 = some 1 := by kernel_rfl
theorem fo_26_2 : fieldOff Tryz.prog 26 2 = some 2 := by kernel_rfl
theorem fo_59_3 : fieldOff Tryz.prog 59 3 = some 3 := by kernel_rfl
theorem fo_65_0 : fieldOff Tryz.prog 65 0 = some 0 := by kernel_rfl
theorem sc_23 : Scal Tryz.prog 23 := .of (by kernel_rfl)
theorem sc_24 : Scal Tryz.prog 24 := .of (by kernel_rfl)
theorem sc_3 : Scal Tryz.prog 3 := .of (by kernel_rfl)
theorem sc_9 : Scal Tryz.prog 9 := .of (by kernel_rfl)
theorem sz_59 : ∀ w, (sizeOf 59).run Tryz.prog w = .ok 5 w := SizeT.of (by kernel_rfl)
theorem sz_65 : ∀ w, (sizeOf 65).run Tryz.prog w = .ok 7 w := SizeT.of (by kernel_rfl)
theorem zt_59 : (Tryz.prog.info? 59).bind (·.zero) = some (.agg #[(.string ⟨#[]⟩), (.string ⟨#[]⟩), (.string ⟨#[]⟩), (.int .i64 0), (.int .i64 0)]) := by kernel_rfl
theorem zt_65 : (Tryz.prog.info? 65).bind (·.zero) = some (.agg #[(.string ⟨#[]⟩), (.string ⟨#[]⟩), (.string ⟨#[]⟩), (.int .i64 0), (.int .i64 0), (.int .i64 0), (.slice none 0 0)]) := by kernel_rfl
end TyL1
open TyL1


structure Lck where
  item : ByteArray
  carrier : ByteArray
  what : Int
  many : Int
deriving DecidableEq
def Lck.ds (x : Lck) : List D := [.v (.string x.item), .v (.string x.carrier), .v (.int .i64 x.what), .v (.int .i64 x.many)]
def oldB (p : Pol) (day : Int) (x : Carr) : Bool := decide (p.old < day - x.made)
def zeroCarr : Carr := ⟨⟨#[]⟩, ⟨#[]⟩, ⟨#[]⟩, 0, 0⟩
def carrAt (v : Vlt) (nm : ByteArray) : Carr := (v.carrs[(carrIdx v nm).toNat]?).getD zeroCarr
theorem carrAt_eq {v : Vlt} {nm : ByteArray} {k : Nat} (hk : k < v.carrs.length) (e : carrIdx v nm = k) : carrAt v nm = v.carrs[k] := by
  unfold carrAt; rw [e, Int.toNat_natCast, List.getElem?_eq_getElem hk]; rfl
theorem VOk.carr {v : Vlt} (h : VOk v) {x : Carr} (hx : x ∈ v.carrs) : nameOk x.name = true ∧ (0 ≤ x.made ∧ x.made ≤ 200000) ∧ 0 ≤ x.room ∧ x.room ≤ 1000000 := by
  obtain ⟨k, hk, rfl⟩ := List.mem_iff_getElem.1 hx
  exact carrFault_ok hk (ffst_all _ h.carrs k hk)
def goodB (v : Vlt) (p : Pol) (day : Int) (c : Cpy) : Bool := (decide ((c.bad.length : Int) = 0) && decide (c.gen ≤ p.gens)) && !oldB p day (carrAt v c.carrier)
def ofItem (it : ByteArray) (c : Cpy) : Bool := decide (c.item = it)
def copiesTo (v : Vlt) (it : ByteArray) (k : Nat) : List Cpy := (v.copies.take k).filter (ofItem it)
def copiesOf (v : Vlt) (it : ByteArray) : List Cpy := v.copies.filter (ofItem it)
theorem copiesOf_eq (v : Vlt) (it : ByteArray) : copiesTo v it v.copies.length = copiesOf v it := by unfold copiesTo copiesOf; rw [List.take_length]
theorem filter_yes {α : Type} {p : α → Bool} {l : List α} {k : Nat} (hk : k < l.length) (h : p l[k] = true) : (l.take (k + 1)).filter p = (l.take k).filter p ++ [l[k]] := by
  rw [List.take_add_one, List.getElem?_eq_getElem hk, Option.toList_some, List.filter_append, List.filter_cons, List.filter_nil, if_pos h]
theorem filter_no {α : Type} {p : α → Bool} {l : List α} {k : Nat} (hk : k < l.length) (h : p l[k] = false) : (l.take (k + 1)).filter p = (l.take k).filter p := by
  rw [List.take_add_one, List.getElem?_eq_getElem hk, Option.toList_some, List.filter_append, List.filter_cons, List.filter_nil, if_neg (by rw [h]; simp), List.append_nil]
theorem copiesTo_yes {v : Vlt} {it : ByteArray} {k : Nat} (hk : k < v.copies.length) (h : v.copies[k].item = it) : copiesTo v it (k + 1) = copiesTo v it k ++ [v.copies[k]] := filter_yes hk (decide_eq_true h)
theorem copiesTo_no {v : Vlt} {it : ByteArray} {k : Nat} (hk : k < v.copies.length) (h : ¬ v.copies[k].item = it) : copiesTo v it (k + 1) = copiesTo v it k := filter_no hk (decide_eq_false h)
theorem copiesTo_len (v : Vlt) (it : ByteArray) (k : Nat) : (copiesTo v it k).length ≤ v.copies.length := Nat.le_trans (List.length_filter_le _ _) (by rw [List.length_take]; omega)
theorem copiesOf_len (v : Vlt) (it : ByteArray) : (copiesOf v it).length ≤ v.copies.length := List.length_filter_le _ _
theorem copiesOf_mem {v : Vlt} {it : ByteArray} {c : Cpy} (h : c ∈ copiesOf v it) : c ∈ v.copies ∧ c.item = it := by
  unfold copiesOf at h
  rw [List.mem_filter] at h
  exact ⟨h.1, of_decide_eq_true h.2⟩
def goodTo (v : Vlt) (it : ByteArray) (p : Pol) (day : Int) (k : Nat) : List Carr := (((copiesOf v it).take k).filter (goodB v p day)).map fun c => carrAt v c.carrier
def goodOnes (v : Vlt) (it : ByteArray) (p : Pol) (day : Int) : List Carr := ((copiesOf v it).filter (goodB v p day)).map fun c => carrAt v c.carrier
/-- The same, in one go over all copies. -/
def rGoodTo (v : Vlt) (it : ByteArray) (p : Pol) (day : Int) (k : Nat) : List Carr := ((v.copies.take k).filter fun c => ofItem it c && goodB v p day c).map fun c => carrAt v c.carrier
/-! Sets of strings. -/
def addS (l : List ByteArray) (s : ByteArray) : List ByteArray := if s ∈ l then l else l ++ [s]
def uniq (l : List ByteArray) : List ByteArray := l.foldl addS []
def setM (l : List ByteArray) : List (Value × D) := l.map fun s => (.string s, .v (.bool true))
def lackC (p : Pol) (l : List Carr) : Int := max 0 (p.copies - (l.length : Int))
def lackP (p : Pol) (l : List Carr) : Int := max 0 (p.places - ((uniq (l.map Carr.place)).length : Int))
def lackK (p : Pol) (l : List Carr) : Int := max 0 (p.kinds - ((uniq (l.map Carr.kind)).length : Int))
def spreadDs (l : List Carr) : List D := [.v (.int .i64 (l.length : Int)), .v (.int .i64 ((uniq (l.map Carr.place)).length : Int)), .v (.int .i64 ((uniq (l.map Carr.kind)).length : Int))]


set_option maxRecDepth 100000 in
set_option maxHeartbeats 1000000 in
theorem c_carrier (v : Vlt) (nm : ByteArray) (h : 0 ≤ carrIdx v nm) : ACall Tryz.prog 59 [.agg v.ds, .v (.string nm)] (.agg (carrAt v nm).ds) := by
  refine acall_ofR (n := 12) (ds' := [.agg (carrAt v nm).ds]) Tryz.func59 rfl (by kernel_rfl) rfl [.cell 4 59] rfl rfl ?_
  intro B w0 F0 fr
  obtain ⟨k, hk, e, _⟩ := idxBy_some h
  rw [carrAt_eq hk e]
  refine AWP.seq (AWP.region ?_)
  refine AOps.step rfl rfl rfl (AOp.box rfl rfl rfl) ?_
  refine AOps.alloc 101 rfl rfl rfl rfl zt_59 rfl rfl rfl (.nil ?_)
  refine AWP.seq ?_
  refine AWP.drawTail 7 (by kernel_rfl) (by kernel_rfl) (by kernel_rfl) ?_
  refine DRun.step rfl rfl rfl (AOp.fieldAddr rfl fo_26_1 rfl) ?_
  refine DRun.step rfl rfl rfl (AOp.load rfl sc_23 rfl) ?_
  refine DRun.step rfl rfl rfl (AOp.loadAgg rfl ag_26 rfl rfl) ?_
  refine DRun.step rfl rfl rfl (AOp.moveD rfl rfl) ?_
  refine DRun.step rfl rfl rfl (AOp.call rfl (.cons (ArgOk.rfl' rfl) (.cons (ArgOk.rfl' rfl) .nil)) (c_carrAt _ _)) ?_
  refine DRun.step rfl rfl rfl (AOp.indexAddr rfl et_23 rfl rfl k e (at_list hk) rfl) ?_
  refine DRun.step rfl rfl rfl (AOp.loadAgg rfl ag_59 rfl rfl) ?_
  refine DRun.nil ?_
  refine AOps.store rfl rfl rfl sz_59 rfl (.head _) rfl rfl rfl (Nat.le_of_ble_eq_true rfl) (.nil ?_)
  refine AWP.ret ?_
  refine ⟨RetR.agg rfl (.head _) ag_59 rfl (.cons (by first | exact CellD.nil | exact CellD.d | exact CellD.eq (by simp) | (refine CellD.own (by first | exact .head _ | exact .tail _ (.head _)) ?_; rfl)) (.cons (by first | exact CellD.nil | exact CellD.d | exact CellD.eq (by simp) | (refine CellD.own (by first | exact .head _ | exact .tail _ (.head _)) ?_; rfl)) (.cons (by first | exact CellD.nil | exact CellD.d | exact CellD.eq (by simp) | (refine CellD.own (by first | exact .head _ | exact .tail _ (.head _)) ?_; rfl)) (.cons (by first | exact CellD.nil | exact CellD.d | exact CellD.eq (by simp) | (refine CellD.own (by first | exact .head _ | exact .tail _ (.head _)) ?_; rfl)) (.cons (by first | exact CellD.nil | exact CellD.d | exact CellD.eq (by simp) | (refine CellD.own (by first | exact .head _ | exact .tail _ (.head _)) ?_; rfl)) .nil))))), trivial⟩
  all_goals (rfl)

set_option maxRecDepth 100000 in
set_option maxHeartbeats 1000000 in
theorem c_copiesOf (v : Vlt) (it : ByteArray) (hn : v.copies.length ≤ 200) : ACall Tryz.prog 58 [.agg v.ds, .v (.string it)] (.sl ((copiesOf v it).map Cpy.ds)) := by
  refine acall_of (n := 25) (ds' := [.sl ((copiesOf v it).map Cpy.ds)]) Tryz.func58 rfl (by kernel_rfl) rfl [4] rfl rfl ?_
  intro B w0 F0 fr
  refine AWP.seq (AWP.region ?_)
  refine AOps.step rfl rfl rfl (AOp.box rfl rfl rfl) ?_
  refine AOps.aD rfl rfl rfl rfl rfl (.nil ?_)
  refine AWP.seq (AWP.region ?_)
  refine AOps.aD rfl rfl rfl rfl rfl (.nil ?_)
  refine AWP.seq ?_
  refine AWP.seq (AWP.region ?_)
  refine AOps.step rfl rfl rfl (AOp.fieldAddr rfl fo_26_2 rfl) ?_
  refine AOps.step rfl rfl rfl (AOp.load rfl sc_24 rfl) ?_
  refine AOps.step rfl rfl rfl (AOp.lenSl rfl et_24.ht rfl) ?_
  refine AOps.mD rfl rfl rfl rfl rfl (.nil ?_)
  refine AWP.block ?_
  refine AWP.adopt 5 1 65 7 rfl rfl ?_
  refine AWP.loop (G := Nat) (fun k => Env.of [(11, .d (.v (.int .i64 (k : Int)))), (9, .d (.sl (v.copies.map Cpy.ds))), (10, .d (.v (.int .i64 ((v.copies.map Cpy.ds).length : Int)))), (1, .d (.v (.string it))), (5, .own 1)]) (fun k => [(1, .row 65 7 ((copiesTo v it k).map Cpy.ds))]) (fun k => k ≤ v.copies.length) (fun k => v.copies.length - k) 0 (Nat.zero_le _) (Sub.less ⟨(SLe.of_eq rfl), SLe.refl _, SLe.refl _, SLe.refl _, SLe.refl _, trivial⟩ (row_same rfl)) ?_
  intro k hk
  refine AWP.seq (AWP.region ?_)
  refine AOps.step rfl rfl rfl (AOp.lss rfl rfl rfl) (.nil ?_)
  refine AWP.seq ?_
  refine AWP.cond rfl (fun h1 => ?_) (fun h1 => ?_)
  · replace h1 := of_decide_eq_true h1
    rw [List.length_map] at h1
    have hlt : k < v.copies.length := by omega
    have hcl := copiesTo_len v it k
    refine AWP.skip ?_
    refine AWP.seq ?_
    refine AWP.block ?_
    refine AWP.seq (AWP.region ?_)
    refine AOps.step rfl rfl rfl (AOp.indexAddr rfl et_24 rfl rfl k rfl (at_list hlt) rfl) ?_
    refine AOps.step rfl rfl rfl (AOp.loadAgg rfl ag_65 rfl rfl) ?_
    refine AOps.alloc 101 rfl rfl rfl rfl zt_65 rfl rfl rfl ?_
    refine AOps.store rfl rfl rfl sz_65 rfl (.head _) rfl rfl rfl (Nat.le_of_ble_eq_true rfl) (.nil ?_)
    refine AWP.seq (AWP.region ?_)
    refine AOps.step rfl rfl rfl (AOp.fieldAddrP rfl fo_65_0 rfl) ?_
    refine AOps.step rfl rfl rfl (AOp.loadP rfl sc_9 rfl (.head _) rfl) ?_
    refine AOps.mD rfl rfl rfl rfl rfl ?_
    refine AOps.step rfl rfl rfl (AOp.seql rfl rfl rfl) (.nil ?_)
    refine AWP.cond rfl (fun h2 => ?_) (fun h2 => ?_)
    · replace h2 := of_decide_eq_true h2
      have HY := copiesTo_yes hlt h2
      refine AWP.region ?_
      refine AOps.step rfl rfl rfl (AOp.moveO rfl rfl) ?_
      refine AOps.step rfl rfl rfl (AOp.loadPU rfl ag_65 rfl (.head _) rfl rfl) ?_
      refine AOps.step rfl rfl rfl (AOp.buildSlice rfl et_24 (.cons rfl rfl rfl .nil) rfl (by decide)) ?_
      -- append 22
      refine AOps.append rfl rfl rfl rfl et_24 rfl (.tail _ (.head _)) rfl (by simp [D.parts]; rfl) (by simp; omega) (by simp; omega) ?_
      refine AOps.step rfl rfl rfl (AOp.assignO rfl rfl) (.nil ?_)
      refine AWP.region ?_
      refine AOps.step rfl rfl rfl (AOp.add64 rfl rfl rfl (by omega) (by omega)) ?_
      refine AOps.mD rfl rfl rfl rfl rfl (.nil ?_)
      refine ⟨k + 1, (by omega), (by dsimp only; omega), Sub.less ⟨(SLe.of_eq rfl), SLe.refl _, SLe.refl _, SLe.refl _, SLe.refl _, trivial⟩ (row_same2 (by rw [HY, List.map_append]; rfl))⟩
    replace h2 := of_decide_eq_false h2
    have HY := copiesTo_no hlt h2
    refine AWP.skip ?_
    refine AWP.region ?_
    refine AOps.step rfl rfl rfl (AOp.add64 rfl rfl rfl (by omega) (by omega)) ?_
    refine AOps.mD rfl rfl rfl rfl rfl (.nil ?_)
    refine ⟨k + 1, (by omega), (by dsimp only; omega), Sub.less ⟨(SLe.of_eq rfl), SLe.refl _, SLe.refl _, SLe.refl _, SLe.refl _, trivial⟩ (row_same2 (by rw [HY]))⟩
  replace h1 := of_decide_eq_false h1
  rw [List.length_map] at h1
  obtain rfl : k = v.copies.length := by omega
  have HE := copiesOf_eq v it
  refine AWP.exit ?_
  refine AWP.seq (AWP.region ?_)
  refine AOps.step rfl rfl rfl (AOp.moveO rfl rfl) ?_
  refine AOps.step rfl rfl rfl (AOp.assignO rfl rfl) (.nil ?_)
  refine AWP.ret ?_
  refine ⟨RetD.own rfl (.head _) ?_, trivial⟩
  all_goals (rw [HE])

end Go.Proofs.YtieccphckobhjaaGreatDoor
