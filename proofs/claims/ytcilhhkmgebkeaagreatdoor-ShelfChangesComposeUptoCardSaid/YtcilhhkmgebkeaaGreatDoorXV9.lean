/- Walks and laws over abstract values, merged by tools/merge.py. No statement of the seat. -/
import Derived.Test.YtcilhhkmgebkeaaGreatDoorXV8

namespace Go.Proofs.YtcilhhkmgebkeaaGreatDoor
open Go.RowKit
set_option linter.unusedVariables false

def Env.puts (e : Env) : List (Nat × S) → Env
  | [] => e
  | p :: l => Env.puts (e.put (some p.1) p.2) l
/-- An object that the region makes, and the slots that may hold it. -/
structure Fc where
  id : Nat
  slots : List Nat
def Clean (Φ : List Fc) (e : Env) : Prop := ∀ f ∈ Φ, ∀ t, f.slots.contains t = false → (e t).kill f.id = e t
def QE (e1 : Env) (σ1 : Obs) : Post := fun ex e σ => match ex with | .normal => e = e1 ∧ σ = σ1 | _ => False
/-- An operation that makes or turns objects: the slots that it sets, the objects behind it. -/
def GE (cx : Cx) (ops : Array Oper) (Φ : List Fc) (o : Oper) (e : Env) (σ : Obs) (si : List (Nat × S)) (σ' : Obs) : Prop :=
  ∀ e0 : Env, (∀ t, t ∈ o.looksAt ops → e0 t = e t) → (∀ t, t ∈ si.map Prod.fst → e0 t = e t) → Clean Φ e0 → AOps cx ops [o] e0 σ (QE (Env.puts e0 si) σ')
def LStep (cx : Cx) (ops : Array Oper) (Φ : List Fc) (ef : Nat → Bool) (K : Nat → List Nat) (I : Obs → Prop) (k : Nat) (o : Oper) (e : Env) (σ : Obs) (e' : Env) (σ' : Obs) : Prop :=
  (GW ops o e true ∧ ef k = false ∧ ∃ s, I σ ∧ (∀ τ, I τ → AOp cx.P cx.B ops o e τ s) ∧ (∀ f ∈ Φ, (∃ t, o.dst = some t ∧ f.slots.contains t = true) ∨ s.kill f.id = s) ∧ e' = e.put o.dst s ∧ σ' = σ) ∨
  (GW ops o e false ∧ ef k = false ∧ e' = e.put o.dst (.d (.v undef)) ∧ σ' = σ) ∨
  (GW ops o e true ∧ ef k = true ∧ I σ ∧ I σ' ∧ ∃ si, si.map Prod.fst = K k ∧ GE cx ops Φ o e σ si σ' ∧ (∀ p ∈ si, ∀ f ∈ Φ, f.slots.contains p.1 = true ∨ p.2.kill f.id = p.2) ∧ e' = Env.puts e si)
def LRun (cx : Cx) (ops : Array Oper) (Φ : List Fc) (ef : Nat → Bool) (K : Nat → List Nat) (I : Obs → Prop) : Nat → List Oper → Env → Obs → (Env → Obs → Prop) → Prop
  | _, [], e, σ, Q => Q e σ
  | k, o :: l, e, σ, Q => DstOk cx.N o ∧ ∃ e' σ', LStep cx ops Φ ef K I k o e σ e' σ' ∧ LRun cx ops Φ ef K I (k + 1) l e' σ' Q
def anyL (cx : Cx) (ops : Array Oper) (Φ : List Fc) (ef : Nat → Bool) (K : Nat → List Nat) (I : Obs → Prop) (Q : Env → Obs → Prop) : Nat → Array Bool → Env → Obs → Prop
  | 0, listed, e, σ => Region.ready .any ops listed = [] ∧ Q e σ
  | fuel + 1, listed, e, σ => (Region.ready .any ops listed = [] → Q e σ) ∧
      ∀ i ∈ Region.ready .any ops listed, ∀ o, ops[i]? = some o → ∃ e' σ', LStep cx ops Φ ef K I i o e σ e' σ' ∧ anyL cx ops Φ ef K I Q fuel (listed.setIfInBounds i true) e' σ'
/-- The slots of one are none of the other's. -/
def keysOkB (ops : Array Oper) (K : Nat → List Nat) (i j : Nat) (oi oj : Oper) : Bool :=
  ((K i).all fun k => !((oj.looksAt ops).contains k) && neDst oj k) && ((K j).all fun k => !((oi.looksAt ops).contains k) && neDst oi k) && (!(K i).any fun k => (K j).contains k)
/-- The check: whoever is free to change places has nothing to do with the other. -/
def Region.keysFree (ops : Array Oper) (ef : Nat → Bool) (K : Nat → List Nat) (listed : Array Bool) (k : Nat) (late : Nat → Bool) : Bool :=
  (List.range ops.size).all fun j =>
    (!(late j) || (!(listed.getD j false) && ((ops[j]?).map fun o => o.after.any fun e => Region.binds .any e && (Nat.beq e.on k || late e.on)).getD true)) &&
    (Nat.beq j k || listed.getD j true || late j || Region.edge ops j k || ((!(ef k) || !(ef j)) && ((ops[k]?).bind fun oi => (ops[j]?).map fun oj => keysOkB ops K k j oi oj).getD false))
def Region.keysFrom (ops : Array Oper) (ef : Nat → Bool) (K : Nat → List Nat) : Nat → Nat → Array Bool → Bool
  | 0, _, _ => true
  | fuel + 1, k, listed => Region.keysFree ops ef K listed k (Region.lateB ops k) && Region.keysFrom ops ef K fuel (k + 1) (listed.setIfInBounds k true)
/-- Before the region: no slot but those told holds what it makes or turns. -/
def Env.killOut (f : Fc) (e : Env) : Env := fun t => match f.slots.contains t with | true => e t | false => (e t).kill f.id
def Env.killIds : List Fc → Env → Env
  | [], e => e
  | f :: l, e => Env.killIds l (e.killOut f)
section
variable {cx : Cx} {ops : Array Oper} {Φ : List Fc} {ef : Nat → Bool} {K : Nat → List Nat} {I : Obs → Prop} {n : Nat} {o : Oper} {l : List Oper} {e : Env} {σ : Obs} {Q : Env → Obs → Prop}
def cleanS (t : Nat) (s : S) : List Fc → Prop
  | [] => True
  | f :: l => (f.slots.contains t = true ∨ s.kill f.id = s) ∧ cleanS t s l
def cleanL (Φ : List Fc) : List (Nat × S) → Prop
  | [] => True
  | p :: l => (∀ f ∈ Φ, f.slots.contains p.1 = true ∨ p.2.kill f.id = p.2) ∧ cleanL Φ l
end
end Go.Proofs.YtcilhhkmgebkeaaGreatDoor


namespace Go.Proofs.YtcilhhkmgebkeaaGreatDoor
open Go.RowKit
set_option linter.unusedVariables false

/-! Types. -/
namespace TyLP
theorem ag_25 : AggT Tryz.prog 25 2 := .of (by kernel_rfl)
theorem ag_28 : AggT Tryz.prog 28 4 := .of (by kernel_rfl)
theorem ag_51 : AggT Tryz.prog 51 2 := .of (by kernel_rfl)
theorem bu_25 : StructT Tryz.prog 25 (fun i => (#[(0, 1), (1, 1)] : Array (Nat × Nat))[i]?) [(.slice none 0 0), (.slice none 0 0)] := .of (by kernel_rfl) (by kernel_rfl) (by decide)
theorem bu_28 : StructT Tryz.prog 28 (fun i => (#[(0, 1), (1, 1), (2, 1), (3, 1)] : Array (Nat × Nat))[i]?) [(.slice none 0 0), (.slice none 0 0), (.slice none 0 0), (.slice none 0 0)] := .of (by kernel_rfl) (by kernel_rfl) (by decide)
theorem et_60 : ElemTy Tryz.prog 60 28 4 96 (.agg #[(.slice none 0 0), (.slice none 0 0), (.slice none 0 0), (.slice none 0 0)]) := ⟨by kernel_rfl, by kernel_rfl, by kernel_rfl, by decide⟩
theorem sz_25 : ∀ w, (sizeOf 25).run Tryz.prog w = .ok 2 w := SizeT.of (by kernel_rfl)
theorem sz_28 : ∀ w, (sizeOf 28).run Tryz.prog w = .ok 4 w := SizeT.of (by kernel_rfl)
theorem sz_51 : ∀ w, (sizeOf 51).run Tryz.prog w = .ok 2 w := SizeT.of (by kernel_rfl)
theorem zt_25 : (Tryz.prog.info? 25).bind (·.zero) = some (.agg #[(.slice none 0 0), (.slice none 0 0)]) := by kernel_rfl
theorem zt_28 : (Tryz.prog.info? 28).bind (·.zero) = some (.agg #[(.slice none 0 0), (.slice none 0 0), (.slice none 0 0), (.slice none 0 0)]) := by kernel_rfl
theorem zt_51 : (Tryz.prog.info? 51).bind (·.zero) = some (.agg #[(.map none), (.map none)]) := by kernel_rfl
end TyLP
open TyLP


set_option linter.unusedSimpArgs false
theorem AOp.loadSame {P : Program} {B : Nat} {ops : Array Oper} {o : Oper} {e : Env} {σ : Obs} {t : TypeId} {x : Operand} {cid v i j : Nat} (ho : o.op = .load t x) (hT : AggT P t 2) (hx : e.ev x = .ptr cid 0) (hm : (cid, Ob.cells [.own i, .own j]) ∈ σ) (hv : (v, Ob.val [.own i, .own j]) ∈ σ) : AOp P B ops o e σ (.own v) := .value fun F ρ w a hF hr hσ => by
  have r1 := hr x (by rw [ho]; simp [Op.operands])
  rw [hx] at r1
  obtain ⟨g, ty, cs, hρ, hB, hFg, hh, hcl, hcs⟩ := hσ.ok _ hm
  obtain ⟨ds, hρv, hdl, hds⟩ := hσ.ok _ hv
  dsimp only at hρ hρv
  have hxv := ptr_at r1 (g := g) (by rw [hρ]; rfl)
  have hcells : (loadCells ⟨g, 0, none⟩ cs.length).run P w = .ok cs.toArray w := run_loadCells_list w _ cs (fun j v hj => by
    rw [addr_add, cell_of_row w g (0 + j) cs.toArray ty (0, 0) hh]
    simpa using hj)
  have hn : cs.length = 2 := by simpa using hcl
  rw [hn] at hcells
  have own : ∀ {u : Value} {n : Nat}, RepS F ρ w u (.own n) → u = ρ n := fun h => by cases h; rfl
  have hcd : cs = ds := List.ext_getElem (by rw [hcl, hdl]) fun n h1 h2 => by
    have a1 := (hcs n h1 (by omega)).2
    have a2 := (hds n h2 (by omega)).2
    rcases (show n = 0 ∨ n = 1 by omega) with rfl | rfl
    · exact (own a1).trans (own a2).symm
    · exact (own a1).trans (own a2).symm
  refine ⟨ρ v, F, w, ?_, .own v, Ext.refl hF⟩
  rw [hρv, ← hcd]
  unfold execOp
  simp only [ho, hxv, Instr.loadAt, Instr.sureAddr, loadVar, Sem.run_bind, Sem.run_pure, Result.andThen_ok, hT.agg w, hT.size w, if_true, hcells]
theorem applyV_c {c : Ctl} {x : Chg} (h : chkF c ≠ 0) : applyV c x = (zC, zX, chkF c) := if_neg h
theorem applyV_x {c : Ctl} {x : Chg} (h : chkF c = 0) (h2 : chgF x ≠ 0) : applyV c x = (zC, zX, chgF x) := by unfold applyV; rw [if_pos h, if_neg h2]
theorem applyV_0 {c : Ctl} {x : Chg} (h : chkF c = 0) (h2 : chgF x = 0) : applyV c x = appV c x := by unfold applyV; rw [if_pos h, if_pos h2]
abbrev cmpT (x y : Chg) : TL := putAll (xT x) (xT y)
abbrev cmpM (x y : Chg) : ML := putAll (xM x) (xM y)
def compX (x y : Chg) : Chg := chgO (cmpT x y) (cmpM x y)
def composeV (x y : Chg) : Chg × Int := if chgF x = 0 then (if chgF y = 0 then (if chgF (compX x y) = 0 then (compX x y, 0) else (zX, chgF (compX x y))) else (zX, chgF y)) else (zX, chgF x)
theorem comp_f {x y : Chg} {k : Nat} (hk : k < [x, y].length) (hb : ∀ z ∈ [x, y].take k, chgF z = 0) (h : chgF [x, y][k] ≠ 0) : composeV x y = (zX, chgF [x, y][k]) := by
  match k, hk with
  | 0, _ => unfold composeV; rw [if_neg (show ¬ chgF x = 0 from h)]; rfl
  | 1, _ => unfold composeV; rw [if_pos (hb x (by simp)), if_neg (show ¬ chgF y = 0 from h)]; rfl
theorem comp_b {x y : Chg} (hx : chgF x = 0) (hy : chgF y = 0) (h : chgF (compX x y) ≠ 0) : composeV x y = (zX, chgF (compX x y)) := by unfold composeV; rw [if_pos hx, if_pos hy, if_neg h]
theorem comp_0 {x y : Chg} (hx : chgF x = 0) (hy : chgF y = 0) (h : chgF (compX x y) = 0) : composeV x y = (compX x y, 0) := by unfold composeV; rw [if_pos hx, if_pos hy, if_pos h]
def differX (a b : Ctl) : Chg := chgO (fromE (cT b) (cT a) (keysG (cT a) ++ keysG (cT b))) (fromE (cM b) (cM a) (keysG (cM a) ++ keysG (cM b)))
def differV (a b : Ctl) : Chg × Int := if chkF a = 0 then (if chkF b = 0 then (differX a b, 0) else (zX, chkF b)) else (zX, chkF a)
theorem two_s {α : Type} {f : α → Int} {x y : α} {k : Nat} (hk : k < [x, y].length) (hb : ∀ z ∈ [x, y].take k, f z = 0) (h : f [x, y][k] = 0) : ∀ z ∈ [x, y].take (k + 1), f z = 0 := fun z hz => by
  rw [List.take_add_one, List.getElem?_eq_getElem hk, Option.toList_some, List.mem_append, List.mem_singleton] at hz
  rcases hz with hz | rfl
  · exact hb z hz
  · exact h
theorem two_e {α : Type} {f : α → Int} {x y : α} {k : Nat} (hk : 2 ≤ k) (hb : ∀ z ∈ [x, y].take k, f z = 0) : f x = 0 ∧ f y = 0 := by
  rw [List.take_of_length_le (by simpa using hk)] at hb
  exact ⟨hb x (by simp), hb y (by simp)⟩
set_option maxRecDepth 100000 in
set_option maxHeartbeats 1000000 in
theorem c_pApply (c : Ctl) (x : Chg) (hc : CtlOk c) (hx : XIn x) : ACallT Tryz.prog MaxT 7 [.agg c.ds, .agg x.ds] (.tup [.agg (applyV c x).1.ds, .agg (applyV c x).2.1.ds, .v (.int .i64 (applyV c x).2.2)]) := by
  refine acall_ofRT (n := 29) (ds' := [.agg (applyV c x).1.ds, .agg (applyV c x).2.1.ds, .v (.int .i64 (applyV c x).2.2)]) Tryz.func7 rfl (by kernel_rfl) rfl [.cell 4 25, .cell 5 28, .tmp 6] rfl rfl ?_
  intro B w0 F0 hT
  refine AWP.seq (AWP.region ?_)
  refine AOps.step rfl rfl rfl (AOp.box rfl rfl rfl) ?_
  refine AOps.step rfl rfl rfl (AOp.box rfl rfl rfl) ?_
  refine AOps.alloc 101 rfl rfl rfl rfl zt_25 rfl rfl rfl ?_
  refine AOps.alloc 102 rfl rfl rfl rfl zt_28 rfl rfl rfl ?_
  refine AOps.aD rfl rfl rfl rfl rfl (.nil ?_)
  refine AWP.seq ?_
  refine AWP.seq (AWP.region ?_)
  refine AOps.step rfl rfl rfl (AOp.loadAgg rfl ag_25 rfl rfl) ?_
  -- wants the world
  refine AOps.callT rfl rfl rfl hT maxT_stays rfl (.cons (ArgOk.rfl' rfl) .nil) (c_pChk c hc) ?_
  refine AOps.aD rfl rfl rfl rfl rfl (.nil ?_)
  refine AWP.seq (AWP.region ?_)
  refine AOps.mD rfl rfl rfl rfl rfl ?_
  refine AOps.step rfl rfl rfl (AOp.neq rfl rfl rfl) (.nil ?_)
  refine AWP.cond rfl (fun h1 => ?_) (fun h1 => ?_)
  · replace h1 := of_decide_eq_true h1
    rw [applyV_c (by first | exact h1 | omega)]
    refine AWP.seq (AWP.region ?_)
    refine AOps.step rfl rfl rfl (AOp.build rfl bu_25 .nil rfl) ?_
    refine AOps.step rfl rfl rfl (AOp.build rfl bu_28 .nil rfl) ?_
    refine AOps.mD rfl rfl rfl rfl rfl ?_
    refine AOps.store rfl rfl rfl sz_25 rfl (.tail _ (.head _)) rfl rfl rfl (Nat.le_of_ble_eq_true rfl) ?_
    refine AOps.store rfl rfl rfl sz_28 rfl (.head _) rfl rfl rfl (Nat.le_of_ble_eq_true rfl) ?_
    refine AOps.aD rfl rfl rfl rfl rfl (.nil ?_)
    refine AWP.ret ?_
    refine ⟨RetR.agg rfl (.tail _ (.head _)) ag_25 rfl (.cons (by first | exact CellD.nil | exact CellD.d | exact CellD.eq (by simp) | (refine CellD.own (by first | exact .head _ | exact .tail _ (.head _)) ?_; rfl)) (.cons (by first | exact CellD.nil | exact CellD.d | exact CellD.eq (by simp) | (refine CellD.own (by first | exact .head _ | exact .tail _ (.head _)) ?_; rfl)) .nil)), RetR.agg rfl (.head _) ag_28 rfl (.cons (by first | exact CellD.nil | exact CellD.d | exact CellD.eq (by simp) | (refine CellD.own (by first | exact .head _ | exact .tail _ (.head _)) ?_; rfl)) (.cons (by first | exact CellD.nil | exact CellD.d | exact CellD.eq (by simp) | (refine CellD.own (by first | exact .head _ | exact .tail _ (.head _)) ?_; rfl)) (.cons (by first | exact CellD.nil | exact CellD.d | exact CellD.eq (by simp) | (refine CellD.own (by first | exact .head _ | exact .tail _ (.head _)) ?_; rfl)) (.cons (by first | exact CellD.nil | exact CellD.d | exact CellD.eq (by simp) | (refine CellD.own (by first | exact .head _ | exact .tail _ (.head _)) ?_; rfl)) .nil)))), RetD.eq rfl ?_, trivial⟩
    all_goals (rfl)
  replace h1 := of_decide_eq_false h1
  have hk0 : chkF c = 0 := (by first | exact h1 | omega)
  refine AWP.skip ?_
  refine AWP.seq ?_
  refine AWP.seq (AWP.region ?_)
  refine AOps.step rfl rfl rfl (AOp.loadAgg rfl ag_28 rfl rfl) ?_
  refine AOps.step rfl rfl rfl (AOp.call rfl (.cons (ArgOk.rfl' rfl) .nil) (c_pCC x)) ?_
  refine AOps.aD rfl rfl rfl rfl rfl (.nil ?_)
  refine AWP.seq (AWP.region ?_)
  refine AOps.mD rfl rfl rfl rfl rfl ?_
  refine AOps.step rfl rfl rfl (AOp.neq rfl rfl rfl) (.nil ?_)
  refine AWP.cond rfl (fun h2 => ?_) (fun h2 => ?_)
  · replace h2 := of_decide_eq_true h2
    rw [applyV_x hk0 (by first | exact h2 | omega)]
    refine AWP.seq (AWP.region ?_)
    refine AOps.step rfl rfl rfl (AOp.build rfl bu_25 .nil rfl) ?_
    refine AOps.step rfl rfl rfl (AOp.build rfl bu_28 .nil rfl) ?_
    refine AOps.mD rfl rfl rfl rfl rfl ?_
    refine AOps.store rfl rfl rfl sz_25 rfl (.tail _ (.head _)) rfl rfl rfl (Nat.le_of_ble_eq_true rfl) ?_
    refine AOps.store rfl rfl rfl sz_28 rfl (.head _) rfl rfl rfl (Nat.le_of_ble_eq_true rfl) ?_
    refine AOps.aD rfl rfl rfl rfl rfl (.nil ?_)
    refine AWP.ret ?_
    refine ⟨RetR.agg rfl (.tail _ (.head _)) ag_25 rfl (.cons (by first | exact CellD.nil | exact CellD.d | exact CellD.eq (by simp) | (refine CellD.own (by first | exact .head _ | exact .tail _ (.head _)) ?_; rfl)) (.cons (by first | exact CellD.nil | exact CellD.d | exact CellD.eq (by simp) | (refine CellD.own (by first | exact .head _ | exact .tail _ (.head _)) ?_; rfl)) .nil)), RetR.agg rfl (.head _) ag_28 rfl (.cons (by first | exact CellD.nil | exact CellD.d | exact CellD.eq (by simp) | (refine CellD.own (by first | exact .head _ | exact .tail _ (.head _)) ?_; rfl)) (.cons (by first | exact CellD.nil | exact CellD.d | exact CellD.eq (by simp) | (refine CellD.own (by first | exact .head _ | exact .tail _ (.head _)) ?_; rfl)) (.cons (by first | exact CellD.nil | exact CellD.d | exact CellD.eq (by simp) | (refine CellD.own (by first | exact .head _ | exact .tail _ (.head _)) ?_; rfl)) (.cons (by first | exact CellD.nil | exact CellD.d | exact CellD.eq (by simp) | (refine CellD.own (by first | exact .head _ | exact .tail _ (.head _)) ?_; rfl)) .nil)))), RetD.eq rfl ?_, trivial⟩
    all_goals (rfl)
  replace h2 := of_decide_eq_false h2
  have hx0 : chgF x = 0 := (by first | exact h2 | omega)
  rw [applyV_0 hk0 hx0]
  refine AWP.skip ?_
  refine AWP.seq (AWP.region ?_)
  refine AOps.step rfl rfl rfl (AOp.loadAgg rfl ag_25 rfl rfl) ?_
  refine AOps.step rfl rfl rfl (AOp.loadAgg rfl ag_28 rfl rfl) ?_
  -- wants the world
  refine AOps.callT rfl rfl rfl hT maxT_stays rfl (.cons (ArgOk.rfl' rfl) (.cons (ArgOk.rfl' rfl) .nil)) (c_app c x (cIn hc hk0) hx (catOk hk0).lim (limX hx0)) ?_
  refine AOps.step rfl rfl rfl (AOp.extract rfl rfl rfl) ?_
  refine AOps.step rfl rfl rfl (AOp.extract rfl rfl rfl) ?_
  refine AOps.step rfl rfl rfl (AOp.extract rfl rfl rfl) ?_
  refine AOps.store rfl rfl rfl sz_25 rfl (.tail _ (.head _)) rfl rfl rfl (Nat.le_of_ble_eq_true rfl) ?_
  refine AOps.store rfl rfl rfl sz_28 rfl (.head _) rfl rfl rfl (Nat.le_of_ble_eq_true rfl) ?_
  refine AOps.aD rfl rfl rfl rfl rfl (.nil ?_)
  refine AWP.ret ?_
  refine ⟨RetR.agg rfl (.tail _ (.head _)) ag_25 rfl (.cons (by first | exact CellD.nil | exact CellD.d | exact CellD.eq (by simp) | (refine CellD.own (by first | exact .head _ | exact .tail _ (.head _)) ?_; rfl)) (.cons (by first | exact CellD.nil | exact CellD.d | exact CellD.eq (by simp) | (refine CellD.own (by first | exact .head _ | exact .tail _ (.head _)) ?_; rfl)) .nil)), RetR.agg rfl (.head _) ag_28 rfl (.cons (by first | exact CellD.nil | exact CellD.d | exact CellD.eq (by simp) | (refine CellD.own (by first | exact .head _ | exact .tail _ (.head _)) ?_; rfl)) (.cons (by first | exact CellD.nil | exact CellD.d | exact CellD.eq (by simp) | (refine CellD.own (by first | exact .head _ | exact .tail _ (.head _)) ?_; rfl)) (.cons (by first | exact CellD.nil | exact CellD.d | exact CellD.eq (by simp) | (refine CellD.own (by first | exact .head _ | exact .tail _ (.head _)) ?_; rfl)) (.cons (by first | exact CellD.nil | exact CellD.d | exact CellD.eq (by simp) | (refine CellD.own (by first | exact .head _ | exact .tail _ (.head _)) ?_; rfl)) .nil)))), RetD.eq rfl ?_, trivial⟩
  all_goals (rfl)

set_option maxRecDepth 100000 in
set_option maxHeartbeats 4000000 in
theorem c_pComp (x y : Chg) (hx : XIn x) (hy : XIn y) : ACall Tryz.prog 13 [.agg x.ds, .agg y.ds] (.tup [.agg (composeV x y).1.ds, .v (.int .i64 (composeV x y).2)]) := by
  refine acall_ofR (n := 42) (ds' := [.agg (composeV x y).1.ds, .v (.int .i64 (composeV x y).2)]) Tryz.func13 rfl (by kernel_rfl) rfl [.cell 4 28, .tmp 5] rfl rfl ?_
  intro B w0 F0 fr
  refine AWP.seq (AWP.region ?_)
  refine AOps.step rfl rfl rfl (AOp.box rfl rfl rfl) ?_
  refine AOps.step rfl rfl rfl (AOp.box rfl rfl rfl) ?_
  refine AOps.alloc 101 rfl rfl rfl rfl zt_28 rfl rfl rfl ?_
  refine AOps.aD rfl rfl rfl rfl rfl (.nil ?_)
  refine AWP.seq ?_
  refine AWP.seq (AWP.region ?_)
  refine AOps.step rfl rfl rfl (AOp.loadAgg rfl ag_28 rfl rfl) ?_
  refine AOps.step rfl rfl rfl (AOp.loadAgg rfl ag_28 rfl rfl) ?_
  refine AOps.step rfl rfl rfl (AOp.buildSlice rfl et_60 (.cons rfl rfl rfl (.cons rfl rfl rfl .nil)) rfl (by decide)) ?_
  refine AOps.step rfl rfl rfl (AOp.lenSl rfl et_60.ht rfl) ?_
  refine AOps.mD rfl rfl rfl rfl rfl (.nil ?_)
  refine AWP.block ?_
  refine AWP.loop (G := Nat) (fun k => Env.of [(16, .d (.v (.int .i64 (k : Int)))), (14, .d (.sl ([x, y].map Chg.ds))), (15, .d (.v (.int .i64 2))), (2, .d (.fp x.ds)), (3, .d (.fp y.ds)), (4, .ptr 101 0)]) (fun k => [(101, .cells [.d (.v (.slice none 0 0)), .d (.v (.slice none 0 0)), .d (.v (.slice none 0 0)), .d (.v (.slice none 0 0))])]) (fun k => k ≤ 2 ∧ ∀ z ∈ [x, y].take k, chgF z = 0) (fun k => 2 - k) 0 ⟨Nat.zero_le _, fun z h => by simp at h⟩ (Sub.less ⟨(SLe.of_eq rfl), (SLe.of_eq rfl), (SLe.of_eq rfl), SLe.refl _, SLe.refl _, SLe.refl _, trivial⟩ (fun _ h => h)) ?_
  intro k hk
  refine AWP.seq (AWP.region ?_)
  refine AOps.step rfl rfl rfl (AOp.lss rfl rfl rfl) (.nil ?_)
  refine AWP.seq ?_
  refine AWP.cond rfl (fun h1 => ?_) (fun h1 => ?_)
  · replace h1 := of_decide_eq_true h1
    have hlt : k < [x, y].length := by have := h1; simp at this ⊢; omega
    refine AWP.skip ?_
    refine AWP.seq ?_
    refine AWP.block ?_
    refine AWP.seq (AWP.region ?_)
    refine AOps.step rfl rfl rfl (AOp.indexAddr rfl et_60 rfl rfl k rfl (at_lst (l := [x, y]) hlt) rfl) ?_
    refine AOps.step rfl rfl rfl (AOp.loadAgg rfl ag_28 rfl rfl) ?_
    refine AOps.alloc 102 rfl rfl rfl rfl zt_28 rfl rfl rfl ?_
    refine AOps.store rfl rfl rfl sz_28 rfl (.head _) rfl rfl rfl (Nat.le_of_ble_eq_true rfl) ?_
    refine AOps.freezeCells 7 (ds := ([x, y][k]).ds) rfl (.head _) (.nil ?_)
    refine AWP.seq (AWP.region ?_)
    refine AOps.step rfl rfl rfl (AOp.loadAgg rfl ag_28 rfl rfl) ?_
    refine AOps.step rfl rfl rfl (AOp.call rfl (.cons (ArgOk.rfl' rfl) .nil) (c_pCC _)) ?_
    refine AOps.aD rfl rfl rfl rfl rfl (.nil ?_)
    refine AWP.seq (AWP.region ?_)
    refine AOps.mD rfl rfl rfl rfl rfl ?_
    refine AOps.step rfl rfl rfl (AOp.neq rfl rfl rfl) (.nil ?_)
    refine AWP.cond rfl (fun h2 => ?_) (fun h2 => ?_)
    · replace h2 := of_decide_eq_true h2
      rw [comp_f hlt hk.2 (by first | exact h2 | omega)]
      refine AWP.seq (AWP.region ?_)
      refine AOps.step rfl rfl rfl (AOp.build rfl bu_28 .nil rfl) ?_
      refine AOps.mD rfl rfl rfl rfl rfl ?_
      refine AOps.store rfl rfl rfl sz_28 rfl (.head _) rfl rfl rfl (Nat.le_of_ble_eq_true rfl) ?_
      refine AOps.aD rfl rfl rfl rfl rfl (.nil ?_)
      refine AWP.ret ?_
      refine ⟨RetR.agg rfl (.head _) ag_28 rfl (.cons (by first | exact CellD.nil | exact CellD.d | exact CellD.eq (by simp) | (refine CellD.own (by first | exact .head _ | exact .tail _ (.head _)) ?_; rfl)) (.cons (by first | exact CellD.nil | exact CellD.d | exact CellD.eq (by simp) | (refine CellD.own (by first | exact .head _ | exact .tail _ (.head _)) ?_; rfl)) (.cons (by first | exact CellD.nil | exact CellD.d | exact CellD.eq (by simp) | (refine CellD.own (by first | exact .head _ | exact .tail _ (.head _)) ?_; rfl)) (.cons (by first | exact CellD.nil | exact CellD.d | exact CellD.eq (by simp) | (refine CellD.own (by first | exact .head _ | exact .tail _ (.head _)) ?_; rfl)) .nil)))), RetD.eq rfl ?_, trivial⟩
      all_goals (rfl)
    replace h2 := of_decide_eq_false h2
    have HN := two_s (f := chgF) hlt hk.2 (by first | exact h2 | omega)
    refine AWP.skip ?_
    refine AWP.region ?_
    refine AOps.step rfl rfl rfl (AOp.add64 rfl rfl rfl (by omega) (by omega)) ?_
    refine AOps.mD rfl rfl rfl rfl rfl (.nil ?_)
    refine ⟨k + 1, ⟨by simp at hlt; omega, HN⟩, (by dsimp only; simp at hlt; omega), Sub.less ⟨(SLe.of_eq rfl), SLe.refl _, SLe.refl _, SLe.refl _, SLe.refl _, SLe.refl _, trivial⟩ (fun _ h => h)⟩
  replace h1 := of_decide_eq_false h1
  obtain ⟨hx0, hy0⟩ := two_e (f := chgF) (by have := h1; simp at this ⊢; omega) hk.2
  have hlx := limX hx0
  have hly := limX hy0
  have n1 := xT_len hlx
  have n2 := xM_len hlx
  have n3 := xT_len hly
  have n4 := xM_len hly
  have n5 : (cmpT x y).length ≤ (xT x).length + (xT y).length := putAll_len (xT y) (xT x)
  have n6 : (cmpM x y).length ≤ (xM x).length + (xM y).length := putAll_len (xM y) (xM x)
  have v1 := hx.vT.put hy.vT
  have v2 := hx.vM.put hy.vM
  have HX := c_ofX x hlx hx.ok hx.parts
  have HY := c_ofX y hly hy.ok hy.parts
  refine AWP.exit ?_
  refine AWP.seq (AWP.region ?_)
  refine AOps.step rfl rfl rfl (AOp.loadAgg rfl ag_28 rfl rfl) ?_
  refine AOps.callXS rfl rfl rfl (ArgsS.cons (SLe.refl _) ArgsS.nil) (HX.toX 100 91 92 (by decide) (by decide) (by decide)) trivial rfl rfl (fun _ _ => rfl) ?_
  refine AOps.alloc 102 rfl rfl rfl rfl zt_51 rfl rfl rfl ?_
  refine AOps.eff rfl rfl (EOp.storeVal (ss' := [.own 91, .own 92]) rfl rfl sz_51 rfl (.head _) rfl (.tail _ (.head _)) rfl (Nat.le_refl 2)) (.nil ?_)
  refine AWP.seq ?_
  refine AWP.weaken (e' := Env.of [(3, .d (.fp y.ds)), (4, .ptr 101 0), (9, .ptr 102 0)]) (σ' := [(102, .cells [.own 91, .own 92]), (100, .val [.own 91, .own 92]), (91, .map (encT (xT x))), (92, .map (encM (xM x))), (101, .cells [.d (.v (.slice none 0 0)), .d (.v (.slice none 0 0)), .d (.v (.slice none 0 0)), .d (.v (.slice none 0 0))])]) (Sub.less ⟨SLe.refl _, SLe.refl _, SLe.refl _, trivial⟩ (fun p h => h)) ?_
  refine AWP.drawTail 3 (by kernel_rfl) (by kernel_rfl) (by kernel_rfl) ?_
  refine DRun.step rfl rfl rfl (AOp.loadSame rfl ag_51 rfl (.head _) (.tail _ (.head _))) ?_
  refine DRun.step rfl rfl rfl (AOp.loadAgg rfl ag_28 rfl rfl) ?_
  refine DRun.step rfl rfl rfl (AOp.call rfl (.cons (ArgOk.rfl' rfl) .nil) HY.toA) ?_
  refine DRun.nil ?_
  refine AOps.callXE rfl rfl rfl (ArgsS.cons (SLe.refl _) (ArgsS.cons (SLe.refl _) ArgsS.nil)) (c_over (xT x) (xT y) (xM x) (xM y) (xE_nk _ _) (xE_nk _ _) (xE_nk _ _) (xE_nk _ _) hx.vT.keys hy.vT.keys hx.vM.keys hy.vM.keys) ⟨(.tail _ (.head _)), (.tail _ (.tail _ (.head _))), (.tail _ (.tail _ (.tail _ (.head _)))), trivial⟩ rfl (fun _ => rfl) (fun _ _ => rfl) (fun i hi => ?_)
  refine AOps.nil ?_
  refine AWP.seq ?_
  refine AWP.freezeMapIn 102 0 (encT (cmpT x y)) rfl (.tail _ (.tail _ (.head _))) (.tail _ (.head _)) ((hi.1.perm (xE_nk _ _) (xE_nk _ _)).map _) ?_
  refine AWP.freezeMapIn 102 1 (encM (cmpM x y)) rfl (.tail _ (.head _)) (.tail _ (.head _)) ((hi.2.perm (xE_nk _ _) (xE_nk _ _)).map _) ?_
  refine AWP.obs (σ' := [(102, .cells [.d (.fm (encT (cmpT x y))), .d (.fm (encM (cmpM x y)))]), (101, .cells [.d (.v (.slice none 0 0)), .d (.v (.slice none 0 0)), .d (.v (.slice none 0 0)), .d (.v (.slice none 0 0))])]) (fun p h => .tail _ h) ?_
  refine AWP.weaken (e' := Env.of [(4, .ptr 101 0), (9, .ptr 102 0)]) (σ' := [(102, .cells [.d (.fm (encT (cmpT x y))), .d (.fm (encM (cmpM x y)))]), (101, .cells [.d (.v (.slice none 0 0)), .d (.v (.slice none 0 0)), .d (.v (.slice none 0 0)), .d (.v (.slice none 0 0))])]) (Sub.less ⟨SLe.refl _, SLe.refl _, trivial⟩ (fun p h => h)) ?_
  refine AWP.region ?_
  refine AOps.step rfl rfl rfl (AOp.loadPU rfl ag_51 rfl (.head _) rfl rfl) ?_
  refine AOps.step rfl rfl rfl (AOp.call rfl (.cons (ArgOk.rfl' rfl) .nil) (c_chg (cmpT x y) (cmpM x y) (putAll_nk (xE_nk _ _)) (putAll_nk (xE_nk _ _)) v1.keys v2.keys (by omega) (by omega) v1.prt)) ?_
  refine AOps.alloc 104 rfl rfl rfl rfl zt_28 rfl rfl rfl ?_
  refine AOps.store rfl rfl rfl sz_28 rfl (.head _) rfl rfl rfl (Nat.le_of_ble_eq_true rfl) ?_
  refine AOps.freezeCells 10 (ds := (compX x y).ds) rfl (.head _) (.nil ?_)
  refine AWP.seq ?_
  refine AWP.seq (AWP.region ?_)
  refine AOps.step rfl rfl rfl (AOp.loadAgg rfl ag_28 rfl rfl) ?_
  refine AOps.step rfl rfl rfl (AOp.call rfl (.cons (ArgOk.rfl' rfl) .nil) (c_pCC _)) ?_
  refine AOps.aD rfl rfl rfl rfl rfl (.nil ?_)
  refine AWP.seq (AWP.region ?_)
  refine AOps.mD rfl rfl rfl rfl rfl ?_
  refine AOps.step rfl rfl rfl (AOp.neq rfl rfl rfl) (.nil ?_)
  refine AWP.cond rfl (fun h3 => ?_) (fun h3 => ?_)
  · replace h3 := of_decide_eq_true h3
    rw [comp_b hx0 hy0 (by first | exact h3 | omega)]
    refine AWP.seq (AWP.region ?_)
    refine AOps.step rfl rfl rfl (AOp.build rfl bu_28 .nil rfl) ?_
    refine AOps.mD rfl rfl rfl rfl rfl ?_
    refine AOps.store rfl rfl rfl sz_28 rfl (.tail _ (.head _)) rfl rfl rfl (Nat.le_of_ble_eq_true rfl) ?_
    refine AOps.aD rfl rfl rfl rfl rfl (.nil ?_)
    refine AWP.ret ?_
    refine ⟨RetR.agg rfl (.tail _ (.head _)) ag_28 rfl (.cons (by first | exact CellD.nil | exact CellD.d | exact CellD.eq (by simp) | (refine CellD.own (by first | exact .head _ | exact .tail _ (.head _)) ?_; rfl)) (.cons (by first | exact CellD.nil | exact CellD.d | exact CellD.eq (by simp) | (refine CellD.own (by first | exact .head _ | exact .tail _ (.head _)) ?_; rfl)) (.cons (by first | exact CellD.nil | exact CellD.d | exact CellD.eq (by simp) | (refine CellD.own (by first | exact .head _ | exact .tail _ (.head _)) ?_; rfl)) (.cons (by first | exact CellD.nil | exact CellD.d | exact CellD.eq (by simp) | (refine CellD.own (by first | exact .head _ | exact .tail _ (.head _)) ?_; rfl)) .nil)))), RetD.eq rfl ?_, trivial⟩
    all_goals (rfl)
  replace h3 := of_decide_eq_false h3
  rw [comp_0 hx0 hy0 (by first | exact h3 | omega)]
  refine AWP.skip ?_
  refine AWP.seq (AWP.region ?_)
  refine AOps.step rfl rfl rfl (AOp.loadAgg rfl ag_28 rfl rfl) ?_
  refine AOps.store rfl rfl rfl sz_28 rfl (.tail _ (.head _)) rfl rfl rfl (Nat.le_of_ble_eq_true rfl) ?_
  refine AOps.aD rfl rfl rfl rfl rfl (.nil ?_)
  refine AWP.ret ?_
  refine ⟨RetR.agg rfl (.tail _ (.head _)) ag_28 rfl (.cons (by first | exact CellD.nil | exact CellD.d | exact CellD.eq (by simp) | (refine CellD.own (by first | exact .head _ | exact .tail _ (.head _)) ?_; rfl)) (.cons (by first | exact CellD.nil | exact CellD.d | exact CellD.eq (by simp) | (refine CellD.own (by first | exact .head _ | exact .tail _ (.head _)) ?_; rfl)) (.cons (by first | exact CellD.nil | exact CellD.d | exact CellD.eq (by simp) | (refine CellD.own (by first | exact .head _ | exact .tail _ (.head _)) ?_; rfl)) (.cons (by first | exact CellD.nil | exact CellD.d | exact CellD.eq (by simp) | (refine CellD.own (by first | exact .head _ | exact .tail _ (.head _)) ?_; rfl)) .nil)))), RetD.eq rfl ?_, trivial⟩
  all_goals (rfl)

end Go.Proofs.YtcilhhkmgebkeaaGreatDoor


namespace Go.Proofs.YtcilhhkmgebkeaaGreatDoor
open Go.RowKit
set_option linter.unusedVariables false

/-! Types. -/
namespace TyLQ
theorem ag_25 : AggT Tryz.prog 25 2 := .of (by kernel_rfl)
theorem ag_28 : AggT Tryz.prog 28 4 := .of (by kernel_rfl)
theorem ag_51 : AggT Tryz.prog 51 2 := .of (by kernel_rfl)
theorem bu_28 : StructT Tryz.prog 28 (fun i => (#[(0, 1), (1, 1), (2, 1), (3, 1)] : Array (Nat × Nat))[i]?) [(.slice none 0 0), (.slice none 0 0), (.slice none 0 0), (.slice none 0 0)] := .of (by kernel_rfl) (by kernel_rfl) (by decide)
theorem et_26 : ElemTy Tryz.prog 26 3 1 8 (.int .i64 0) := ⟨by kernel_rfl, by kernel_rfl, by kernel_rfl, by decide⟩
theorem fo_51_0 : fieldOff Tryz.prog 51 0 = some 0 := by kernel_rfl
theorem fo_51_1 : fieldOff Tryz.prog 51 1 = some 1 := by kernel_rfl
theorem sc_48 : Scal Tryz.prog 48 := .of (by kernel_rfl)
theorem sc_49 : Scal Tryz.prog 49 := .of (by kernel_rfl)
theorem sz_25 : ∀ w, (sizeOf 25).run Tryz.prog w = .ok 2 w := SizeT.of (by kernel_rfl)
theorem sz_28 : ∀ w, (sizeOf 28).run Tryz.prog w = .ok 4 w := SizeT.of (by kernel_rfl)
theorem sz_51 : ∀ w, (sizeOf 51).run Tryz.prog w = .ok 2 w := SizeT.of (by kernel_rfl)
theorem zt_25 : (Tryz.prog.info? 25).bind (·.zero) = some (.agg #[(.slice none 0 0), (.slice none 0 0)]) := by kernel_rfl
theorem zt_28 : (Tryz.prog.info? 28).bind (·.zero) = some (.agg #[(.slice none 0 0), (.slice none 0 0), (.slice none 0 0), (.slice none 0 0)]) := by kernel_rfl
theorem zt_51 : (Tryz.prog.info? 51).bind (·.zero) = some (.agg #[(.map none), (.map none)]) := by kernel_rfl
end TyLQ
open TyLQ


end Go.Proofs.YtcilhhkmgebkeaaGreatDoor


namespace Go.Proofs.YtcilhhkmgebkeaaGreatDoor
open Go.RowKit
set_option linter.unusedVariables false

/-! Types. -/
namespace TyLR

end TyLR
open TyLR


set_option linter.unusedSimpArgs false
set_option linter.unusedSectionVars false
section
variable {β : Type} [DecidableEq β]
/-- Numbers that rise. -/
def UpL (l : List Int) : Prop := l.Pairwise fun x y => x < y
/-- A half of a catalogue behind a half of a change. -/
def stepG (E P : GL β) (l : List Int) : GL β := valsG (putAll (ofE E) (xE P l))
theorem now_nk (E : GL β) (X : GL (Option β)) : NkG (putAll (ofE E) X) := putAll_nk (ofE_nk _)
theorem step_ri (E P : GL β) (l : List Int) : RiK (stepG E P l) := valsG_ri (now_nk _ _)
theorem now_find {E P : GL β} {l : List Int} (hE : NkG E) (hP : NkG P) (hl : UpL l) (k : Int) : findG (putAll (ofE E) (xE P l)) k = if k ∈ l then some none else match findG P k with | some v => some (some v) | none => (findG E k).map some := by
  rw [putAll_find (xE_nk P l), xE_find hP hl, ofE_find hE]
  by_cases hk : k ∈ l
  · rw [if_pos hk, if_pos hk]
  · rw [if_neg hk, if_neg hk]; cases findG P k <;> rfl
theorem step_find {E P : GL β} {l : List Int} (hE : NkG E) (hP : NkG P) (hl : UpL l) (k : Int) : findG (stepG E P l) k = if k ∈ l then none else match findG P k with | some v => some v | none => findG E k := by
  unfold stepG
  rw [valsG_find (now_nk _ _), now_find hE hP hl]
  by_cases hk : k ∈ l
  · rw [if_pos hk, if_pos hk]; rfl
  · rw [if_neg hk, if_neg hk]
    cases findG P k with
    | some v => rfl
    | none => cases findG E k <;> rfl
/-- F leads from A to B. -/
structure IsDif (F : GL (Option β)) (A B : GL β) : Prop where
  nk : NkG F
  find : ∀ k, findG F k = if findG A k = findG B k then none else some (findG B k)
/-- One change behind another. -/
theorem comp_step {E P Q : GL β} {l m : List Int} (hE : NkG E) (hP : NkG P) (hQ : NkG Q) (hl : UpL l) (hm : UpL m) :
    stepG E (valsG (putAll (xE P l) (xE Q m))) (noneG (putAll (xE P l) (xE Q m))) = stepG (stepG E P l) Q m := by
  have nz : NkG (putAll (xE P l) (xE Q m)) := putAll_nk (xE_nk _ _)
  have fz : ∀ k, findG (putAll (xE P l) (xE Q m)) k = if k ∈ m then some none else match findG Q k with | some v => some (some v) | none => if k ∈ l then some none else (findG P k).map some := fun k => by
    rw [putAll_find (xE_nk Q m), xE_find hQ hm, xE_find hP hl]
    by_cases hk : k ∈ m
    · rw [if_pos hk, if_pos hk]
    · rw [if_neg hk, if_neg hk]; cases findG Q k <;> rfl
  refine rik_ext (step_ri _ _ _) (step_ri _ _ _) fun k => ?_
  rw [step_find hE (valsG_ri nz).nk (noneG_up nz), step_find (step_ri _ _ _).nk hQ hm, step_find hE hP hl, valsG_find nz]
  have hno : k ∈ noneG (putAll (xE P l) (xE Q m)) ↔ findG (putAll (xE P l) (xE Q m)) k = some none := noneG_mem
  rw [fz] at hno ⊢
  by_cases h1 : k ∈ m
  · rw [if_pos h1] at hno ⊢
    rw [if_pos (hno.2 rfl), if_pos h1]
  · rw [if_neg h1] at hno ⊢
    rw [if_neg h1]
    cases h2 : findG Q k with
    | some v =>
      rw [h2] at hno
      rw [if_neg (fun h => by have := hno.1 h; cases this)]; rfl
    | none =>
      rw [h2] at hno
      dsimp only at hno ⊢
      by_cases h3 : k ∈ l
      · rw [if_pos h3] at hno ⊢
        rw [if_pos (hno.2 rfl), if_pos h3]
      · rw [if_neg h3] at hno ⊢
        rw [if_neg h3]
        cases h4 : findG P k with
        | some v => rw [h4] at hno; rw [if_neg (fun h => by have := hno.1 h; cases this)]; rfl
        | none => rw [h4] at hno; rw [if_neg (fun h => by have := hno.1 h; cases this)]; rfl
end
/-! ## Things and ids -/
theorem idxL_vals {T : TL} (h : ∀ p ∈ valsG T, p.2.id = p.1) : idxL ((valsG T).map (·.2)) = valsG T := by
  unfold idxL
  rw [List.map_map]
  have h1 : ∀ p ∈ valsG T, ((fun t : Thg => (t.id, t)) ∘ fun x : Int × Thg => x.2) p = id p := fun p hp => Prod.ext (h p hp) rfl
  rw [List.map_congr_left h1, List.map_id]
theorem mvL_vals (M : ML) : mvL ((valsG M).map mvO) = valsG M := by
  unfold mvL
  rw [List.map_map]
  have h1 : ∀ p ∈ valsG M, ((fun x : Mvd => (x.src, x.dst)) ∘ mvO) p = id p := fun p hp => rfl
  rw [List.map_congr_left h1, List.map_id]
theorem idxL_inj {a b : List Thg} (h : idxL a = idxL b) : a = b := by
  have := congrArg (List.map (·.2)) h
  unfold idxL at this
  simpa [List.map_map, Function.comp_def] using this
theorem mvL_inj {a b : List Mvd} (h : mvL a = mvL b) : a = b := by
  have := congrArg (List.map mvO) h
  unfold mvL at this
  simpa [List.map_map, Function.comp_def, mvO] using this
/-- The things stand at their own numbers. -/
def IdT (T : TL) : Prop := ∀ p ∈ T, ∀ t, p.2 = some t → t.id = p.1
theorem IdT.vals {T : TL} (hN : NkG T) (h : IdT T) : ∀ p ∈ valsG T, p.2.id = p.1 := fun p hp => by
  have h1 := (mem_find (valsG_ri hN).nk).1 hp
  rw [valsG_find hN] at h1
  cases hf : findG T p.1 with
  | none => rw [hf] at h1; cases h1
  | some o => rw [hf] at h1; exact h _ (find_mem hf) p.2 h1
theorem IdT.put {L E : TL} (h : IdT L) (hE : IdT E) : IdT (putAll L E) := fun p hp => (putAll_mem hp).elim (hE p) (h p)
theorem IdT.nil : IdT [] := fun p hp => by cases hp
theorem IdT.ofE (l : List Thg) : IdT (ofE (idxL l)) := IdT.nil.put fun p hp t ht => by
  simp only [lookE, idxL, List.map_map, List.mem_map] at hp
  obtain ⟨u, _, rfl⟩ := hp
  obtain rfl := Option.some.inj ht; rfl
theorem IdT.xE (l : List Thg) (g : List Int) : IdT (xE (idxL l) g) := (IdT.ofE l).put fun p hp t ht => by
  obtain ⟨n, _, rfl⟩ := List.mem_map.1 hp
  cases ht
/-! ## Right catalogues, right changes -/
theorem rikT {l : List Thg} (h : RisT l) : RiK (idxL l) := by
  unfold RiK idxL
  rw [List.pairwise_map]
  exact List.pairwise_iff_getElem.2 fun i j hi hj hij => h.up i j hi hj hij
theorem rikM {l : List Mvd} (h : RisM l) : RiK (mvL l) := by
  unfold RiK mvL
  rw [List.pairwise_map]
  exact List.pairwise_iff_getElem.2 fun i j hi hj hij => h.up i j hi hj hij
theorem up_all {l : List Int} (h : upF (atI l) l.length = true) : UpL l := by
  have h1 := up_iff.1 h
  have h2 : ∀ d i, (hi : i + d + 1 < l.length) → l[i]'(by omega) < l[i + d + 1] := by
    intro d
    induction d with
    | zero =>
      intro i hi
      have := h1 (i + 1) (by omega) (by omega)
      rw [atI_eq (by omega), atI_eq (by omega)] at this
      simpa using this
    | succ d ih =>
      intro i hi
      have := h1 (i + d + 1 + 1) (by omega) (by omega)
      rw [atI_eq (by omega), atI_eq (by omega)] at this
      have h3 := ih i (by omega)
      have h4 : l[i + d + 1 + 1 - 1]'(by omega) = l[i + d + 1]'(by omega) := by congr 1
      rw [h4] at this
      exact Int.lt_trans h3 this
  exact List.pairwise_iff_getElem.2 fun i j hi hj hij => by
    obtain ⟨d, rfl⟩ : ∃ d, j = i + d + 1 := ⟨j - i - 1, by omega⟩
    exact h2 d i hj
theorem all_up {l : List Int} (h : UpL l) : upF (atI l) l.length = true := up_iff.2 fun j h1 h2 => by
  rw [atI_eq (by omega), atI_eq h2]
  exact List.pairwise_iff_getElem.1 h (j - 1) j (by omega) h2 (by omega)
structure XOk (x : Chg) : Prop where
  lim : LimX x
  put : RiK (idxL x.put)
  drop : UpL x.drop
  add : RiK (mvL x.add)
  back : UpL x.back
theorem xOk {x : Chg} (h : chgF x = 0) : XOk x := by
  have hl := limX h
  unfold chgF at h
  have hL : ¬ (300 < x.put.length ∨ 300 < x.drop.length ∨ 300 < x.add.length ∨ 300 < x.back.length) := by obtain ⟨h1, h2, h3, h4⟩ := hl; omega
  rw [if_neg hL] at h
  by_cases hu : upF (atI (x.put.map Thg.id)) x.put.length = true ∧ upF (atI x.drop) x.drop.length = true ∧ upF (atI (x.add.map Mvd.src)) x.add.length = true ∧ upF (atI x.back) x.back.length = true
  · obtain ⟨h1, h2, h3, h4⟩ := hu
    have u1 := up_all (l := x.put.map Thg.id) (by rw [List.length_map]; exact h1)
    have u3 := up_all (l := x.add.map Mvd.src) (by rw [List.length_map]; exact h3)
    exact ⟨hl, List.pairwise_map.2 (List.pairwise_map.1 u1), up_all h2, List.pairwise_map.2 (List.pairwise_map.1 u3), up_all h4⟩
  · rw [if_pos hu] at h; omega
theorem chgO_F {T : TL} {M : ML} (nT : NkG T) (nM : NkG M) (hI : IdT T) : chgF (chgO T M) = if 300 < (valsG T).length ∨ 300 < (noneG T).length ∨ 300 < (valsG M).length ∨ 300 < (noneG M).length then 2 else 0 := by
  have l1 : (chgO T M).put.length = (valsG T).length := List.length_map ..
  have l3 : (chgO T M).add.length = (valsG M).length := List.length_map ..
  have hid := hI.vals nT
  have m1 : (chgO T M).put.map Thg.id = (valsG T).map (·.1) := by
    show ((valsG T).map (·.2)).map Thg.id = _
    rw [List.map_map]
    exact List.map_congr_left fun p hp => hid p hp
  have m3 : (chgO T M).add.map Mvd.src = (valsG M).map (·.1) := by
    show ((valsG M).map mvO).map Mvd.src = _
    rw [List.map_map]; rfl
  have u1 : upF (atI ((chgO T M).put.map Thg.id)) (chgO T M).put.length = true := by
    rw [m1, l1]
    have hr : RiK (valsG T) := valsG_ri nT
    have := all_up (l := (valsG T).map (·.1)) (by unfold UpL; rw [List.pairwise_map]; exact hr)
    rw [List.length_map] at this; exact this
  have u3 : upF (atI ((chgO T M).add.map Mvd.src)) (chgO T M).add.length = true := by
    rw [m3, l3]
    have hr : RiK (valsG M) := valsG_ri nM
    have := all_up (l := (valsG M).map (·.1)) (by unfold UpL; rw [List.pairwise_map]; exact hr)
    rw [List.length_map] at this; exact this
  have meet : ∀ {β : Type} {L : GL (Option β)}, NkG L → ∀ k, k ∈ (valsG L).map (·.1) → ¬ k ∈ noneG L := fun {β L} nL k hk hn => by
    obtain ⟨p, hp, rfl⟩ := List.mem_map.1 hk
    have h1 := (mem_find (valsG_ri nL).nk).1 hp
    rw [valsG_find nL, noneG_mem.1 hn] at h1; cases h1
  have nomeet : ∀ {a b : List Int}, (∀ k ∈ a, ¬ k ∈ b) → meetB a b = false := fun {a b} h => by
    rw [Bool.eq_false_iff]
    intro hh
    obtain ⟨n, hn, h2⟩ := List.any_eq_true.1 hh
    exact h n hn (of_decide_eq_true h2)
  unfold chgF
  by_cases hL : 300 < (valsG T).length ∨ 300 < (noneG T).length ∨ 300 < (valsG M).length ∨ 300 < (noneG M).length
  · rw [if_pos hL, if_pos (by rw [l1, l3]; exact hL)]
  · rw [if_neg hL, if_neg (by rw [l1, l3]; exact hL), if_neg (fun h => h ⟨u1, all_up (noneG_up nT), u3, all_up (noneG_up nM)⟩), if_neg]
    rintro (h | h)
    · have h2 := nomeet (meet nT)
      rw [← m1] at h2
      exact absurd (h.symm.trans h2) (by decide)
    · have h2 := nomeet (meet nM)
      rw [← m3] at h2
      exact absurd (h.symm.trans h2) (by decide)


end Go.Proofs.YtcilhhkmgebkeaaGreatDoor


namespace Go.Proofs.YtcilhhkmgebkeaaGreatDoor
open Go.RowKit
set_option linter.unusedVariables false

/-! Types. -/
namespace TyLS

end TyLS
open TyLS


set_option linter.unusedSimpArgs false
theorem nowT_id (c : Ctl) (x : Chg) : IdT (nowT c x) := (IdT.ofE _).put (IdT.xE _ _)
theorem out_things (c : Ctl) (x : Chg) : idxL (outC c x).things = stepG (idxL c.things) (idxL x.put) x.drop := idxL_vals ((nowT_id c x).vals (nowT_nk c x))
theorem out_moved (c : Ctl) (x : Chg) : mvL (outC c x).moved = stepG (mvL c.moved) (mvL x.add) x.back := mvL_vals _
theorem ctl_ext {a b : Ctl} (h1 : idxL a.things = idxL b.things) (h2 : mvL a.moved = mvL b.moved) : a = b := by
  cases a; cases b
  dsimp only at h1 h2
  rw [idxL_inj h1, mvL_inj h2]
theorem chgO_put {T : TL} {M : ML} (nT : NkG T) (h : IdT T) : idxL (chgO T M).put = valsG T := idxL_vals (h.vals nT)
theorem chgO_add {T : TL} {M : ML} : mvL (chgO T M).add = valsG M := mvL_vals _
theorem nkT {c : Ctl} (h : chkF c = 0) : RiK (idxL c.things) := rikT (catOk h).ris
theorem nkM {c : Ctl} (h : chkF c = 0) : RiK (mvL c.moved) := rikM (catOk h).rism
theorem apply_ok {c : Ctl} {x : Chg} (h : (applyV c x).2.2 = 0) : chkF c = 0 ∧ chgF x = 0 ∧ chkF (outC c x) = 0 ∧ applyV c x = (outC c x, backX c x, 0) := by
  by_cases h1 : chkF c = 0
  · by_cases h2 : chgF x = 0
    · rw [applyV_0 h1 h2] at h ⊢
      by_cases h3 : chkF (outC c x) = 0
      · exact ⟨h1, h2, h3, app_0 h3⟩
      · rw [app_f h3] at h; exact absurd h h3
    · rw [applyV_x h1 h2] at h; exact absurd h h2
  · rw [applyV_c h1] at h; exact absurd h h1
theorem apply_bad {c : Ctl} {x : Chg} (h : (applyV c x).2.2 ≠ 0) : (applyV c x).1.things = [] := by
  by_cases h1 : chkF c = 0
  · by_cases h2 : chgF x = 0
    · rw [applyV_0 h1 h2] at h ⊢
      by_cases h3 : chkF (outC c x) = 0
      · rw [app_0 h3] at h; exact absurd rfl h
      · rw [app_f h3]; rfl
    · rw [applyV_x h1 h2]; rfl
  · rw [applyV_c h1]; rfl
theorem apply_to {c : Ctl} {x : Chg} {d : Ctl} (hc : chkF c = 0) (hx : chgF x = 0) (ho : outC c x = d) (hd : chkF d = 0) : applyV c x = (d, backX c x, 0) := by
  rw [applyV_0 hc hx, app_0 (by rw [ho]; exact hd), ho]
/-- 33 -/
theorem composes {c : Ctl} {x y : Chg} (h : (applyV c x).2.2 = 0) (h' : (applyV (applyV c x).1 y).2.2 = 0) :
    ((composeV x y).2 ≠ 0 → (composeV x y).2 = 2) ∧ ((composeV x y).2 = 0 → applyV c (composeV x y).1 = ((applyV (applyV c x).1 y).1, backX c (compX x y), 0)) := by
  obtain ⟨hc, hx, ho, he⟩ := apply_ok h
  obtain ⟨_, hy, ho2, he2⟩ := apply_ok h'
  rw [he2]
  rw [he] at ho2 ⊢
  dsimp only at ho2 ⊢
  have nT : NkG (cmpT x y) := putAll_nk (xE_nk _ _)
  have nM : NkG (cmpM x y) := putAll_nk (xE_nk _ _)
  have hI : IdT (cmpT x y) := (IdT.xE _ _).put (IdT.xE _ _)
  have hF := chgO_F nT nM hI
  have hv : composeV x y = if chgF (compX x y) = 0 then (compX x y, 0) else (zX, chgF (compX x y)) := by unfold composeV; rw [if_pos hx, if_pos hy]
  have hF' : chgF (compX x y) = 0 ∨ chgF (compX x y) = 2 := by
    unfold compX
    rw [hF]
    split
    · exact .inr rfl
    · exact .inl rfl
  rw [hv]
  rcases hF' with h0 | h2
  · rw [if_pos h0]
    refine ⟨fun hh => absurd rfl hh, fun _ => ?_⟩
    refine apply_to hc h0 ?_ ho2
    refine ctl_ext ?_ ?_
    · rw [out_things, out_things, out_things]
      unfold compX
      rw [chgO_put nT hI]
      exact comp_step (nkT hc).nk (xOk hx).put.nk (xOk hy).put.nk (xOk hx).drop (xOk hy).drop
    · rw [out_moved, out_moved, out_moved]
      unfold compX
      rw [chgO_add]
      exact comp_step (nkM hc).nk (xOk hx).add.nk (xOk hy).add.nk (xOk hx).back (xOk hy).back
  · rw [if_neg (by omega)]
    exact ⟨fun _ => h2, fun hh => by dsimp only at hh; omega⟩
end Go.Proofs.YtcilhhkmgebkeaaGreatDoor


namespace Go.Proofs.YtcilhhkmgebkeaaGreatDoor
open Go.RowKit
set_option linter.unusedVariables false

/-! Types. -/
namespace TyLT
theorem ag_67 : AggT Tryz.prog 67 7 := .of (by kernel_rfl)
theorem et_22 : ElemTy Tryz.prog 22 67 7 88 (.agg #[(.int .i64 0), (.int .i64 0), (.string ⟨#[]⟩), (.string ⟨#[]⟩), (.int .i64 0), (.int .i64 0), (.slice none 0 0)]) := ⟨by kernel_rfl, by kernel_rfl, by kernel_rfl, by decide⟩
theorem fo_25_0 : fieldOff Tryz.prog 25 0 = some 0 := by kernel_rfl
theorem fo_25_1 : fieldOff Tryz.prog 25 1 = some 1 := by kernel_rfl
theorem fo_28_0 : fieldOff Tryz.prog 28 0 = some 0 := by kernel_rfl
theorem fo_28_1 : fieldOff Tryz.prog 28 1 = some 1 := by kernel_rfl
theorem fo_28_2 : fieldOff Tryz.prog 28 2 = some 2 := by kernel_rfl
theorem fo_28_3 : fieldOff Tryz.prog 28 3 = some 3 := by kernel_rfl
theorem sc_22 : Scal Tryz.prog 22 := .of (by kernel_rfl)
theorem sc_23 : Scal Tryz.prog 23 := .of (by kernel_rfl)
theorem sc_26 : Scal Tryz.prog 26 := .of (by kernel_rfl)
end TyLT
open TyLT

set_option maxRecDepth 100000 in
set_option maxHeartbeats 1000000 in
theorem c_sameTs (l r : List Thg) : ACall Tryz.prog 21 [.sl (l.map Thg.ds), .sl (r.map Thg.ds)] (.v (.bool (decide (l = r)))) := by
  refine acall_of (n := 27) (ds' := [.v (.bool (decide (l = r)))]) Tryz.func21 rfl (by kernel_rfl) rfl [4] rfl rfl ?_
  intro B w0 F0 fr
  refine AWP.bound 0 rfl (fun hbd0 => ?_)
  rw [List.length_map] at hbd0
  refine AWP.bound 1 rfl (fun hbd1 => ?_)
  rw [List.length_map] at hbd1
  refine AWP.seq (AWP.region ?_)
  refine AOps.aD rfl rfl rfl rfl rfl (.nil ?_)
  refine AWP.seq ?_
  refine AWP.seq (AWP.region ?_)
  refine AOps.mD rfl rfl rfl rfl rfl ?_
  refine AOps.step rfl rfl rfl (AOp.lenSl rfl et_22.ht rfl) ?_
  refine AOps.mD rfl rfl rfl rfl rfl ?_
  refine AOps.step rfl rfl rfl (AOp.lenSl rfl et_22.ht rfl) ?_
  refine AOps.step rfl rfl rfl (AOp.neq rfl rfl rfl) (.nil ?_)
  refine AWP.cond rfl (fun h1 => ?_) (fun h1 => ?_)
  · replace h1 := of_decide_eq_true h1
    rw [List.length_map, List.length_map] at h1
    rw [decide_eq_false (show ¬ l = r from fun e => h1 (by rw [e]))]
    refine AWP.seq (AWP.region ?_)
    refine AOps.aD rfl rfl rfl rfl rfl (.nil ?_)
    refine AWP.ret ?_
    refine ⟨RetD.eq rfl ?_, trivial⟩
    all_goals (rfl)
  replace h1 := of_decide_eq_false h1
  rw [List.length_map, List.length_map] at h1
  have hle : l.length = r.length := by omega
  refine AWP.skip ?_
  refine AWP.seq ?_
  refine AWP.seq (AWP.region ?_)
  refine AOps.mD rfl rfl rfl rfl rfl ?_
  refine AOps.step rfl rfl rfl (AOp.lenSl rfl et_22.ht rfl) ?_
  refine AOps.mD rfl rfl rfl rfl rfl (.nil ?_)
  refine AWP.block ?_
  refine AWP.loop (G := Nat) (fun k => Env.of [(13, .d (.v (.int .i64 (k : Int)))), (0, .d (.sl (l.map Thg.ds))), (1, .d (.sl (r.map Thg.ds))), (12, .d (.v (.int .i64 ((l.map Thg.ds).length : Int))))]) (fun k => []) (fun k => k ≤ l.length ∧ l.take k = r.take k) (fun k => l.length - k) 0 ⟨Nat.zero_le _, by simp⟩ (Sub.less ⟨(SLe.of_eq rfl), SLe.refl _, SLe.refl _, SLe.refl _, trivial⟩ (fun _ h => h)) ?_
  intro k hk
  refine AWP.seq (AWP.region ?_)
  refine AOps.step rfl rfl rfl (AOp.lss rfl rfl rfl) (.nil ?_)
  refine AWP.seq ?_
  refine AWP.cond rfl (fun h2 => ?_) (fun h2 => ?_)
  · replace h2 := of_decide_eq_true h2
    rw [List.length_map] at h2
    have hlt : k < l.length := by omega
    have hlr : k < r.length := by omega
    refine AWP.skip ?_
    refine AWP.seq ?_
    refine AWP.block ?_
    refine AWP.seq (AWP.region ?_)
    refine AOps.mD rfl rfl rfl rfl rfl ?_
    refine AOps.aD rfl rfl rfl rfl rfl (.nil ?_)
    refine AWP.seq ?_
    refine AWP.draw (by kernel_rfl) (by kernel_rfl) ?_
    refine DRun.step rfl rfl rfl (AOp.moveD rfl rfl) ?_
    refine DRun.step rfl rfl rfl (AOp.moveD rfl rfl) ?_
    refine DRun.step rfl rfl rfl (AOp.indexAddr rfl et_22 rfl rfl k rfl (at_lst hlt) rfl) ?_
    refine DRun.step rfl rfl rfl (AOp.loadAgg rfl ag_67 rfl rfl) ?_
    refine DRun.step rfl rfl rfl (AOp.moveD rfl rfl) ?_
    refine DRun.step rfl rfl rfl (AOp.moveD rfl rfl) ?_
    refine DRun.step rfl rfl rfl (AOp.indexAddr rfl et_22 rfl rfl k rfl (at_lst hlr) rfl) ?_
    refine DRun.step rfl rfl rfl (AOp.loadAgg rfl ag_67 rfl rfl) ?_
    refine DRun.step rfl rfl rfl (AOp.call rfl (.cons (ArgOk.rfl' rfl) (.cons (ArgOk.rfl' rfl) .nil)) (c_same _ _)) ?_
    refine DRun.step rfl rfl rfl (AOp.not rfl rfl) ?_
    refine DRun.nil ?_
    refine AWP.cond rfl (fun h3 => ?_) (fun h3 => ?_)
    · replace h3 := bnot_t h3; replace h3 := of_decide_eq_false h3
      rw [decide_eq_false (show ¬ l = r from fun e => h3 (by subst e; rfl))]
      refine AWP.seq (AWP.region ?_)
      refine AOps.aD rfl rfl rfl rfl rfl (.nil ?_)
      refine AWP.ret ?_
      refine ⟨RetD.eq rfl ?_, trivial⟩
      all_goals (rfl)
    replace h3 := bnot_f h3; replace h3 := of_decide_eq_true h3
    have hT := take_eq hlt hlr hk.2 (by first | exact h3 | exact Decidable.not_not.1 h3)
    refine AWP.skip ?_
    refine AWP.region ?_
    refine AOps.step rfl rfl rfl (AOp.add64 rfl rfl rfl (by omega) (by omega)) ?_
    refine AOps.mD rfl rfl rfl rfl rfl (.nil ?_)
    refine ⟨k + 1, ⟨by omega, hT⟩, (by dsimp only; omega), Sub.less ⟨(SLe.of_eq rfl), SLe.refl _, SLe.refl _, SLe.refl _, trivial⟩ (fun _ h => h)⟩
  replace h2 := of_decide_eq_false h2
  rw [List.length_map] at h2
  obtain rfl : k = l.length := by omega
  rw [decide_eq_true (take_all_eq hle hk.2)]
  refine AWP.exit ?_
  refine AWP.seq (AWP.region ?_)
  refine AOps.aD rfl rfl rfl rfl rfl (.nil ?_)
  refine AWP.ret ?_
  refine ⟨RetD.eq rfl ?_, trivial⟩
  all_goals (rfl)


theorem ctl_dec {a b : Ctl} (h : a.things = b.things) : decide (a.moved = b.moved) = decide (a = b) := by
  cases a; cases b
  dsimp only at h ⊢
  subst h
  simp
set_option maxRecDepth 100000 in
set_option maxHeartbeats 1000000 in
theorem c_sameC (a b : Ctl) : ACall Tryz.prog 9 [.agg a.ds, .agg b.ds] (.v (.bool (decide (a = b)))) := by
  refine acall_of (n := 17) (ds' := [.v (.bool (decide (a = b)))]) Tryz.func9 rfl (by kernel_rfl) rfl [4] rfl rfl ?_
  intro B w0 F0 fr
  refine AWP.seq (AWP.region ?_)
  refine AOps.step rfl rfl rfl (AOp.box rfl rfl rfl) ?_
  refine AOps.step rfl rfl rfl (AOp.box rfl rfl rfl) ?_
  refine AOps.aD rfl rfl rfl rfl rfl (.nil ?_)
  refine AWP.seq (AWP.region ?_)
  refine AOps.step rfl rfl rfl (AOp.fieldAddr rfl fo_25_0 rfl) ?_
  refine AOps.step rfl rfl rfl (AOp.load rfl sc_22 rfl) ?_
  refine AOps.step rfl rfl rfl (AOp.fieldAddr rfl fo_25_0 rfl) ?_
  refine AOps.step rfl rfl rfl (AOp.load rfl sc_22 rfl) ?_
  refine AOps.step rfl rfl rfl (AOp.call rfl (.cons (ArgOk.rfl' rfl) (.cons (ArgOk.rfl' rfl) .nil)) (c_sameTs _ _)) ?_
  refine AOps.mD rfl rfl rfl rfl rfl ?_
  refine AOps.split 10 rfl (fun g1 => ?_) (fun g1 => ?_)
  · replace g1 := of_decide_eq_true g1
    rw [← ctl_dec g1]
    refine AOps.step ⟨10, rfl, .inl ⟨_, rfl, rfl⟩⟩ rfl rfl (AOp.fieldAddr rfl fo_25_1 rfl) ?_
    refine AOps.step ⟨10, rfl, .inl ⟨_, rfl, rfl⟩⟩ rfl rfl (AOp.load rfl sc_23 rfl) ?_
    refine AOps.step ⟨10, rfl, .inl ⟨_, rfl, rfl⟩⟩ rfl rfl (AOp.fieldAddr rfl fo_25_1 rfl) ?_
    refine AOps.step ⟨10, rfl, .inl ⟨_, rfl, rfl⟩⟩ rfl rfl (AOp.load rfl sc_23 rfl) ?_
    refine AOps.step ⟨10, rfl, .inl ⟨_, rfl, rfl⟩⟩ rfl rfl (AOp.call rfl (.cons (ArgOk.rfl' rfl) (.cons (ArgOk.rfl' rfl) .nil)) (c_eqM _ _)) ?_
    refine AOps.step rfl rfl rfl (AOp.pickT rfl rfl rfl) ?_
    refine AOps.aD rfl rfl rfl rfl rfl (.nil ?_)
    refine AWP.ret ?_
    refine ⟨RetD.eq rfl ?_, trivial⟩
    all_goals (rfl)
  replace g1 := of_decide_eq_false g1
  rw [decide_eq_false (show ¬ a = b from fun e => g1 (by rw [e]))]
  refine AOps.pass ⟨10, rfl, .inl ⟨_, rfl, rfl⟩⟩ rfl rfl ?_
  refine AOps.pass ⟨10, rfl, .inl ⟨_, rfl, rfl⟩⟩ rfl rfl ?_
  refine AOps.pass ⟨10, rfl, .inl ⟨_, rfl, rfl⟩⟩ rfl rfl ?_
  refine AOps.pass ⟨10, rfl, .inl ⟨_, rfl, rfl⟩⟩ rfl rfl ?_
  refine AOps.pass ⟨10, rfl, .inl ⟨_, rfl, rfl⟩⟩ rfl rfl ?_
  refine AOps.step rfl rfl rfl (AOp.pickF rfl rfl rfl) ?_
  refine AOps.aD rfl rfl rfl rfl rfl (.nil ?_)
  refine AWP.ret ?_
  refine ⟨RetD.eq rfl ?_, trivial⟩
  all_goals (rfl)

end Go.Proofs.YtcilhhkmgebkeaaGreatDoor


namespace Go.Proofs.YtcilhhkmgebkeaaGreatDoor
open Go.RowKit
set_option linter.unusedVariables false

/-! Types. -/
namespace TyLU
theorem ag_25 : AggT Tryz.prog 25 2 := .of (by kernel_rfl)
theorem ag_28 : AggT Tryz.prog 28 4 := .of (by kernel_rfl)
theorem et_22 : ElemTy Tryz.prog 22 67 7 88 (.agg #[(.int .i64 0), (.int .i64 0), (.string ⟨#[]⟩), (.string ⟨#[]⟩), (.int .i64 0), (.int .i64 0), (.slice none 0 0)]) := ⟨by kernel_rfl, by kernel_rfl, by kernel_rfl, by decide⟩
theorem fo_25_0 : fieldOff Tryz.prog 25 0 = some 0 := by kernel_rfl
theorem sc_22 : Scal Tryz.prog 22 := .of (by kernel_rfl)
theorem sz_25 : ∀ w, (sizeOf 25).run Tryz.prog w = .ok 2 w := SizeT.of (by kernel_rfl)
theorem sz_28 : ∀ w, (sizeOf 28).run Tryz.prog w = .ok 4 w := SizeT.of (by kernel_rfl)
theorem zt_25 : (Tryz.prog.info? 25).bind (·.zero) = some (.agg #[(.slice none 0 0), (.slice none 0 0)]) := by kernel_rfl
theorem zt_28 : (Tryz.prog.info? 28).bind (·.zero) = some (.agg #[(.slice none 0 0), (.slice none 0 0), (.slice none 0 0), (.slice none 0 0)]) := by kernel_rfl
end TyLU
open TyLU


theorem comp_in {x y : Chg} (hx : XIn x) (hy : XIn y) : XIn (compX x y) := by
  have nT : NkG (cmpT x y) := putAll_nk (xE_nk _ _)
  have nM : NkG (cmpM x y) := putAll_nk (xE_nk _ _)
  exact ⟨chgO_ok nT nM (hx.vT.put hy.vT) (hx.vM.put hy.vM), chgO_parts nT (hx.vT.put hy.vT)⟩
theorem zX_in : XIn zX := ⟨⟨fun t h => (nomatch h), fun t h => (nomatch h), fun t h => (nomatch h), fun t h => (nomatch h)⟩, fun t h => (nomatch h)⟩
theorem compV_in {x y : Chg} (hx : XIn x) (hy : XIn y) : XIn (composeV x y).1 := by
  unfold composeV
  split
  · split
    · split
      · exact comp_in hx hy
      · exact zX_in
    · exact zX_in
  · exact zX_in


set_option maxRecDepth 100000 in
set_option maxHeartbeats 1000000 in
theorem lawComp (c : Ctl) (x y : Chg) (hc : CtlOk c) (hx : XIn x) (hy : XIn y) : ACallT Tryz.prog MaxT 5 [.agg c.ds, .agg x.ds, .agg y.ds] (.v (.bool true)) := by
  refine acall_ofT (n := 77) (ds' := [.v (.bool true)]) Tryz.func5 rfl (by kernel_rfl) rfl [6] rfl rfl ?_
  intro B w0 F0 hT
  refine AWP.seq (AWP.region ?_)
  refine AOps.step rfl rfl rfl (AOp.box rfl rfl rfl) ?_
  refine AOps.step rfl rfl rfl (AOp.box rfl rfl rfl) ?_
  refine AOps.step rfl rfl rfl (AOp.box rfl rfl rfl) ?_
  refine AOps.aD rfl rfl rfl rfl rfl (.nil ?_)
  refine AWP.seq (AWP.region ?_)
  refine AOps.step rfl rfl rfl (AOp.loadAgg rfl ag_25 rfl rfl) ?_
  refine AOps.step rfl rfl rfl (AOp.loadAgg rfl ag_28 rfl rfl) ?_
  -- wants the world
  refine AOps.callT rfl rfl rfl hT maxT_stays rfl (.cons (ArgOk.rfl' rfl) (.cons (ArgOk.rfl' rfl) .nil)) (c_pApply c x hc hx) ?_
  refine AOps.mD rfl rfl rfl rfl rfl ?_
  refine AOps.step rfl rfl rfl (AOp.extract rfl rfl rfl) ?_
  refine AOps.step rfl rfl rfl (AOp.extract rfl rfl rfl) ?_
  refine AOps.step rfl rfl rfl (AOp.extract rfl rfl rfl) ?_
  refine AOps.alloc 101 rfl rfl rfl rfl zt_25 rfl rfl rfl ?_
  refine AOps.alloc 102 rfl rfl rfl rfl zt_28 rfl rfl rfl ?_
  refine AOps.store rfl rfl rfl sz_25 rfl (.tail _ (.head _)) rfl rfl rfl (Nat.le_of_ble_eq_true rfl) ?_
  refine AOps.freezeCells 7 (ds := (applyV c x).1.ds) rfl (.tail _ (.head _)) ?_
  refine AOps.store rfl rfl rfl sz_28 rfl (.head _) rfl rfl rfl (Nat.le_of_ble_eq_true rfl) ?_
  refine AOps.freezeCells 8 (ds := (applyV c x).2.1.ds) rfl (.head _) ?_
  refine AOps.aD rfl rfl rfl rfl rfl (.nil ?_)
  refine AWP.seq ?_
  refine AWP.seq (AWP.region ?_)
  refine AOps.mD rfl rfl rfl rfl rfl ?_
  refine AOps.step rfl rfl rfl (AOp.neq rfl rfl rfl) (.nil ?_)
  refine AWP.cond rfl (fun h1 => ?_) (fun h1 => ?_)
  · replace h1 := of_decide_eq_true h1
    have HB := apply_bad (c := c) (x := x) (by first | exact h1 | omega)
    refine AWP.seq (AWP.region ?_)
    refine AOps.step rfl rfl rfl (AOp.fieldAddr rfl fo_25_0 rfl) ?_
    refine AOps.step rfl rfl rfl (AOp.load rfl sc_22 rfl) ?_
    refine AOps.step rfl rfl rfl (AOp.lenSl rfl et_22.ht rfl) ?_
    refine AOps.step rfl rfl rfl (AOp.eql rfl rfl rfl) ?_
    refine AOps.mD rfl rfl rfl rfl rfl ?_
    refine AOps.split 28 rfl (fun g2 => ?_) (fun g2 => ?_)
    · replace g2 := of_decide_eq_true g2
      refine AOps.step ⟨28, rfl, .inl ⟨_, rfl, rfl⟩⟩ rfl rfl (AOp.call rfl .nil c_awake) ?_
      refine AOps.step rfl rfl rfl (AOp.pickT rfl rfl rfl) ?_
      refine AOps.aD rfl rfl rfl rfl rfl (.nil ?_)
      refine AWP.ret ?_
      refine ⟨RetD.eq rfl ?_, trivial⟩
      all_goals (first | rfl | simp)
    replace g2 := of_decide_eq_false g2
    exfalso; rw [HB] at g2; exact g2 rfl
  replace h1 := of_decide_eq_false h1
  obtain ⟨kac, kax, kao, kae⟩ := apply_ok (c := c) (x := x) (by first | exact h1 | omega)
  have k0 : (applyV c x).2.2 = 0 := (by first | exact h1 | omega)
  have hA : CtlOk (applyV c x).1 := by rw [kae]; exact (out_in (cIn hc kac) hx).ok
  refine AWP.skip ?_
  refine AWP.seq (AWP.region ?_)
  refine AOps.step rfl rfl rfl (AOp.loadAgg rfl ag_25 rfl rfl) ?_
  refine AOps.step rfl rfl rfl (AOp.loadAgg rfl ag_28 rfl rfl) ?_
  -- wants the world
  refine AOps.callT rfl rfl rfl hT maxT_stays rfl (.cons (ArgOk.rfl' rfl) (.cons (ArgOk.rfl' rfl) .nil)) (c_pApply (applyV c x).1 y hA hy) ?_
  refine AOps.mD rfl rfl rfl rfl rfl ?_
  refine AOps.step rfl rfl rfl (AOp.extract rfl rfl rfl) ?_
  refine AOps.step rfl rfl rfl (AOp.extract rfl rfl rfl) ?_
  refine AOps.step rfl rfl rfl (AOp.extract rfl rfl rfl) ?_
  refine AOps.alloc 103 rfl rfl rfl rfl zt_25 rfl rfl rfl ?_
  refine AOps.alloc 104 rfl rfl rfl rfl zt_28 rfl rfl rfl ?_
  refine AOps.store rfl rfl rfl sz_25 rfl (.tail _ (.head _)) rfl rfl rfl (Nat.le_of_ble_eq_true rfl) ?_
  refine AOps.freezeCells 10 (ds := (applyV (applyV c x).1 y).1.ds) rfl (.tail _ (.head _)) ?_
  refine AOps.store rfl rfl rfl sz_28 rfl (.head _) rfl rfl rfl (Nat.le_of_ble_eq_true rfl) ?_
  refine AOps.freezeCells 11 (ds := (applyV (applyV c x).1 y).2.1.ds) rfl (.head _) ?_
  refine AOps.aD rfl rfl rfl rfl rfl (.nil ?_)
  refine AWP.seq ?_
  refine AWP.seq (AWP.region ?_)
  refine AOps.mD rfl rfl rfl rfl rfl ?_
  refine AOps.step rfl rfl rfl (AOp.neq rfl rfl rfl) (.nil ?_)
  refine AWP.cond rfl (fun h3 => ?_) (fun h3 => ?_)
  · replace h3 := of_decide_eq_true h3
    have HB := apply_bad (c := (applyV c x).1) (x := y) (by first | exact h3 | omega)
    refine AWP.seq (AWP.region ?_)
    refine AOps.step rfl rfl rfl (AOp.fieldAddr rfl fo_25_0 rfl) ?_
    refine AOps.step rfl rfl rfl (AOp.load rfl sc_22 rfl) ?_
    refine AOps.step rfl rfl rfl (AOp.lenSl rfl et_22.ht rfl) ?_
    refine AOps.step rfl rfl rfl (AOp.eql rfl rfl rfl) ?_
    refine AOps.mD rfl rfl rfl rfl rfl ?_
    refine AOps.split 44 rfl (fun g4 => ?_) (fun g4 => ?_)
    · replace g4 := of_decide_eq_true g4
      refine AOps.step ⟨44, rfl, .inl ⟨_, rfl, rfl⟩⟩ rfl rfl (AOp.call rfl .nil c_awake) ?_
      refine AOps.step rfl rfl rfl (AOp.pickT rfl rfl rfl) ?_
      refine AOps.aD rfl rfl rfl rfl rfl (.nil ?_)
      refine AWP.ret ?_
      refine ⟨RetD.eq rfl ?_, trivial⟩
      all_goals (first | rfl | simp)
    replace g4 := of_decide_eq_false g4
    exfalso; rw [HB] at g4; exact g4 rfl
  replace h3 := of_decide_eq_false h3
  obtain ⟨z1, z2⟩ := composes k0 (show (applyV (applyV c x).1 y).2.2 = 0 from (by first | exact h3 | omega))
  refine AWP.skip ?_
  refine AWP.seq (AWP.region ?_)
  refine AOps.step rfl rfl rfl (AOp.loadAgg rfl ag_28 rfl rfl) ?_
  refine AOps.step rfl rfl rfl (AOp.loadAgg rfl ag_28 rfl rfl) ?_
  refine AOps.step rfl rfl rfl (AOp.call rfl (.cons (ArgOk.rfl' rfl) (.cons (ArgOk.rfl' rfl) .nil)) (c_pComp x y hx hy)) ?_
  refine AOps.mD rfl rfl rfl rfl rfl ?_
  refine AOps.step rfl rfl rfl (AOp.extract rfl rfl rfl) ?_
  refine AOps.step rfl rfl rfl (AOp.extract rfl rfl rfl) ?_
  refine AOps.alloc 105 rfl rfl rfl rfl zt_28 rfl rfl rfl ?_
  refine AOps.store rfl rfl rfl sz_28 rfl (.head _) rfl rfl rfl (Nat.le_of_ble_eq_true rfl) ?_
  refine AOps.freezeCells 12 (ds := (composeV x y).1.ds) rfl (.head _) ?_
  refine AOps.aD rfl rfl rfl rfl rfl (.nil ?_)
  refine AWP.seq ?_
  refine AWP.seq (AWP.region ?_)
  refine AOps.mD rfl rfl rfl rfl rfl ?_
  refine AOps.step rfl rfl rfl (AOp.neq rfl rfl rfl) (.nil ?_)
  refine AWP.cond rfl (fun h5 => ?_) (fun h5 => ?_)
  · replace h5 := of_decide_eq_true h5
    have z3 := z1 h5
    refine AWP.seq (AWP.region ?_)
    refine AOps.mD rfl rfl rfl rfl rfl ?_
    refine AOps.step rfl rfl rfl (AOp.eql rfl rfl rfl) ?_
    refine AOps.mD rfl rfl rfl rfl rfl ?_
    refine AOps.split 57 rfl (fun g6 => ?_) (fun g6 => ?_)
    · replace g6 := of_decide_eq_true g6
      refine AOps.step ⟨57, rfl, .inl ⟨_, rfl, rfl⟩⟩ rfl rfl (AOp.call rfl .nil c_awake) ?_
      refine AOps.step rfl rfl rfl (AOp.pickT rfl rfl rfl) ?_
      refine AOps.aD rfl rfl rfl rfl rfl (.nil ?_)
      refine AWP.ret ?_
      refine ⟨RetD.eq rfl ?_, trivial⟩
      all_goals (first | rfl | simp)
    replace g6 := of_decide_eq_false g6
    exact absurd z3 g6
  replace h5 := of_decide_eq_false h5
  have z4 := z2 (by first | exact h5 | omega)
  refine AWP.skip ?_
  refine AWP.seq (AWP.region ?_)
  refine AOps.step rfl rfl rfl (AOp.loadAgg rfl ag_25 rfl rfl) ?_
  refine AOps.step rfl rfl rfl (AOp.loadAgg rfl ag_28 rfl rfl) ?_
  -- wants the world
  refine AOps.callT rfl rfl rfl hT maxT_stays rfl (.cons (ArgOk.rfl' rfl) (.cons (ArgOk.rfl' rfl) .nil)) (c_pApply c (composeV x y).1 hc (compV_in hx hy)) ?_
  refine AOps.mD rfl rfl rfl rfl rfl ?_
  refine AOps.step rfl rfl rfl (AOp.extract rfl rfl rfl) ?_
  refine AOps.step rfl rfl rfl (AOp.extract rfl rfl rfl) ?_
  refine AOps.step rfl rfl rfl (AOp.extract rfl rfl rfl) ?_
  refine AOps.alloc 106 rfl rfl rfl rfl zt_25 rfl rfl rfl ?_
  refine AOps.alloc 107 rfl rfl rfl rfl zt_28 rfl rfl rfl ?_
  refine AOps.store rfl rfl rfl sz_25 rfl (.tail _ (.head _)) rfl rfl rfl (Nat.le_of_ble_eq_true rfl) ?_
  refine AOps.freezeCells 13 (ds := (applyV c (composeV x y).1).1.ds) rfl (.tail _ (.head _)) ?_
  refine AOps.store rfl rfl rfl sz_28 rfl (.head _) rfl rfl rfl (Nat.le_of_ble_eq_true rfl) ?_
  refine AOps.freezeCells 14 (ds := (applyV c (composeV x y).1).2.1.ds) rfl (.head _) ?_
  refine AOps.aD rfl rfl rfl rfl rfl (.nil ?_)
  refine AWP.seq (AWP.region ?_)
  refine AOps.mD rfl rfl rfl rfl rfl ?_
  refine AOps.step rfl rfl rfl (AOp.eql rfl rfl rfl) ?_
  refine AOps.mD rfl rfl rfl rfl rfl ?_
  refine AOps.split 69 rfl (fun g7 => ?_) (fun g7 => ?_)
  · replace g7 := of_decide_eq_true g7
    refine AOps.step ⟨69, rfl, .inl ⟨_, rfl, rfl⟩⟩ rfl rfl (AOp.loadAgg rfl ag_25 rfl rfl) ?_
    refine AOps.step ⟨69, rfl, .inl ⟨_, rfl, rfl⟩⟩ rfl rfl (AOp.loadAgg rfl ag_25 rfl rfl) ?_
    refine AOps.step ⟨69, rfl, .inl ⟨_, rfl, rfl⟩⟩ rfl rfl (AOp.call rfl (.cons (ArgOk.rfl' rfl) (.cons (ArgOk.rfl' rfl) .nil)) (c_sameC _ _)) ?_
    refine AOps.step rfl rfl rfl (AOp.pickT rfl rfl rfl) ?_
    refine AOps.mD rfl rfl rfl rfl rfl ?_
    refine AOps.split 74 rfl (fun g8 => ?_) (fun g8 => ?_)
    · replace g8 := of_decide_eq_true g8
      refine AOps.step ⟨74, rfl, .inl ⟨_, rfl, rfl⟩⟩ rfl rfl (AOp.call rfl .nil c_awake) ?_
      refine AOps.step rfl rfl rfl (AOp.pickT rfl rfl rfl) ?_
      refine AOps.aD rfl rfl rfl rfl rfl (.nil ?_)
      refine AWP.ret ?_
      refine ⟨RetD.eq rfl ?_, trivial⟩
      all_goals (first | rfl | simp)
    replace g8 := of_decide_eq_false g8
    exact absurd (show (applyV (applyV c x).1 y).1 = (applyV c (composeV x y).1).1 by rw [z4]) g8
  replace g7 := of_decide_eq_false g7
  exact absurd (show (applyV c (composeV x y).1).2.2 = 0 by rw [z4]) g7

end Go.Proofs.YtcilhhkmgebkeaaGreatDoor
