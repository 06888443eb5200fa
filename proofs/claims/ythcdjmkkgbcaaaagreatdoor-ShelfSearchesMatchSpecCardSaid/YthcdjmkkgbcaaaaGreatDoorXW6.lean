/- Walks and laws over abstract values, merged by tools/merge.py. No statement of the seat. -/
import Derived.Shelf.SlSortCmp.WholeK
import Derived.Lib.RowBridge
import Derived.StillTailTactics
import Derived.WalkKit
import Derived.Ground.NamesProg
import Derived.Shelf.SlSortCmp.NoneTotal
import Derived.Shelf.SlicesG.Cmp
import Derived.Ground.SlsfProg
import Derived.Ground.SlgcProg
import Derived.Test.YthcdjmkkgbcaaaaGreatDoorProg
import Derived.Test.YthcdjmkkgbcaaaaGreatDoorXW5

namespace Go.Proofs.YthcdjmkkgbcaaaaGreatDoor
open Go.RowKit
set_option linter.unusedVariables false

/-- f returns a struct whose parts are as ss', some of them own objects; the object vid is that struct. -/
def XSCall (P : Program) (f : FuncId) (ss : List S) (σ σ' : Obs) (chg : Nat → Bool) (s : S) : Prop := Enters P f ∧
  ∀ (F : Nat → Prop) (ρ : Nat → Value) (B : Nat) (w : World) (vs : List Value), (∀ b, F b → b < w.heap.size) → B ≤ w.heap.size → ObsOk B F ρ w σ → RepSL F ρ w vs ss →
    Calls P f vs.toArray w fun e w' => ∃ v F' ρ', e = .returned v ∧ RepS F' ρ' w' v s ∧ XEnd B F ρ w σ F' ρ' w' σ' chg

def RetXC (b : Nat) (ds : List D) (σ' : Obs) : Post := fun ex e σ => match ex with
  | .ret => (∃ cid, e b = .ptr cid 0 ∧ (cid, Ob.cells (ds.map S.d)) ∈ σ) ∧ AllIn σ σ'
  | .normal => (∃ cid, e b = .ptr cid 0 ∧ (cid, Ob.cells (ds.map S.d)) ∈ σ) ∧ AllIn σ σ'
  | _ => False
def RetXV (b vid : Nat) (ss' : List S) (σr : Obs) : Post := fun ex e σ => match ex with
  | .ret => (∃ cid ssr, e b = .ptr cid 0 ∧ (cid, Ob.cells ssr) ∈ σ ∧ ssr.map (S.kill vid) = ss' ∧ Obs.fresh vid σr = true ∧ Obs.kill vid σr = σr) ∧ AllIn σ σr
  | .normal => (∃ cid ssr, e b = .ptr cid 0 ∧ (cid, Ob.cells ssr) ∈ σ ∧ ssr.map (S.kill vid) = ss' ∧ Obs.fresh vid σr = true ∧ Obs.kill vid σr = σr) ∧ AllIn σ σr
  | _ => False
section
variable {cx : Cx} {ops : Array Oper} {o : Oper} {rest : List Oper} {e : Env} {σ : Obs} {Q : Post}
end
end Go.Proofs.YthcdjmkkgbcaaaaGreatDoor

namespace Go.Proofs.YthcdjmkkgbcaaaaGreatDoor
open Go.RowKit
set_option linter.unusedVariables false

/-- One step; sl: who reads objects, ef: who writes them. -/
def HStep (cx : Cx) (ops : Array Oper) (sl ef : Nat → Bool) (I : Obs → Prop) (k : Nat) (o : Oper) (e : Env) (σ : Obs) (e' : Env) (σ' : Obs) : Prop :=
  (GW ops o e true ∧ ∃ s, ((sl k = true ∧ AOp cx.P cx.B ops o e σ s) ∨ (I σ ∧ ∀ τ, I τ → AOp cx.P cx.B ops o e τ s)) ∧ e' = e.put o.dst s ∧ σ' = σ) ∨
  (GW ops o e false ∧ e' = e.put o.dst (.d (.v undef)) ∧ σ' = σ) ∨
  (GW ops o e true ∧ ef k = true ∧ o.dst = none ∧ EOp cx ops o e σ σ' ∧ e' = e ∧ I σ ∧ I σ')

def HRun (cx : Cx) (ops : Array Oper) (sl ef : Nat → Bool) (I : Obs → Prop) : Nat → List Oper → Env → Obs → (Env → Obs → Prop) → Prop
  | _, [], e, σ, Q => Q e σ
  | k, o :: l, e, σ, Q => DstOk cx.N o ∧ ∃ e' σ', HStep cx ops sl ef I k o e σ e' σ' ∧ HRun cx ops sl ef I (k + 1) l e' σ' Q

def anyH (cx : Cx) (ops : Array Oper) (sl ef : Nat → Bool) (I : Obs → Prop) (Q : Env → Obs → Prop) : Nat → Array Bool → Env → Obs → Prop
  | 0, listed, e, σ => Region.ready .any ops listed = [] ∧ Q e σ
  | fuel + 1, listed, e, σ => (Region.ready .any ops listed = [] → Q e σ) ∧
      ∀ i ∈ Region.ready .any ops listed, ∀ o, ops[i]? = some o → ∃ e' σ', HStep cx ops sl ef I i o e σ e' σ' ∧ anyH cx ops sl ef I Q fuel (listed.setIfInBounds i true) e' σ'

section
variable {cx : Cx} {ops : Array Oper} {o : Oper} {rest : List Oper} {e : Env} {σ : Obs} {sl ef : Nat → Bool} {I : Obs → Prop} {n : Nat} {l : List Oper} {Q : Env → Obs → Prop}
end
end Go.Proofs.YthcdjmkkgbcaaaaGreatDoor

namespace Go.Proofs.YthcdjmkkgbcaaaaGreatDoor
open Go.RowKit
set_option linter.unusedVariables false

/-- What the operation gives depends on x's value alone; or it gives nothing. -/
def PureOp (P : Program) (o : Oper) (x : Operand) : Prop := ∀ u : Value, (∃ v, ∀ (a : Act) (w : World), a.eval x = u → (execOp a.eval o).run P w = .ok (.value v) w) ∨
  (∀ (a : Act) (w : World) (K : Act → World → Prop) (Q : Exit → Act → World → Prop), (∀ e a w, e ≠ .normal → ¬ Q e a w) → a.eval x = u → ¬ o.wp P a w K Q)
theorem PureOp.move {P : Program} {o : Oper} {x : Operand} (h : o.op = .move x) : PureOp P o x := fun u => .inl ⟨u, fun a w hx => by
  unfold execOp
  simp only [h, hx, Sem.run_pure]⟩
theorem PureOp.extract {P : Program} {o : Oper} {x : Operand} {i : Nat} (h : o.op = .extract x i) : PureOp P o x := fun u => by
  by_cases hu : ∃ vs v, u = .tuple vs ∧ vs[i]? = some v
  · obtain ⟨vs, v, rfl, hv⟩ := hu
    refine .inl ⟨v, fun a w hx => ?_⟩
    unfold execOp
    simp only [h, hx, Instr.extract, hv, Sem.run_bind, Sem.run_pure, Result.andThen_ok]
  · refine .inr fun a w K Q hQ hx hw => ?_
    unfold Oper.wp execOp at hw
    simp only [h, hx] at hw
    cases u with
    | tuple vs =>
      cases hv : vs[i]? with
      | some v => exact hu ⟨vs, v, rfl, hv⟩
      | none => simp only [Instr.extract, hv, Sem.run_bind] at hw; exact hw
    | _ => simp only [Instr.extract, Sem.run_bind] at hw; exact hw
/-- From k on each one waits for all before it, but for those of L ahead of k. -/
def Region.chainLB (ops : Array Oper) (L : Nat → Bool) (k : Nat) : Bool := Region.downB ops && Nat.ble k ops.size && (List.range (ops.size - 1)).all fun j =>
  (L j && Nat.blt j k) || (List.range ops.size).any fun m => Nat.blt j m && (Nat.ble m k || Nat.ble m (j + 1)) && (!(L m) || Nat.ble k m) && Region.edge ops m j
structure ChainL (ops : Array Oper) (L : Nat → Bool) (k : Nat) : Prop where
  down : Region.downB ops = true
  le : k ≤ ops.size
  next : ∀ j, (L j = false ∨ k ≤ j) → j < ops.size - 1 → ∃ m, j < m ∧ (m ≤ k ∨ m ≤ j + 1) ∧ (L m = false ∨ k ≤ m) ∧ Region.edge ops m j = true
theorem ChainL.of {ops : Array Oper} {L : Nat → Bool} {k : Nat} (h : Region.chainLB ops L k = true) : ChainL ops L k := by
  unfold Region.chainLB at h
  simp only [Bool.and_eq_true] at h
  obtain ⟨⟨h1, h2⟩, h3⟩ := h
  refine ⟨h1, Nat.le_of_ble_eq_true h2, fun j hL hj => ?_⟩
  have h4 := List.all_eq_true.1 h3 j (List.mem_range.2 hj)
  rw [Bool.or_eq_true] at h4
  rcases h4 with h4 | h4
  · simp only [Bool.and_eq_true, Nat.blt_eq] at h4
    rcases hL with hL | hL
    · rw [hL] at h4; simp at h4
    · omega
  · obtain ⟨m, _, hm⟩ := List.any_eq_true.1 h4
    simp only [Bool.and_eq_true, Bool.or_eq_true, Nat.blt_eq, Bool.not_eq_true'] at hm
    exact ⟨m, hm.1.1.1, hm.1.1.2.imp Nat.le_of_ble_eq_true Nat.le_of_ble_eq_true, hm.1.2.imp id Nat.le_of_ble_eq_true, hm.2⟩
section
variable {P : Program} {ops : Array Oper} {Q Q0 : Exit → Act → World → Prop} {k : Nat} {L : Nat → Bool}
/-- The operations of L: pure, unguarded, apart from whoever is not bound to come after. -/
structure LateOk (P : Program) (ops : Array Oper) (L : Nat → Bool) (k : Nat) : Prop where
  op : ∀ i, L i = true → i < k → ∃ oi x d, ops[i]? = some oi ∧ PureOp P oi x ∧ (∀ t, x = .tmp t → t ∈ oi.looksAt ops) ∧ oi.dst = some d ∧ oi.guard = none
  sel : ∀ (j : Nat) (oj : Oper), ops[j]? = some oj → notSelect oj = true
  apart : ∀ i oi, L i = true → i < k → ops[i]? = some oi → ∀ (j : Nat) (oj : Oper), ops[j]? = some oj → j ≠ i → (∀ e ∈ oj.after, Region.binds .any e = true → e.on ≠ i) → (∀ e ∈ oi.after, Region.binds .any e = true → e.on ≠ j) → oi.apart ops oj = true
end
/-- The late ones, by a look at them. -/
def pureB (o : Oper) : Bool := (match o.op with | .move _ => true | .extract _ _ => true | _ => false) && o.guard.isNone && o.dst.isSome
theorem pureB_spec {P : Program} {ops : Array Oper} {o : Oper} (h : pureB o = true) : ∃ x d, PureOp P o x ∧ (∀ t, x = .tmp t → t ∈ o.looksAt ops) ∧ o.dst = some d ∧ o.guard = none := by
  unfold pureB at h
  simp only [Bool.and_eq_true] at h
  obtain ⟨⟨h1, h2⟩, h3⟩ := h
  obtain ⟨d, hd⟩ := Option.isSome_iff_exists.1 h3
  have hg : o.guard = none := by simpa using h2
  cases hop : o.op with
  | move x => exact ⟨x, d, .move hop, fun t ht => looks_op (by rw [hop, ht]; simp [Op.operands]), hd, hg⟩
  | extract x i => exact ⟨x, d, .extract hop, fun t ht => looks_op (by rw [hop, ht]; simp [Op.operands]), hd, hg⟩
  | _ => rw [hop] at h1; simp at h1
def lateB (ops : Array Oper) (L : List Nat) (k : Nat) : Bool := (ops.toList.all notSelect) && L.all fun i => Nat.blt i k && ((ops[i]?).map fun oi => pureB oi && (List.range ops.size).all fun j => Nat.beq j i || Region.edge ops j i || Region.edge ops i j || ((ops[j]?).map fun oj => oi.apart ops oj).getD true).getD false
theorem LateOk.of {P : Program} {ops : Array Oper} {L : List Nat} {k : Nat} (h : lateB ops L k = true) : LateOk P ops (fun i => L.contains i) k := by
  unfold lateB at h
  simp only [Bool.and_eq_true] at h
  have hL : ∀ i, L.contains i = true → ∃ oi, ops[i]? = some oi ∧ pureB oi = true ∧ ∀ j oj, ops[j]? = some oj → j ≠ i → (∀ e ∈ oj.after, Region.binds .any e = true → e.on ≠ i) → (∀ e ∈ oi.after, Region.binds .any e = true → e.on ≠ j) → oi.apart ops oj = true := fun i hi => by
    have h1 := List.all_eq_true.1 h.2 i (List.contains_iff_mem.1 hi)
    simp only [Bool.and_eq_true] at h1
    cases ho : ops[i]? with
    | none => rw [ho] at h1; simp at h1
    | some oi =>
      rw [ho] at h1
      simp only [Option.map_some, Option.getD_some, Bool.and_eq_true] at h1
      refine ⟨oi, rfl, h1.2.1, fun j oj hj hji hn hn2 => ?_⟩
      have h2 := List.all_eq_true.1 h1.2.2 j (List.mem_range.2 (Array.getElem?_eq_some_iff.1 hj).1)
      rw [hj] at h2
      simp only [Option.map_some, Option.getD_some, Bool.or_eq_true] at h2
      rcases h2 with ((h2 | h2) | h2) | h2
      · exact absurd (Nat.eq_of_beq_eq_true h2) hji
      · obtain ⟨o, ho2, e, he, hb, heq⟩ := Region.edge_spec h2
        rw [hj] at ho2; cases ho2
        exact absurd heq (hn e he hb)
      · obtain ⟨o, ho2, e, he, hb, heq⟩ := Region.edge_spec h2
        rw [ho] at ho2; cases ho2
        exact absurd heq (hn2 e he hb)
      · exact h2
  refine ⟨fun i hi _ => ?_, fun j oj hj => List.all_eq_true.1 h.1 oj (by simpa using Array.mem_of_getElem? hj), fun i oi hi _ hoi j oj hj hji hn hn2 => ?_⟩
  · obtain ⟨oi, h1, h2, _⟩ := hL i hi
    obtain ⟨x, d, h3, h4, h5, h6⟩ := pureB_spec (P := P) (ops := ops) h2
    exact ⟨oi, x, d, h1, h3, h4, h5, h6⟩
  · obtain ⟨oi', h1, _, h3⟩ := hL i hi
    rw [hoi] at h1; cases h1
    exact h3 j oj hj hji hn hn2
def QN (Q : Post) : Post := fun ex e σ => match ex with | .normal => Q .normal e σ | _ => False
end Go.Proofs.YthcdjmkkgbcaaaaGreatDoor

namespace Go.Proofs.YthcdjmkkgbcaaaaGreatDoor
open Go.RowKit
set_option linter.unusedVariables false

def Env.puts (e : Env) : List (Nat × S) → Env
  | [] => e
  | p :: l => Env.puts (e.put (some p.1) p.2) l
/-- An object that the region makes, and the slots that may hold it. -/
structure Fc where
  id : Nat
  slots : List Nat
def Clean (Φ : List Fc) (e : Env) : Prop := ∀ f ∈ Φ, ∀ t, f.slots.contains t = false → (e t).kill f.id = e t
def QE (e1 : Env) (σ1 : Obs) : Post := fun ex e σ => match ex with | .normal => e = e1 ∧ σ = σ1 | _ => False
/-- An operation that makes or turns objects: the slots that it sets, the objects behind it. -/
def GE (cx : Cx) (ops : Array Oper) (Φ : List Fc) (o : Oper) (e : Env) (σ : Obs) (si : List (Nat × S)) (σ' : Obs) : Prop :=
  ∀ e0 : Env, (∀ t, t ∈ o.looksAt ops → e0 t = e t) → (∀ t, t ∈ si.map Prod.fst → e0 t = e t) → Clean Φ e0 → AOps cx ops [o] e0 σ (QE (Env.puts e0 si) σ')
def LStep (cx : Cx) (ops : Array Oper) (Φ : List Fc) (ef : Nat → Bool) (K : Nat → List Nat) (I : Obs → Prop) (k : Nat) (o : Oper) (e : Env) (σ : Obs) (e' : Env) (σ' : Obs) : Prop :=
  (GW ops o e true ∧ ef k = false ∧ ∃ s, I σ ∧ (∀ τ, I τ → AOp cx.P cx.B ops o e τ s) ∧ (∀ f ∈ Φ, (∃ t, o.dst = some t ∧ f.slots.contains t = true) ∨ s.kill f.id = s) ∧ e' = e.put o.dst s ∧ σ' = σ) ∨
  (GW ops o e false ∧ ef k = false ∧ e' = e.put o.dst (.d (.v undef)) ∧ σ' = σ) ∨
  (GW ops o e true ∧ ef k = true ∧ I σ ∧ I σ' ∧ ∃ si, si.map Prod.fst = K k ∧ GE cx ops Φ o e σ si σ' ∧ (∀ p ∈ si, ∀ f ∈ Φ, f.slots.contains p.1 = true ∨ p.2.kill f.id = p.2) ∧ e' = Env.puts e si)
def LRun (cx : Cx) (ops : Array Oper) (Φ : List Fc) (ef : Nat → Bool) (K : Nat → List Nat) (I : Obs → Prop) : Nat → List Oper → Env → Obs → (Env → Obs → Prop) → Prop
  | _, [], e, σ, Q => Q e σ
  | k, o :: l, e, σ, Q => DstOk cx.N o ∧ ∃ e' σ', LStep cx ops Φ ef K I k o e σ e' σ' ∧ LRun cx ops Φ ef K I (k + 1) l e' σ' Q
def anyL (cx : Cx) (ops : Array Oper) (Φ : List Fc) (ef : Nat → Bool) (K : Nat → List Nat) (I : Obs → Prop) (Q : Env → Obs → Prop) : Nat → Array Bool → Env → Obs → Prop
  | 0, listed, e, σ => Region.ready .any ops listed = [] ∧ Q e σ
  | fuel + 1, listed, e, σ => (Region.ready .any ops listed = [] → Q e σ) ∧
      ∀ i ∈ Region.ready .any ops listed, ∀ o, ops[i]? = some o → ∃ e' σ', LStep cx ops Φ ef K I i o e σ e' σ' ∧ anyL cx ops Φ ef K I Q fuel (listed.setIfInBounds i true) e' σ'
/-- The slots of one are none of the other's. -/
def keysOkB (ops : Array Oper) (K : Nat → List Nat) (i j : Nat) (oi oj : Oper) : Bool :=
  ((K i).all fun k => !((oj.looksAt ops).contains k) && neDst oj k) && ((K j).all fun k => !((oi.looksAt ops).contains k) && neDst oi k) && (!(K i).any fun k => (K j).contains k)
/-- The check: whoever is free to change places has nothing to do with the other. -/
def Region.keysFree (ops : Array Oper) (ef : Nat → Bool) (K : Nat → List Nat) (listed : Array Bool) (k : Nat) (late : Nat → Bool) : Bool :=
  (List.range ops.size).all fun j =>
    (!(late j) || (!(listed.getD j false) && ((ops[j]?).map fun o => o.after.any fun e => Region.binds .any e && (Nat.beq e.on k || late e.on)).getD true)) &&
    (Nat.beq j k || listed.getD j true || late j || Region.edge ops j k || ((!(ef k) || !(ef j)) && ((ops[k]?).bind fun oi => (ops[j]?).map fun oj => keysOkB ops K k j oi oj).getD false))
def Region.keysFrom (ops : Array Oper) (ef : Nat → Bool) (K : Nat → List Nat) : Nat → Nat → Array Bool → Bool
  | 0, _, _ => true
  | fuel + 1, k, listed => Region.keysFree ops ef K listed k (Region.lateB ops k) && Region.keysFrom ops ef K fuel (k + 1) (listed.setIfInBounds k true)
/-- Before the region: no slot but those told holds what it makes or turns. -/
def Env.killOut (f : Fc) (e : Env) : Env := fun t => match f.slots.contains t with | true => e t | false => (e t).kill f.id
def Env.killIds : List Fc → Env → Env
  | [], e => e
  | f :: l, e => Env.killIds l (e.killOut f)
section
variable {cx : Cx} {ops : Array Oper} {Φ : List Fc} {ef : Nat → Bool} {K : Nat → List Nat} {I : Obs → Prop} {n : Nat} {o : Oper} {l : List Oper} {e : Env} {σ : Obs} {Q : Env → Obs → Prop}
def cleanS (t : Nat) (s : S) : List Fc → Prop
  | [] => True
  | f :: l => (f.slots.contains t = true ∨ s.kill f.id = s) ∧ cleanS t s l
def cleanL (Φ : List Fc) : List (Nat × S) → Prop
  | [] => True
  | p :: l => (∀ f ∈ Φ, f.slots.contains p.1 = true ∨ p.2.kill f.id = p.2) ∧ cleanL Φ l
end
end Go.Proofs.YthcdjmkkgbcaaaaGreatDoor

namespace Go.Proofs.YthcdjmkkgbcaaaaGreatDoor
open Go.RowKit
set_option linter.unusedVariables false

end Go.Proofs.YthcdjmkkgbcaaaaGreatDoor

namespace Go.Proofs.YthcdjmkkgbcaaaaGreatDoor
open Go.RowKit
set_option linter.unusedVariables false

end Go.Proofs.YthcdjmkkgbcaaaaGreatDoor

namespace Go.Proofs.YthcdjmkkgbcaaaaGreatDoor
open Go.RowKit Go.Shelf
set_option linter.unusedVariables false

section
variable {cx : Cx} {e : Env} {σ : Obs} {Q : Post}
end

section
variable {cx : Cx} {ops : Array Oper} {o : Oper} {rest : List Oper} {e : Env} {σ : Obs} {Q : Post}
/-- []T{x}: an own row of one element. -/
theorem AOps.buildS {t el size bytes dst : Nat} {z : Value} {x : Operand} {d : D} (id : Nat) (hg : o.guard = none) (ht : o.dst = some dst) (hdn : Nat.blt dst cx.N = true) (ho : o.op = .buildSlice t 1 #[(0, x)]) (T : ElemTy cx.P t el size bytes z) (hsz : Nat.ble size 1000 = true) (hx : e.ev x = .d d) (h1 : d.one = true) (h2 : d.parts.length = size) (hid : Obs.fresh id σ = true)
    (k : AOps cx ops rest ((e.kill id).put (some dst) (.own id)) ((id, .row el size [d.parts]) :: Obs.kill id σ) Q) (hfx : cx.free id = true := by rfl) : AOps cx ops (o :: rest) e σ Q := by
  intro a w ⟨F, ρ, hr⟩
  have hsz' : size ≤ 1000 := by simpa [Nat.ble_eq] using hsz
  have hdn' : dst < cx.N := by simpa [Nat.blt_eq] using hdn
  have r1 := ev_rep (e := e) (x := x) (a := a) (fun t _ => hr.env t)
  rw [hx] at r1
  obtain ⟨h3, h4⟩ := parts_rep (repS_d r1) h1
  have hcl : (a.eval x).cells.toList.length = size := by rw [h3.1]; exact h2
  obtain ⟨c, hc⟩ : ∃ c, c = (a.eval x).cells.toList := ⟨_, rfl⟩
  have hcl' : c.length = size := by rw [hc]; exact hcl
  obtain ⟨i, hi, hz0, hz1, hz2⟩ := info_parts T.hi
  have hzc : z.cells.size = size := T.hz
  have hs0 : 0 < size := T.hs
  obtain ⟨cs', h5, h6⟩ := fill_inorder (size := size) 0 [(0, a.eval x)] ((Array.range size).map (fun j => z.cells[j % z.cells.size]!)) (fun j hj => by
    have hj0 : j = 0 := by simpa using hj
    subst hj0
    refine ⟨rfl, ?_⟩
    have : (a.eval x).cells.size = size := by rw [← Array.length_toList]; exact hcl
    simpa using this) (by simp)
  have h7 : cs'.toList = c := by
    have h9 : List.drop size (List.map (fun j => z.cells[j % z.cells.size]!) (List.range size)) = [] := List.drop_eq_nil_of_le (by simp)
    simpa [← hc, h9] using h6
  have hcs : cs' = c.toArray := by rw [← h7]
  have hrun : (execOp a.eval o).run cx.P w = .ok (.value (.slice (some ⟨w.heap.size, 0, none⟩) 1 1)) (w.alloc (.cells c.toArray el)) := by
    unfold execOp
    simp only [ho, Instr.buildSlice, Sem.run_bind, run_underlying T.ht, Result.andThen_ok, T.sizeOf]
    rw [if_neg (show ¬ (1 * size > 2 ^ 24) by omega), if_neg (show ¬ (1 * size = 0) by omega)]
    have hprog : (program : Sem Program).run cx.P w = .ok cx.P w := rfl
    simp only [Sem.run_bind, zeroValue, typeInfo, hprog, Result.andThen_ok, hi, Sem.run_pure, hz0]
    have h8 : Array.map (fun (p : Nat × Operand) => (p.fst, a.eval p.snd)) #[(0, x)] = #[(0, a.eval x)] := by simp
    rw [h8]
    rw [hcs] at h5
    simp only [Nat.one_mul, List.toArray] at h5 ⊢
    first | rw [h5] | skip
    rfl
  have hrow : (w.alloc (.cells c.toArray el)).ownsRow cx.B el size (.slice (some ⟨w.heap.size, 0, none⟩) 1 1) 1 c :=
    ⟨by rw [Nat.one_mul]; exact hcl', .inr ⟨w.heap.size, 1, c.toArray, rfl, hr.hB, heap_alloc_new w _, Nat.le_refl _, by unfold maxLen; omega, by simpa using hcl', by rw [Nat.one_mul, ← hcl']; simp⟩⟩
  have hfl : flat (fun _ j => c.getD j undef) 1 size = c := by
    unfold flat
    simp only [List.range_one, List.map_cons, List.map_nil, List.flatten_cons, List.flatten_nil, List.append_nil]
    apply List.ext_getElem
    · simp [hcl']
    · intro j hj hj2
      simp [List.getD_eq_getElem?_getD, hj2]
  obtain ⟨ρ', h9⟩ := hr.newRow (v := .slice (some ⟨w.heap.size, 0, none⟩) 1 1) (els := [d.parts]) (Obs.fresh_spec hid) hdn' ((Below.refl _ _).alloc (Nat.le_refl _) (.cells c.toArray el))
    ⟨fun _ j => c.getD j undef, by dsimp only; rw [if_pos rfl]; show World.ownsRow _ _ _ _ _ _ (flat (fun _ j => c.getD j undef) 1 size); rw [hfl]; exact hrow, fun i hi => by
      have : i = 0 := by simpa using hi
      subst this
      simpa using h2, fun i hi j hj => by
      have : i = 0 := by simpa using hi
      subst this
      have hj' : j < d.parts.length := by simpa using hj
      have hjc : j < c.length := by omega
      have hgd : c.getD j undef = c[j] := by simp [List.getD_eq_getElem?_getD, hjc]
      dsimp only
      rw [hgd]
      subst hc
      refine ⟨h4 _ (List.getElem_mem hjc), ?_⟩
      have h10 := h3.2 j hjc (by omega)
      have hE : Ext F w F (w.alloc (.cells (a.eval x).cells.toList.toArray el)) := Ext.of_below hr.lt ((Below.refl _ _).alloc (Nat.le_refl _) _)
      simpa using h10.ext hr.lt hE, fun g hg hf => by dsimp only at hg; rw [if_pos rfl] at hg; simp [blk] at hg; have := hr.lt g hf; omega⟩
    (fun g hg => by simp [blk] at hg; omega) hfx
  refine wpList_plain hg fun K hK => ?_
  unfold Oper.wp
  rw [hrun]
  have := k _ _ ⟨F, ρ', h9⟩
  rw [← ht] at this
  exact hK _ _ this
end
end Go.Proofs.YthcdjmkkgbcaaaaGreatDoor

namespace Go.Proofs.YthcdjmkkgbcaaaaGreatDoor
open Go.RowKit
set_option linter.unusedVariables false

/-! Types. -/
namespace TyYB
theorem et_35 : ElemTy Tryz.prog 35 39 1 24 (.slice none 0 0) := ⟨by kernel_rfl, by kernel_rfl, by kernel_rfl, by decide⟩
end TyYB
open TyH3 TyH4 TyH5 TyJ3 TyJ4 TyJ5 TyKA TyKB TyKC TyKD TyKE TyKF TyKG TyYA TyYB

set_option linter.unusedSimpArgs false
def TSM (w : World) : Prop := TabT w ∧ MaxT w
theorem tsm_stays : Stays TSM := fun w w' k h => ⟨tabT_stays w w' k h.1, maxT_stays w w' k h.2⟩
theorem ACallT.tbt {f : FuncId} {ds : List D} {d : D} (h : ACallT Tryz.prog TabT f ds d) : ACallT Tryz.prog TSM f ds d := ⟨h.1, fun F w vs hT => h.2 F w vs hT.1⟩
theorem ACallT.mxt {f : FuncId} {ds : List D} {d : D} (h : ACallT Tryz.prog MaxT f ds d) : ACallT Tryz.prog TSM f ds d := ⟨h.1, fun F w vs hT => h.2 F w vs hT.2⟩
def grpD (g : List Int) : List D := [.sl (g.map intD)]
theorem bs_dec {a b : List UInt8} : bStr a ≠ bStr b ↔ a ≠ b := bStr_ne
theorem alk_k {a b : Thg} (h : a.kind ≠ b.kind) : alkB a b = false := if_pos h
theorem alk_t {a b : Thg} (h : ¬ a.kind ≠ b.kind) (h2 : fT a ≠ fT b) : alkB a b = false := by unfold alkB; rw [if_neg h, if_pos h2]
theorem alk_2 {a b : Thg} (h : ¬ a.kind ≠ b.kind) (h2 : ¬ fT a ≠ fT b) (h3 : a.kind = 2) : alkB a b = if a.parent = b.parent then decide (a.parent ≠ 0) else false := by unfold alkB; rw [if_neg h, if_neg h2, if_pos h3]
theorem alk_3 {a b : Thg} (h : ¬ a.kind ≠ b.kind) (h2 : ¬ fT a ≠ fT b) (h3 : a.kind = 3) : alkB a b = decide (a.parts = b.parts) := by unfold alkB; rw [if_neg h, if_neg h2, if_neg (by omega), if_pos h3]
theorem alk_4 {a b : Thg} (h : ¬ a.kind ≠ b.kind) (h2 : ¬ fT a ≠ fT b) (h3 : a.kind = 4) : alkB a b = decide (a.parent = b.parent) := by unfold alkB; rw [if_neg h, if_neg h2, if_neg (by omega), if_neg (by omega), if_pos h3]
theorem alk_o {a b : Thg} (h : ¬ a.kind ≠ b.kind) (h2 : ¬ fT a ≠ fT b) (h3 : ¬ a.kind = 2) (h4 : ¬ a.kind = 3) (h5 : ¬ a.kind = 4) : alkB a b = true := by unfold alkB; rw [if_neg h, if_neg h2, if_neg h3, if_neg h4, if_neg h5]
def ixG {α : Type} (p : α → Bool) (l : List α) : Int := if l.any p = true then (l.findIdx p : Int) else -1
section
variable {α : Type} {p : α → Bool} {l : List α} {k : Nat}
theorem ixg_hit (hk : k < l.length) (h : ∀ x ∈ l.take k, p x = false) (h2 : p l[k] = true) : ixG p l = (k : Int) := by
  unfold ixG
  rw [if_pos (List.any_eq_true.2 ⟨_, List.getElem_mem hk, h2⟩)]
  congr 1
  refine (List.findIdx_eq hk).2 ⟨h2, fun j hj => ?_⟩
  exact h _ (List.mem_take_iff_getElem.2 ⟨j, by omega, rfl⟩)
theorem ixg_no (h : ∀ x ∈ l, p x = false) : ixG p l = -1 := by
  unfold ixG
  rw [if_neg]
  intro hh
  obtain ⟨x, hx, h2⟩ := List.any_eq_true.1 hh
  rw [h x hx] at h2; cases h2
theorem ixg_next (hk : k < l.length) (h : ∀ x ∈ l.take k, p x = false) (h2 : p l[k] = false) : ∀ x ∈ l.take (k + 1), p x = false := fun x hx => by
  rw [List.take_add_one, List.getElem?_eq_getElem hk, Option.toList_some, List.mem_append, List.mem_singleton] at hx
  rcases hx with hx | rfl
  · exact h x hx
  · exact h2
theorem ixg_any : decide (ixG p l ≥ 0) = l.any p := by
  unfold ixG
  cases h : l.any p with
  | true => rw [if_pos rfl]; exact decide_eq_true (Int.natCast_nonneg _)
  | false => rw [if_neg (by decide)]; rfl
end
theorem any_in {α : Type} [DecidableEq α] {s : α} {l : List α} : l.any (fun x => decide (s = x)) = decide (s ∈ l) := by
  cases h : l.any (fun x => decide (s = x)) with
  | true =>
    obtain ⟨x, hx, he⟩ := List.any_eq_true.1 h
    rw [of_decide_eq_true he]; exact (decide_eq_true hx).symm
  | false =>
    refine (decide_eq_false fun hm => ?_).symm
    have := List.any_eq_false.1 h s hm
    exact this (decide_eq_true rfl)
theorem ixg_in {α : Type} [DecidableEq α] {s : α} {l : List α} : decide (ixG (fun x => decide (s = x)) l ≥ 0) = decide (s ∈ l) := by rw [ixg_any, any_in]
theorem all2 {σ : Obs} {a b : Nat × Ob} (h1 : a ∈ σ) (h2 : b ∈ σ) : ∀ p ∈ [a, b], p ∈ σ := fun p hp => by
  simp only [List.mem_cons, List.not_mem_nil, or_false] at hp
  rcases hp with rfl | rfl
  · exact h1
  · exact h2
theorem all3 {σ : Obs} {a b c : Nat × Ob} (h1 : a ∈ σ) (h2 : b ∈ σ) (h3 : c ∈ σ) : ∀ p ∈ [a, b, c], p ∈ σ := fun p hp => by
  simp only [List.mem_cons, List.not_mem_nil, or_false] at hp
  rcases hp with rfl | rfl | rfl
  · exact h1
  · exact h2
  · exact h3
theorem mrow {σ : Obs} {id e s : Nat} {els els' : List (List D)} (hm : (id, Ob.row e s els) ∈ σ) (h : els = els') : (id, Ob.row e s els') ∈ σ := h ▸ hm
theorem mmap {σ : Obs} {id : Nat} {A A' : List (Value × D)} (hm : (id, Ob.map A) ∈ σ) (h : A = A') : (id, Ob.map A') ∈ σ := h ▸ hm
theorem t_small {c : Ctl} (h : chkF c = 0) {t : Thg} (ht : t ∈ c.things) : t.title.size ≤ 1048576 := by
  obtain ⟨k, hk, rfl⟩ := List.mem_iff_getElem.1 ht
  have h0 := (catOk h).th k hk
  unfold thgF at h0
  have hb : titleOk c.things[k].title = true := by
    cases hh : titleOk c.things[k].title with
    | true => rfl
    | false =>
      split at h0
      · omega
      · first
          | omega
          | (rw [if_pos hh] at h0; omega)
  unfold titleOk titleB at hb
  simp only [Bool.and_eq_true, decide_eq_true_eq] at hb
  have := hb.1.1.1.1.2
  rw [← Lib.size_eq] at this
  omega
theorem mt_done : Tryz.prog.underlying 73 = some (.map 3 4) := by kernel_rfl
theorem ids_ok {l : List Thg} (h : ∀ x ∈ l, ThgOk x) {n : Int} (hn : n ∈ l.map Thg.id) : i64 n := by
  obtain ⟨t, ht, rfl⟩ := List.mem_map.1 hn
  exact (h t ht).id
theorem alks_ids {t : Thg} {l : List Thg} {n : Int} (h : n ∈ alks t l) : n ∈ l.map Thg.id := by
  unfold alks at h
  obtain ⟨x, hx, rfl⟩ := List.mem_map.1 h
  exact List.mem_map.2 ⟨x, (List.mem_filter.1 hx).1, rfl⟩
theorem dn_ok {l : List Thg} (h : ∀ x ∈ l, ThgOk x) (k : Nat) (t : Thg) (j : Nat) : ∀ n ∈ (dblS l k).2 ++ alks t ((l.drop (k + 1)).take j), i64 n := fun n hn => by
  rcases List.mem_append.1 hn with hn | hn
  · exact ids_ok h (dblS_ids k hn)
  · have := alks_ids hn
    obtain ⟨x, hx, rfl⟩ := List.mem_map.1 this
    exact (h x (List.mem_of_mem_drop (List.mem_of_mem_take hx))).id
theorem dn_ok0 {l : List Thg} (h : ∀ x ∈ l, ThgOk x) (k : Nat) : ∀ n ∈ (dblS l k).2, i64 n := fun n hn => ids_ok h (dblS_ids k hn)
theorem take_all_eq {α : Type} {l r : List α} (h : l.length = r.length) (h2 : l.take l.length = r.take l.length) : l = r := by
  rw [List.take_length, h, List.take_length] at h2; exact h2
theorem take_eq {α : Type} {l r : List α} {k : Nat} (hl : k < l.length) (hr : k < r.length) (h : l.take k = r.take k) (h2 : l[k] = r[k]) : l.take (k + 1) = r.take (k + 1) := by
  rw [List.take_add_one, List.take_add_one, List.getElem?_eq_getElem hl, List.getElem?_eq_getElem hr, h, h2]

set_option maxRecDepth 100000 in
set_option maxHeartbeats 1000000 in
theorem c_eqI (l r : List Int) : ACall Tryz.prog 17 [.sl (l.map intD), .sl (r.map intD)] (.v (.bool (decide (l = r)))) := by
 refine acall_of (n := 26) (ds' := [.v (.bool (decide (l = r)))]) Tryz.func17 rfl (by kernel_rfl) rfl [4] rfl rfl ?_
 intro B w0 F0 fr
 refine .bound 0 rfl (fun hbd0 => ?_)
 rw [List.length_map] at hbd0
 refine .bound 1 rfl (fun hbd1 => ?_)
 rw [List.length_map] at hbd1
 refine .sr ?_
 refine .aA (.nil ?_)
 refine .seq ?_
 refine .sr ?_
 refine .mA ?_
 refine .sA (.lenSl rfl et_39.ht rfl) ?_
 refine .mA ?_
 refine .sA (.lenSl rfl et_39.ht rfl) ?_
 refine .sA (.neq rfl rfl rfl) (.nil ?_)
 refine .cond rfl (fun h1 => ?_) (fun h1 => ?_)
 ·replace h1 := of_decide_eq_true h1
  rw [List.length_map, List.length_map] at h1
  rw [decide_eq_false (show ¬ l = r from fun e => h1 (by rw [e]))]
  refine .sr ?_
  refine .aA (.nil ?_)
  refine .ret ?_
  refine ⟨RetD.eq rfl ?_, trivial⟩
  all_goals (rfl)
 replace h1 := of_decide_eq_false h1
 rw [List.length_map, List.length_map] at h1
 have hle : l.length = r.length := by omega
 refine .skip ?_
 refine .seq ?_
 refine .sr ?_
 refine .mA ?_
 refine .sA (.lenSl rfl et_39.ht rfl) ?_
 refine .mA (.nil ?_)
 refine .block ?_
 refine .loop (G := Nat) (fun k => Env.of [(13, .d (.v (.int .i64 (k : Int)))), (0, .d (.sl (l.map intD))), (1, .d (.sl (r.map intD))), (12, .d (.v (.int .i64 ((l.map intD).length : Int))))]) (fun k => []) (fun k => k ≤ l.length ∧ l.take k = r.take k) (fun k => l.length - k) 0 ⟨Nat.zero_le _, by simp⟩ (Sub.less ⟨(SLe.of_eq rfl), SLe.refl _, SLe.refl _, SLe.refl _, trivial⟩ (fun _ h => h)) ?_
 intro k hk
 refine .sr ?_
 refine .sA (.lss rfl rfl rfl) (.nil ?_)
 refine .seq ?_
 refine .cond rfl (fun h2 => ?_) (fun h2 => ?_)
 ·replace h2 := of_decide_eq_true h2
  rw [List.length_map] at h2
  have hlt : k < l.length := by omega
  have hlr : k < r.length := by omega
  refine .skip ?_
  refine .seq ?_
  refine .block ?_
  refine .sr ?_
  refine .mA ?_
  refine .aA (.nil ?_)
  refine .seq ?_
  refine .draw (by kernel_rfl) (by kernel_rfl) ?_
  refine .sA (.moveD rfl rfl) ?_
  refine .sA (.moveD rfl rfl) ?_
  refine .sA (.indexAddr rfl et_39 rfl rfl k rfl (at_lst hlt) rfl) ?_
  refine .sA (.load rfl sc_3 rfl) ?_
  refine .sA (.moveD rfl rfl) ?_
  refine .sA (.moveD rfl rfl) ?_
  refine .sA (.indexAddr rfl et_39 rfl rfl k rfl (at_lst hlr) rfl) ?_
  refine .sA (.load rfl sc_3 rfl) ?_
  refine .sA (.neq rfl rfl rfl) ?_
  refine .nil ?_
  refine .cond rfl (fun h3 => ?_) (fun h3 => ?_)
  ·replace h3 := of_decide_eq_true h3
   rw [decide_eq_false (show ¬ l = r from fun e => h3 (by subst e; rfl))]
   refine .sr ?_
   refine .aA (.nil ?_)
   refine .ret ?_
   refine ⟨RetD.eq rfl ?_, trivial⟩
   all_goals (rfl)
  replace h3 := of_decide_eq_false h3
  have hT := take_eq hlt hlr hk.2 (by first | exact h3 | omega)
  refine .skip ?_
  refine .region ?_
  refine .sA (.add64 rfl rfl rfl (by omega) (by omega)) ?_
  refine .mA (.nil ?_)
  refine ⟨k + 1, ⟨by omega, hT⟩, (by dsimp only; omega), Sub.less ⟨(SLe.of_eq rfl), SLe.refl _, SLe.refl _, SLe.refl _, trivial⟩ (fun _ h => h)⟩
 replace h2 := of_decide_eq_false h2
 rw [List.length_map] at h2
 obtain rfl : k = l.length := by omega
 rw [decide_eq_true (take_all_eq hle hk.2)]
 refine .exit ?_
 refine .sr ?_
 refine .aA (.nil ?_)
 refine .ret ?_
 refine ⟨RetD.eq rfl ?_, trivial⟩
 all_goals (rfl)

set_option maxRecDepth 100000 in
set_option maxHeartbeats 1000000 in
theorem c_pAlk (a b : Thg) (ha : a.title.size ≤ 1048576) (hb : b.title.size ≤ 1048576) : ACall Tryz.prog 36 [.agg a.ds, .agg b.ds] (.v (.bool (alkB a b))) := by
 refine acall_of (n := 47) (ds' := [.v (.bool (alkB a b))]) Tryz.func36 rfl (by kernel_rfl) rfl [4] rfl rfl ?_
 intro B w0 F0 fr
 refine .sr ?_
 refine .sA (.box rfl rfl rfl) ?_
 refine .sA (.box rfl rfl rfl) ?_
 refine .aA (.nil ?_)
 refine .seq ?_
 refine .seq ?_
 refine .draw (by kernel_rfl) (by kernel_rfl) ?_
 refine .sA (.fieldAddr rfl fo_61_1 rfl) ?_
 refine .sA (.load rfl sc_3 rfl) ?_
 refine .sA (.fieldAddr rfl fo_61_1 rfl) ?_
 refine .sA (.load rfl sc_3 rfl) ?_
 refine .sA (.neq rfl rfl rfl) ?_
 refine .sA (.moveD rfl rfl) ?_
 refine .split 10 rfl (fun g1 => ?_) (fun g1 => ?_)
 ·replace g1 := of_decide_eq_true g1
  rw [alk_k g1]
  refine .pA ?_
  refine .pA ?_
  refine .pA ?_
  refine .pA ?_
  refine .pA ?_
  refine .pA ?_
  refine .pA ?_
  refine .sA (.pickT rfl rfl rfl) ?_
  refine .nil ?_
  refine .cond rfl (fun _ => ?_) (fun h => nomatch h)
  refine .sr ?_
  refine .aA (.nil ?_)
  refine .ret ?_
  refine ⟨RetD.eq rfl ?_, trivial⟩
  all_goals (rfl)
 replace g1 := of_decide_eq_false g1
 have q1 := g1
 refine .sG (.fieldAddr rfl fo_61_2 rfl) ?_
 refine .sG (.load rfl sc_9 rfl) ?_
 refine .sG (.call rfl (.cons (.rfl' rfl) .nil) (c_pFold a.title (by assumption))) ?_
 refine .sG (.fieldAddr rfl fo_61_2 rfl) ?_
 refine .sG (.load rfl sc_9 rfl) ?_
 refine .sG (.call rfl (.cons (.rfl' rfl) .nil) (c_pFold b.title (by assumption))) ?_
 refine .sG (.sneq rfl rfl rfl) ?_
 refine .sA (.pickF rfl rfl rfl) ?_
 refine .nil ?_
 refine .cond rfl (fun h2 => ?_) (fun h2 => ?_)
 ·replace h2 := of_decide_eq_true h2
  rw [alk_t q1 (bs_dec.1 h2)]
  refine .sr ?_
  refine .aA (.nil ?_)
  refine .ret ?_
  refine ⟨RetD.eq rfl ?_, trivial⟩
  all_goals (rfl)
 replace h2 := of_decide_eq_false h2
 have q2 : ¬ fT a ≠ fT b := fun hh => h2 (bs_dec.2 hh)
 refine .skip ?_
 refine .seq ?_
 refine .sr ?_
 refine .sA (.fieldAddr rfl fo_61_1 rfl) ?_
 refine .sA (.load rfl sc_3 rfl) (.nil ?_)
 refine .block ?_
 refine .sr ?_
 refine .sA (.eql rfl rfl rfl) ?_
 refine .aA (.nil ?_)
 refine .cond rfl (fun h3 => ?_) (fun h3 => ?_)
 ·replace h3 := of_decide_eq_true h3
  rw [alk_2 q1 q2 h3]
  refine .sr ?_
  refine .sA (.fieldAddr rfl fo_61_5 rfl) ?_
  refine .sA (.load rfl sc_3 rfl) ?_
  refine .sA (.fieldAddr rfl fo_61_5 rfl) ?_
  refine .sA (.load rfl sc_3 rfl) ?_
  refine .sA (.eql rfl rfl rfl) ?_
  refine .mA ?_
  refine .split 28 rfl (fun g4 => ?_) (fun g4 => ?_)
  ·replace g4 := of_decide_eq_true g4
   rw [if_pos g4]
   refine .sG (.fieldAddr rfl fo_61_5 rfl) ?_
   refine .sG (.load rfl sc_3 rfl) ?_
   refine .sG (.neq rfl rfl rfl) ?_
   refine .sA (.pickT rfl rfl rfl) ?_
   refine .aA (.nil ?_)
   refine .ret ?_
   refine ⟨RetD.eq rfl ?_, trivial⟩
   all_goals (rfl)
  replace g4 := of_decide_eq_false g4
  rw [if_neg g4]
  refine .pA ?_
  refine .pA ?_
  refine .pA ?_
  refine .sA (.pickF rfl rfl rfl) ?_
  refine .aA (.nil ?_)
  refine .ret ?_
  refine ⟨RetD.eq rfl ?_, trivial⟩
  all_goals (rfl)
 replace h3 := of_decide_eq_false h3
 have q3 := h3
 refine .sr ?_
 refine .sA (.eql rfl rfl rfl) ?_
 refine .aA (.nil ?_)
 refine .cond rfl (fun h5 => ?_) (fun h5 => ?_)
 ·replace h5 := of_decide_eq_true h5
  rw [alk_3 q1 q2 h5]
  refine .sr ?_
  refine .sA (.fieldAddr rfl fo_61_6 rfl) ?_
  refine .sA (.load rfl sc_39 rfl) ?_
  refine .sA (.fieldAddr rfl fo_61_6 rfl) ?_
  refine .sA (.load rfl sc_39 rfl) ?_
  refine .sA (.call rfl (.cons (.rfl' rfl) (.cons (.rfl' rfl) .nil)) (c_eqI _ _)) ?_
  refine .aA (.nil ?_)
  refine .ret ?_
  refine ⟨RetD.eq rfl ?_, trivial⟩
  all_goals (rfl)
 replace h5 := of_decide_eq_false h5
 have q4 := h5
 refine .sr ?_
 refine .sA (.eql rfl rfl rfl) ?_
 refine .aA (.nil ?_)
 refine .cond rfl (fun h6 => ?_) (fun h6 => ?_)
 ·replace h6 := of_decide_eq_true h6
  rw [alk_4 q1 q2 h6]
  refine .sr ?_
  refine .sA (.fieldAddr rfl fo_61_5 rfl) ?_
  refine .sA (.load rfl sc_3 rfl) ?_
  refine .sA (.fieldAddr rfl fo_61_5 rfl) ?_
  refine .sA (.load rfl sc_3 rfl) ?_
  refine .sA (.eql rfl rfl rfl) ?_
  refine .aA (.nil ?_)
  refine .ret ?_
  refine ⟨RetD.eq rfl ?_, trivial⟩
  all_goals (rfl)
 replace h6 := of_decide_eq_false h6
 rw [alk_o q1 q2 q3 q4 h6]
 refine .skip ?_
 refine .sr ?_
 refine .aA (.nil ?_)
 refine .ret ?_
 refine ⟨RetD.eq rfl ?_, trivial⟩
 all_goals (rfl)

set_option maxRecDepth 100000 in
set_option maxHeartbeats 1000000 in
theorem c_rAlk (a b : Thg) (ha : a.title.size ≤ 1048576) (hb : b.title.size ≤ 1048576) : ACallT Tryz.prog TSM 38 [.agg a.ds, .agg b.ds] (.v (.bool (alkB a b))) := by
 refine acall_ofT (n := 47) (ds' := [.v (.bool (alkB a b))]) Tryz.func38 rfl (by kernel_rfl) rfl [4] rfl rfl ?_
 intro B w0 F0 hT
 refine .sr ?_
 refine .sA (.box rfl rfl rfl) ?_
 refine .sA (.box rfl rfl rfl) ?_
 refine .aA (.nil ?_)
 refine .seq ?_
 refine .seq ?_
 refine .drawK (by kernel_rfl) (by kernel_rfl) ?_
 refine .step rfl rfl rfl (AOp.toK (.fieldAddr rfl fo_61_1 rfl)) ?_
 refine .step rfl rfl rfl (AOp.toK (.load rfl sc_3 rfl)) ?_
 refine .step rfl rfl rfl (AOp.toK (.fieldAddr rfl fo_61_1 rfl)) ?_
 refine .step rfl rfl rfl (AOp.toK (.load rfl sc_3 rfl)) ?_
 refine .step rfl rfl rfl (AOp.toK (.neq rfl rfl rfl)) ?_
 refine .step rfl rfl rfl (AOp.toK (.moveD rfl rfl)) ?_
 refine .split 10 rfl (fun g1 => ?_) (fun g1 => ?_)
 ·replace g1 := of_decide_eq_true g1
  rw [alk_k g1]
  refine .pass ⟨10, rfl, .inl ⟨_, rfl, rfl⟩⟩ rfl rfl ?_
  refine .pass ⟨10, rfl, .inl ⟨_, rfl, rfl⟩⟩ rfl rfl ?_
  refine .pass ⟨10, rfl, .inl ⟨_, rfl, rfl⟩⟩ rfl rfl ?_
  refine .pass ⟨10, rfl, .inl ⟨_, rfl, rfl⟩⟩ rfl rfl ?_
  refine .pass ⟨10, rfl, .inl ⟨_, rfl, rfl⟩⟩ rfl rfl ?_
  refine .pass ⟨10, rfl, .inl ⟨_, rfl, rfl⟩⟩ rfl rfl ?_
  refine .pass ⟨10, rfl, .inl ⟨_, rfl, rfl⟩⟩ rfl rfl ?_
  refine .step rfl rfl rfl (AOp.toK (.pickT rfl rfl rfl)) ?_
  refine .nil ?_
  refine .cond rfl (fun _ => ?_) (fun h => nomatch h)
  refine .sr ?_
  refine .aA (.nil ?_)
  refine .ret ?_
  refine ⟨RetD.eq rfl ?_, trivial⟩
  all_goals (rfl)
 replace g1 := of_decide_eq_false g1
 have q1 := g1
 refine .step ⟨10, rfl, .inl ⟨_, rfl, rfl⟩⟩ rfl rfl (AOp.toK (.fieldAddr rfl fo_61_2 rfl)) ?_
 refine .step ⟨10, rfl, .inl ⟨_, rfl, rfl⟩⟩ rfl rfl (AOp.toK (.load rfl sc_9 rfl)) ?_
 refine .step ⟨10, rfl, .inl ⟨_, rfl, rfl⟩⟩ rfl rfl (AOpK.callT tsm_stays rfl hT rfl (.cons (.rfl' rfl) .nil) (c_rFold a.title (by assumption)).tbt) ?_
 refine .step ⟨10, rfl, .inl ⟨_, rfl, rfl⟩⟩ rfl rfl (AOp.toK (.fieldAddr rfl fo_61_2 rfl)) ?_
 refine .step ⟨10, rfl, .inl ⟨_, rfl, rfl⟩⟩ rfl rfl (AOp.toK (.load rfl sc_9 rfl)) ?_
 refine .step ⟨10, rfl, .inl ⟨_, rfl, rfl⟩⟩ rfl rfl (AOpK.callT tsm_stays rfl hT rfl (.cons (.rfl' rfl) .nil) (c_rFold b.title (by assumption)).tbt) ?_
 refine .step ⟨10, rfl, .inl ⟨_, rfl, rfl⟩⟩ rfl rfl (AOp.toK (.sneq rfl rfl rfl)) ?_
 refine .step rfl rfl rfl (AOp.toK (.pickF rfl rfl rfl)) ?_
 refine .nil ?_
 refine .cond rfl (fun h2 => ?_) (fun h2 => ?_)
 ·replace h2 := of_decide_eq_true h2
  rw [alk_t q1 (bs_dec.1 h2)]
  refine .sr ?_
  refine .aA (.nil ?_)
  refine .ret ?_
  refine ⟨RetD.eq rfl ?_, trivial⟩
  all_goals (rfl)
 replace h2 := of_decide_eq_false h2
 have q2 : ¬ fT a ≠ fT b := fun hh => h2 (bs_dec.2 hh)
 refine .skip ?_
 refine .seq ?_
 refine .sr ?_
 refine .sA (.fieldAddr rfl fo_61_1 rfl) ?_
 refine .sA (.load rfl sc_3 rfl) (.nil ?_)
 refine .block ?_
 refine .sr ?_
 refine .sA (.eql rfl rfl rfl) ?_
 refine .aA (.nil ?_)
 refine .cond rfl (fun h3 => ?_) (fun h3 => ?_)
 ·replace h3 := of_decide_eq_true h3
  rw [alk_2 q1 q2 h3]
  refine .sr ?_
  refine .sA (.fieldAddr rfl fo_61_5 rfl) ?_
  refine .sA (.load rfl sc_3 rfl) ?_
  refine .sA (.fieldAddr rfl fo_61_5 rfl) ?_
  refine .sA (.load rfl sc_3 rfl) ?_
  refine .sA (.eql rfl rfl rfl) ?_
  refine .mA ?_
  refine .split 28 rfl (fun g4 => ?_) (fun g4 => ?_)
  ·replace g4 := of_decide_eq_true g4
   rw [if_pos g4]
   refine .sG (.fieldAddr rfl fo_61_5 rfl) ?_
   refine .sG (.load rfl sc_3 rfl) ?_
   refine .sG (.neq rfl rfl rfl) ?_
   refine .sA (.pickT rfl rfl rfl) ?_
   refine .aA (.nil ?_)
   refine .ret ?_
   refine ⟨RetD.eq rfl ?_, trivial⟩
   all_goals (rfl)
  replace g4 := of_decide_eq_false g4
  rw [if_neg g4]
  refine .pA ?_
  refine .pA ?_
  refine .pA ?_
  refine .sA (.pickF rfl rfl rfl) ?_
  refine .aA (.nil ?_)
  refine .ret ?_
  refine ⟨RetD.eq rfl ?_, trivial⟩
  all_goals (rfl)
 replace h3 := of_decide_eq_false h3
 have q3 := h3
 refine .sr ?_
 refine .sA (.eql rfl rfl rfl) ?_
 refine .aA (.nil ?_)
 refine .cond rfl (fun h5 => ?_) (fun h5 => ?_)
 ·replace h5 := of_decide_eq_true h5
  rw [alk_3 q1 q2 h5]
  refine .sr ?_
  refine .sA (.fieldAddr rfl fo_61_6 rfl) ?_
  refine .sA (.load rfl sc_39 rfl) ?_
  refine .sA (.fieldAddr rfl fo_61_6 rfl) ?_
  refine .sA (.load rfl sc_39 rfl) ?_
  refine .sA (.call rfl (.cons (.rfl' rfl) (.cons (.rfl' rfl) .nil)) (c_eqI _ _)) ?_
  refine .aA (.nil ?_)
  refine .ret ?_
  refine ⟨RetD.eq rfl ?_, trivial⟩
  all_goals (rfl)
 replace h5 := of_decide_eq_false h5
 have q4 := h5
 refine .sr ?_
 refine .sA (.eql rfl rfl rfl) ?_
 refine .aA (.nil ?_)
 refine .cond rfl (fun h6 => ?_) (fun h6 => ?_)
 ·replace h6 := of_decide_eq_true h6
  rw [alk_4 q1 q2 h6]
  refine .sr ?_
  refine .sA (.fieldAddr rfl fo_61_5 rfl) ?_
  refine .sA (.load rfl sc_3 rfl) ?_
  refine .sA (.fieldAddr rfl fo_61_5 rfl) ?_
  refine .sA (.load rfl sc_3 rfl) ?_
  refine .sA (.eql rfl rfl rfl) ?_
  refine .aA (.nil ?_)
  refine .ret ?_
  refine ⟨RetD.eq rfl ?_, trivial⟩
  all_goals (rfl)
 replace h6 := of_decide_eq_false h6
 rw [alk_o q1 q2 q3 q4 h6]
 refine .skip ?_
 refine .sr ?_
 refine .aA (.nil ?_)
 refine .ret ?_
 refine ⟨RetD.eq rfl ?_, trivial⟩
 all_goals (rfl)

set_option maxRecDepth 100000 in
set_option maxHeartbeats 1000000 in
theorem c_ixI (l : List Int) (s : Int) : ACall Tryz.prog 72 [.sl (l.map intD), .v (.int .i64 s)] (.v (.int .i64 (ixG (fun x => decide (s = x)) l))) := by
 refine acall_of (n := 19) (ds' := [.v (.int .i64 (ixG (fun x => decide (s = x)) l))]) Tryz.func72 rfl (by kernel_rfl) rfl [4] rfl rfl ?_
 intro B w0 F0 fr
 refine .bound 0 rfl (fun hbd0 => ?_)
 rw [List.length_map] at hbd0
 refine .sr ?_
 refine .aA (.nil ?_)
 refine .seq ?_
 refine .sr ?_
 refine .mA ?_
 refine .sA (.lenSl rfl et_39.ht rfl) ?_
 refine .mA (.nil ?_)
 refine .block ?_
 refine .loop (G := Nat) (fun k => Env.of [(8, .d (.v (.int .i64 (k : Int)))), (0, .d (.sl (l.map intD))), (1, .d (.v (.int .i64 s))), (7, .d (.v (.int .i64 ((l.map intD).length : Int))))]) (fun k => []) (fun k => k ≤ l.length ∧ ∀ c ∈ l.take k, decide (s = c) = false) (fun k => l.length - k) 0 ⟨Nat.zero_le _, fun c h => by simp at h⟩ (Sub.less ⟨(SLe.of_eq rfl), SLe.refl _, SLe.refl _, SLe.refl _, trivial⟩ (fun _ h => h)) ?_
 intro k hk
 refine .sr ?_
 refine .sA (.lss rfl rfl rfl) (.nil ?_)
 refine .seq ?_
 refine .cond rfl (fun h1 => ?_) (fun h1 => ?_)
 ·replace h1 := of_decide_eq_true h1
  rw [List.length_map] at h1
  have hlt : k < l.length := by omega
  refine .skip ?_
  refine .seq ?_
  refine .block ?_
  refine .sr ?_
  refine .mA ?_
  refine .aA (.nil ?_)
  refine .sr ?_
  refine .mA ?_
  refine .mA ?_
  refine .mA ?_
  refine .sA (.indexAddr rfl et_39 rfl rfl k rfl (at_lst hlt) rfl) ?_
  refine .sA (.load rfl sc_3 rfl) ?_
  refine .sA (.eql rfl rfl rfl) (.nil ?_)
  refine .cond rfl (fun h2 => ?_) (fun h2 => ?_)
  ·replace h2 := of_decide_eq_true h2
   rw [ixg_hit hlt hk.2 (decide_eq_true h2)]
   refine .sr ?_
   refine .mA ?_
   refine .aA (.nil ?_)
   refine .ret ?_
   refine ⟨RetD.eq rfl ?_, trivial⟩
   all_goals (rfl)
  replace h2 := of_decide_eq_false h2
  have HN := ixg_next hlt hk.2 (decide_eq_false h2)
  refine .skip ?_
  refine .region ?_
  refine .sA (.add64 rfl rfl rfl (by omega) (by omega)) ?_
  refine .mA (.nil ?_)
  refine ⟨k + 1, ⟨by omega, HN⟩, (by dsimp only; omega), Sub.less ⟨(SLe.of_eq rfl), SLe.refl _, SLe.refl _, SLe.refl _, trivial⟩ (fun _ h => h)⟩
 replace h1 := of_decide_eq_false h1
 rw [List.length_map] at h1
 obtain rfl : k = l.length := by omega
 rw [ixg_no (by have := hk.2; rwa [List.take_length] at this)]
 refine .exit ?_
 refine .sr ?_
 refine .aA (.nil ?_)
 refine .ret ?_
 refine ⟨RetD.eq rfl ?_, trivial⟩
 all_goals (rfl)

set_option maxRecDepth 100000 in
set_option maxHeartbeats 1000000 in
theorem c_cnI (l : List Int) (s : Int) : ACall Tryz.prog 37 [.sl (l.map intD), .v (.int .i64 s)] (.v (.bool (decide (s ∈ l)))) := by
 refine acall_of (n := 9) (ds' := [.v (.bool (decide (s ∈ l)))]) Tryz.func37 rfl (by kernel_rfl) rfl [4] rfl rfl ?_
 intro B w0 F0 fr
 refine .sr ?_
 refine .aA (.nil ?_)
 refine .sr ?_
 refine .mA ?_
 refine .mA ?_
 refine .sA (.call rfl (.cons (.rfl' rfl) (.cons (.rfl' rfl) .nil)) (c_ixI _ _)) ?_
 refine .sA (.geq rfl rfl rfl) ?_
 refine .aA (.nil ?_)
 refine .ret ?_
 refine ⟨RetD.eq rfl ?_, trivial⟩
 all_goals (first | exact ixg_in | rw [← ixg_in] | (rw [← ixg_in]; rfl))

set_option maxRecDepth 100000 in
set_option maxHeartbeats 4000000 in
theorem c_pDbl (c : Ctl) (hc : CtlOk c) : ACallT Tryz.prog TSM 12 [.agg c.ds] (.tup [.sl ((dblV c).1.map grpD), .v (.int .i64 (dblV c).2)]) := by
 refine acall_ofT (n := 64) (ds' := [.sl ((dblV c).1.map grpD), .v (.int .i64 (dblV c).2)]) Tryz.func12 rfl (by kernel_rfl) rfl [2, 3] rfl rfl ?_
 intro B w0 F0 hT
 refine .sr ?_
 refine .sA (.box rfl rfl rfl) ?_
 refine .aA ?_
 refine .aA (.nil ?_)
 refine .seq ?_
 refine .sr ?_
 refine .sA (.loadAgg rfl ag_25 rfl rfl) ?_
 -- wants the world
 refine .callT rfl rfl rfl hT tsm_stays rfl (.cons (.rfl' rfl) .nil) (c_pChk c hc).mxt ?_
 refine .aA (.nil ?_)
 refine .sr ?_
 refine .mA ?_
 refine .sA (.neq rfl rfl rfl) (.nil ?_)
 refine .cond rfl (fun h1 => ?_) (fun h1 => ?_)
 ·replace h1 := of_decide_eq_true h1
  obtain ⟨E1, E2⟩ := dblV_1 h1
  rw [E1, E2]
  refine .sr ?_
  refine .mA ?_
  refine .aA ?_
  refine .aA (.nil ?_)
  refine .ret ?_
  refine ⟨RetD.nil rfl, RetD.eq rfl ?_, trivial⟩
  all_goals (rfl)
 replace h1 := of_decide_eq_false h1
 have h0 : chkF c = 0 := Decidable.not_not.1 h1
 obtain ⟨E1, E2⟩ := dblV_0 h0
 obtain ⟨hL1, hL2⟩ := (catOk h0).lim
 have hr := (catOk h0).ris
 refine .skip ?_
 refine .sr ?_
 refine .makeMap 91 rfl rfl rfl rfl rfl ?_
 refine .sA (.assignO rfl rfl) (.nil ?_)
 refine .sr ?_
 refine .aA (.nil ?_)
 refine .seq ?_
 refine .sr ?_
 refine .sA (.fieldAddr rfl fo_25_0 rfl) ?_
 refine .sA (.load rfl sc_22 rfl) ?_
 refine .sA (.lenSl rfl et_22.ht rfl) ?_
 refine .mA (.nil ?_)
 refine .block ?_
 refine .adopt 6 1 39 1 rfl rfl ?_
 refine .loop (G := Nat) (fun k => Env.of [(21, .d (.v (.int .i64 (k : Int)))), (19, .d (.sl (c.things.map Thg.ds))), (20, .d (.v (.int .i64 ((c.things.map Thg.ds).length : Int)))), (1, .d (.fp c.ds)), (5, .own 91), (6, .own 1)]) (fun k => [(91, .map (dnM (dblS c.things k).2)), (1, .row 39 1 ((dblS c.things k).1.map grpD))]) (fun k => k ≤ c.things.length) (fun k => c.things.length - k) 0 (Nat.zero_le _) (Sub.less ⟨(SLe.of_eq rfl), SLe.refl _, SLe.refl _, SLe.refl _, SLe.refl _, SLe.refl _, trivial⟩ (all2 (mmap (.tail _ (.head _)) rfl) (mrow (.head _) rfl))) ?_
 intro k hk
 refine .sr ?_
 refine .sA (.lss rfl rfl rfl) (.nil ?_)
 refine .seq ?_
 refine .cond rfl (fun h2 => ?_) (fun h2 => ?_)
 ·replace h2 := of_decide_eq_true h2
  rw [List.length_map] at h2
  have hlt : k < c.things.length := by omega
  have hbk := hc.things _ (List.getElem_mem hlt)
  have hsm := t_small h0 (List.getElem_mem hlt)
  have hgl := dblS_len (l := c.things) k
  have hRl : (c.things.drop (k + 1)).length = c.things.length - (k + 1) := List.length_drop
  refine .skip ?_
  refine .seq ?_
  refine .block ?_
  refine .sr ?_
  refine .mA ?_
  refine .sA (.indexAddr rfl et_22 rfl rfl k rfl (at_lst hlt) rfl) ?_
  refine .sA (.loadAgg rfl ag_61 rfl rfl) ?_
  refine .alloc 102 rfl rfl rfl rfl zt_61 rfl rfl rfl ?_
  refine .aA ?_
  refine .store rfl rfl rfl sz_61 rfl (.head _) rfl rfl rfl (Nat.le_of_ble_eq_true rfl) ?_
  refine .freezeCells 8 (ds := c.things[k].ds) rfl (.head _) (.nil ?_)
  refine .seq ?_
  refine .sr ?_
  refine .sA (.moveO rfl rfl) ?_
  refine .sA (.fieldAddr rfl fo_61_0 rfl) ?_
  refine .sA (.load rfl sc_3 rfl) ?_
  refine .sA (.lookupX (key := kI c.things[k].id) rfl mt_done kd_int zt_bool zd_bool rfl (.head _) rfl (DExact.v _) (kI_ok hbk.id) (dn_keys (dn_ok0 hc.things k)) (dn_get _ _)) (.nil ?_)
  refine .cond rfl (fun h3 => ?_) (fun h3 => ?_)
  ·skip
   have HN := dblS_in hlt (of_decide_eq_true h3)
   refine .exit ?_
   refine .region ?_
   refine .sA (.add64 rfl rfl rfl (by omega) (by omega)) ?_
   refine .mA (.nil ?_)
   refine ⟨k + 1, (by omega), (by dsimp only; omega), Sub.less ⟨(SLe.of_eq rfl), SLe.refl _, SLe.refl _, SLe.refl _, SLe.refl _, SLe.refl _, trivial⟩ (all2 (mmap (.head _) (by rw [HN])) (mrow (.tail _ (.head _)) (by rw [HN]; (try rw [List.map_append]); first | done | rfl)))⟩
  have n1 := of_decide_eq_false h3
  refine .skip ?_
  refine .sr ?_
  refine .sA (.fieldAddr rfl fo_61_0 rfl) ?_
  refine .sA (.load rfl sc_3 rfl) ?_
  refine .buildS 201 rfl rfl rfl rfl et_39 rfl rfl rfl rfl rfl ?_
  refine .sA (.assignO rfl rfl) (.nil ?_)
  refine .seq ?_
  refine .sr ?_
  refine .sA (.fieldAddr rfl fo_25_0 rfl) ?_
  refine .sA (.load rfl sc_22 rfl) ?_
  refine .mA ?_
  refine .sA (.add64 rfl rfl rfl (by omega) (by omega)) ?_
  refine .sA (.sliceL rfl et_22 rfl rfl (by omega) (by rw [List.length_map]; omega) (fun y hy => by obtain ⟨z, _, rfl⟩ := List.mem_map.1 hy; rfl)) ?_
  rw [show (c.things.map Thg.ds).drop (((k : Nat) : Int) + 1).toNat = (c.things.drop (k + 1)).map Thg.ds from by rw [List.map_drop]; congr 1]
  refine .sA (.lenSl rfl et_22.ht rfl) ?_
  refine .mA (.nil ?_)
  refine .block ?_
  refine .loop (G := Nat) (fun j => Env.of [(39, .d (.v (.int .i64 (j : Int)))), (37, .d (.sl ((c.things.drop (k + 1)).map Thg.ds))), (38, .d (.v (.int .i64 (((c.things.drop (k + 1)).map Thg.ds).length : Int)))), (8, .d (.fp c.things[k].ds)), (9, .own 201), (21, .d (.v (.int .i64 (k : Int)))), (19, .d (.sl (c.things.map Thg.ds))), (20, .d (.v (.int .i64 ((c.things.map Thg.ds).length : Int)))), (1, .d (.fp c.ds)), (5, .own 91), (6, .own 1)]) (fun j => [(201, .row 3 1 ((c.things[k].id :: alks c.things[k] ((c.things.drop (k + 1)).take j)).map intD)), (91, .map (dnM ((dblS c.things k).2 ++ alks c.things[k] ((c.things.drop (k + 1)).take j)))), (1, .row 39 1 ((dblS c.things k).1.map grpD))]) (fun j => j ≤ (c.things.drop (k + 1)).length) (fun j => (c.things.drop (k + 1)).length - j) 0 (Nat.zero_le _) (Sub.less ⟨(SLe.of_eq rfl), SLe.refl _, SLe.refl _, SLe.refl _, SLe.refl _, SLe.refl _, SLe.refl _, SLe.refl _, SLe.refl _, SLe.refl _, SLe.refl _, trivial⟩ (all3 (mrow (.head _) rfl) (mmap (.tail _ (.head _)) (by rw [List.take_zero, alks_nil, List.append_nil])) (mrow (.tail _ (.tail _ (.head _))) rfl))) ?_
  intro j hj
  refine .sr ?_
  refine .sA (.lss rfl rfl rfl) (.nil ?_)
  refine .seq ?_
  refine .cond rfl (fun h4 => ?_) (fun h4 => ?_)
  ·replace h4 := of_decide_eq_true h4
   rw [List.length_map] at h4
   have hjl : j < (c.things.drop (k + 1)).length := by omega
   have hal := alks_len c.things[k] ((c.things.drop (k + 1)).take j)
   rw [List.length_take] at hal
   have hsj := t_small h0 (List.mem_of_mem_drop (List.getElem_mem hjl))
   have hbj := hc.things _ (List.mem_of_mem_drop (List.getElem_mem hjl))
   refine .skip ?_
   refine .seq ?_
   refine .block ?_
   refine .sr ?_
   refine .sA (.indexAddr rfl et_22 rfl rfl j rfl (at_lst hjl) rfl) ?_
   refine .sA (.loadAgg rfl ag_61 rfl rfl) ?_
   refine .alloc 104 rfl rfl rfl rfl zt_61 rfl rfl rfl ?_
   refine .store rfl rfl rfl sz_61 rfl (.head _) rfl rfl rfl (Nat.le_of_ble_eq_true rfl) ?_
   refine .freezeCells 11 (ds := (c.things.drop (k + 1))[j].ds) rfl (.head _) (.nil ?_)
   refine .sr ?_
   refine .sA (.loadAgg rfl ag_61 rfl rfl) ?_
   refine .sA (.loadAgg rfl ag_61 rfl rfl) ?_
   refine .sA (.call rfl (.cons (.rfl' rfl) (.cons (.rfl' rfl) .nil)) (c_pAlk c.things[k] (c.things.drop (k + 1))[j] hsm hsj)) (.nil ?_)
   refine .cond rfl (fun h5 => ?_) (fun h5 => ?_)
   ·skip
    have HA := alks_yes hjl h5
    refine .sr ?_
    refine .sA (.moveO rfl rfl) ?_
    refine .sA (.fieldAddr rfl fo_61_0 rfl) ?_
    refine .sA (.load rfl sc_3 rfl) ?_
    refine .sA (.buildSlice rfl et_39 (.cons rfl rfl rfl .nil) rfl (by decide)) ?_
    -- append 50
    refine .append rfl rfl rfl rfl et_39 rfl (.head _) rfl (fun y hy => by obtain rfl := List.mem_singleton.1 hy; rfl) (by simp; omega) (by simp; omega) ?_
    refine .sA (.assignO rfl rfl) (.nil ?_)
    refine .region ?_
    refine .sA (.moveO rfl rfl) ?_
    refine .sA (.fieldAddr rfl fo_61_0 rfl) ?_
    refine .sA (.load rfl sc_3 rfl) ?_
    refine .eff rfl rfl (.mapUpdateX (key := kI (c.things.drop (k + 1))[j].id) rfl rfl mt_done kd_int rfl (.tail _ (.head _)) rfl (DExact.v _) rfl (kI_ok hbj.id) (dn_keys (dn_ok hc.things k c.things[k] j)) (dn_put _ _)) (.nil ?_)
    refine .region ?_
    refine .sA (.add64 rfl rfl rfl (by omega) (by omega)) ?_
    refine .mA (.nil ?_)
    refine ⟨j + 1, (by omega), (by dsimp only; omega), Sub.less ⟨(SLe.of_eq rfl), SLe.refl _, SLe.refl _, SLe.refl _, SLe.refl _, SLe.refl _, SLe.refl _, SLe.refl _, SLe.refl _, SLe.refl _, SLe.refl _, trivial⟩ (all3 (mrow (.head _) (by rw [HA]; (try rw [← List.cons_append, List.map_append]); first | done | rfl)) (mmap (.tail _ (.head _)) (by rw [HA]; (try rw [List.append_assoc]))) (mrow (.tail _ (.tail _ (.head _))) rfl))⟩
   have HA := alks_no hjl h5
   refine .skip ?_
   refine .region ?_
   refine .sA (.add64 rfl rfl rfl (by omega) (by omega)) ?_
   refine .mA (.nil ?_)
   refine ⟨j + 1, (by omega), (by dsimp only; omega), Sub.less ⟨(SLe.of_eq rfl), SLe.refl _, SLe.refl _, SLe.refl _, SLe.refl _, SLe.refl _, SLe.refl _, SLe.refl _, SLe.refl _, SLe.refl _, SLe.refl _, trivial⟩ (all3 (mrow (.head _) (by rw [HA]; (try rw [← List.cons_append, List.map_append]); first | done | rfl)) (mmap (.tail _ (.head _)) (by rw [HA]; (try rw [List.append_assoc]))) (mrow (.tail _ (.tail _ (.head _))) rfl))⟩
  replace h4 := of_decide_eq_false h4
  rw [List.length_map] at h4
  obtain rfl : j = (c.things.drop (k + 1)).length := by omega
  have hal := alks_len c.things[k] (c.things.drop (k + 1))
  rw [List.take_length]
  refine .exit ?_
  refine .sr ?_
  refine .freeze 9 rfl (.head _) ?_
  refine .mA ?_
  refine .sA (.lenSl rfl et_39.ht rfl) ?_
  refine .sA (.gtr rfl rfl rfl) (.nil ?_)
  refine .cond rfl (fun h6 => ?_) (fun h6 => ?_)
  ·replace h6 := of_decide_eq_true h6
   have HN := dblS_more hlt n1 (by simp at h6; omega)
   refine .region ?_
   refine .sA (.moveO rfl rfl) ?_
   refine .mA ?_
   refine .sA (.buildSlice rfl et_35 (.cons rfl rfl rfl .nil) rfl (by decide)) ?_
   -- append 61
   refine .append rfl rfl rfl rfl et_35 rfl (.tail _ (.head _)) rfl (fun y hy => by obtain rfl := List.mem_singleton.1 hy; rfl) (by simp; omega) (by simp; omega) ?_
   refine .sA (.assignO rfl rfl) (.nil ?_)
   refine .region ?_
   refine .sA (.add64 rfl rfl rfl (by omega) (by omega)) ?_
   refine .mA (.nil ?_)
   refine ⟨k + 1, (by omega), (by dsimp only; omega), Sub.less ⟨(SLe.of_eq rfl), SLe.refl _, SLe.refl _, SLe.refl _, SLe.refl _, SLe.refl _, trivial⟩ (all2 (mmap (.head _) (by rw [HN])) (mrow (.tail _ (.head _)) (by rw [HN]; (try rw [List.map_append]); first | done | rfl)))⟩
  replace h6 := of_decide_eq_false h6
  have HN := dblS_one hlt n1 (by simp at h6; omega)
  refine .skip ?_
  refine .region ?_
  refine .sA (.add64 rfl rfl rfl (by omega) (by omega)) ?_
  refine .mA (.nil ?_)
  refine ⟨k + 1, (by omega), (by dsimp only; omega), Sub.less ⟨(SLe.of_eq rfl), SLe.refl _, SLe.refl _, SLe.refl _, SLe.refl _, SLe.refl _, trivial⟩ (all2 (mmap (.head _) (by rw [HN])) (mrow (.tail _ (.head _)) (by rw [HN]; (try rw [List.map_append]); first | done | rfl)))⟩
 replace h2 := of_decide_eq_false h2
 rw [List.length_map] at h2
 obtain rfl : k = c.things.length := by omega
 rw [E1, E2]
 refine .exit ?_
 refine .sr ?_
 refine .sA (.moveO rfl rfl) ?_
 refine .sA (.assignO rfl rfl) ?_
 refine .aA (.nil ?_)
 refine .ret ?_
 refine ⟨RetD.own rfl (.tail _ (.head _)) ?_, RetD.eq rfl ?_, trivial⟩
 all_goals (rfl)

end Go.Proofs.YthcdjmkkgbcaaaaGreatDoor

namespace Go.Proofs.YthcdjmkkgbcaaaaGreatDoor
open Go.RowKit
set_option linter.unusedVariables false

/-! Types. -/
namespace TyYC
end TyYC
open TyH3 TyH4 TyH5 TyJ3 TyJ4 TyJ5 TyKA TyKB TyKC TyKD TyKE TyKF TyKG TyYA TyYB TyYC

set_option linter.unusedSimpArgs false
theorem dblR_le {c : Ctl} (hl : c.things.length ≤ 300) {k : Nat} (hk : k ≤ c.things.length) : (dblR c.things k).length ≤ 90300 := by
  have h1 := dblR_len (l := c.things) k
  have h2 : k * (c.things.length + 1) ≤ 300 * 301 := Nat.mul_le_mul (by omega) (by omega)
  omega

set_option maxRecDepth 100000 in
set_option maxHeartbeats 4000000 in
theorem c_rDbl (c : Ctl) (hc : CtlOk c) : ACallT Tryz.prog TSM 13 [.agg c.ds] (.tup [.sl ((dblV c).1.map grpD), .v (.int .i64 (dblV c).2)]) := by
 refine acall_ofT (n := 63) (ds' := [.sl ((dblV c).1.map grpD), .v (.int .i64 (dblV c).2)]) Tryz.func13 rfl (by kernel_rfl) rfl [2, 3] rfl rfl ?_
 intro B w0 F0 hT
 refine .sr ?_
 refine .sA (.box rfl rfl rfl) ?_
 refine .aA ?_
 refine .aA (.nil ?_)
 refine .seq ?_
 refine .sr ?_
 refine .sA (.loadAgg rfl ag_25 rfl rfl) ?_
 -- wants the world
 refine .callT rfl rfl rfl hT tsm_stays rfl (.cons (.rfl' rfl) .nil) (c_rChk c hc).mxt ?_
 refine .aA (.nil ?_)
 refine .sr ?_
 refine .mA ?_
 refine .sA (.neq rfl rfl rfl) (.nil ?_)
 refine .cond rfl (fun h1 => ?_) (fun h1 => ?_)
 ·replace h1 := of_decide_eq_true h1
  obtain ⟨E1, E2⟩ := dblV_1 h1
  rw [E1, E2]
  refine .sr ?_
  refine .mA ?_
  refine .aA ?_
  refine .aA (.nil ?_)
  refine .ret ?_
  refine ⟨RetD.nil rfl, RetD.eq rfl ?_, trivial⟩
  all_goals (rfl)
 replace h1 := of_decide_eq_false h1
 have h0 : chkF c = 0 := Decidable.not_not.1 h1
 obtain ⟨E1, E2⟩ := dblV_0 h0
 obtain ⟨hL1, hL2⟩ := (catOk h0).lim
 have hr := (catOk h0).ris
 refine .skip ?_
 refine .sr ?_
 refine .aA (.nil ?_)
 refine .sr ?_
 refine .aA (.nil ?_)
 refine .seq ?_
 refine .sr ?_
 refine .sA (.fieldAddr rfl fo_25_0 rfl) ?_
 refine .sA (.load rfl sc_22 rfl) ?_
 refine .sA (.lenSl rfl et_22.ht rfl) ?_
 refine .mA (.nil ?_)
 refine .block ?_
 refine .adopt 5 1 39 1 rfl rfl ?_
 refine .adopt 6 2 3 1 rfl rfl ?_
 refine .loop (G := Nat) (fun k => Env.of [(20, .d (.v (.int .i64 (k : Int)))), (18, .d (.sl (c.things.map Thg.ds))), (19, .d (.v (.int .i64 ((c.things.map Thg.ds).length : Int)))), (1, .d (.fp c.ds)), (5, .own 1), (6, .own 2)]) (fun k => [(2, .row 3 1 ((dblR c.things k).map intD)), (1, .row 39 1 ((dblS c.things k).1.map grpD))]) (fun k => k ≤ c.things.length) (fun k => c.things.length - k) 0 (Nat.zero_le _) (Sub.less ⟨(SLe.of_eq rfl), SLe.refl _, SLe.refl _, SLe.refl _, SLe.refl _, SLe.refl _, trivial⟩ (all2 (mrow (.head _) rfl) (mrow (.tail _ (.head _)) rfl))) ?_
 intro k hk
 refine .sr ?_
 refine .sA (.lss rfl rfl rfl) (.nil ?_)
 refine .seq ?_
 refine .cond rfl (fun h2 => ?_) (fun h2 => ?_)
 ·replace h2 := of_decide_eq_true h2
  rw [List.length_map] at h2
  have hlt : k < c.things.length := by omega
  have hbk := hc.things _ (List.getElem_mem hlt)
  have hsm := t_small h0 (List.getElem_mem hlt)
  have hgl := dblS_len (l := c.things) k
  have hRl : (c.things.drop (k + 1)).length = c.things.length - (k + 1) := List.length_drop
  have hdr := dblR_le hL1 (k := k) (by omega)
  have hsame := dbl_same hr k k hlt (Nat.le_refl k)
  refine .skip ?_
  refine .seq ?_
  refine .block ?_
  refine .sr ?_
  refine .mA ?_
  refine .sA (.indexAddr rfl et_22 rfl rfl k rfl (at_lst hlt) rfl) ?_
  refine .sA (.loadAgg rfl ag_61 rfl rfl) ?_
  refine .alloc 101 rfl rfl rfl rfl zt_61 rfl rfl rfl ?_
  refine .aA ?_
  refine .store rfl rfl rfl sz_61 rfl (.head _) rfl rfl rfl (Nat.le_of_ble_eq_true rfl) ?_
  refine .freezeCells 8 (ds := c.things[k].ds) rfl (.head _) (.nil ?_)
  refine .seq ?_
  refine .sr ?_
  refine .sA (.moveO rfl rfl) ?_
  refine .sA (.fieldAddr rfl fo_61_0 rfl) ?_
  refine .sA (.load rfl sc_3 rfl) ?_
  refine .sA (.callV rfl (.cons (.own rfl (.head _)) (.cons (.d rfl) .nil)) (c_cnI _ _)) (.nil ?_)
  refine .cond rfl (fun h3 => ?_) (fun h3 => ?_)
  ·replace h3 := of_decide_eq_true h3
   have HN := dblS_in hlt (hsame.1 h3)
   have HD := dblR_in hlt (hsame.1 h3)
   refine .exit ?_
   refine .region ?_
   refine .sA (.add64 rfl rfl rfl (by omega) (by omega)) ?_
   refine .mA (.nil ?_)
   refine ⟨k + 1, (by omega), (by dsimp only; omega), Sub.less ⟨(SLe.of_eq rfl), SLe.refl _, SLe.refl _, SLe.refl _, SLe.refl _, SLe.refl _, trivial⟩ (all2 (mrow (.head _) (by rw [HD]; (try rw [List.map_append]); first | done | rfl)) (mrow (.tail _ (.head _)) (by rw [HN]; (try rw [List.map_append]); first | done | rfl)))⟩
  replace h3 := of_decide_eq_false h3
  have n1 := fun hh => h3 (hsame.2 hh)
  have HD := dblR_out hlt n1
  refine .skip ?_
  refine .sr ?_
  refine .sA (.fieldAddr rfl fo_61_0 rfl) ?_
  refine .sA (.load rfl sc_3 rfl) ?_
  refine .buildS 201 rfl rfl rfl rfl et_39 rfl rfl rfl rfl rfl ?_
  refine .sA (.assignO rfl rfl) (.nil ?_)
  refine .seq ?_
  refine .sr ?_
  refine .sA (.fieldAddr rfl fo_25_0 rfl) ?_
  refine .sA (.load rfl sc_22 rfl) ?_
  refine .mA ?_
  refine .sA (.add64 rfl rfl rfl (by omega) (by omega)) ?_
  refine .sA (.sliceL rfl et_22 rfl rfl (by omega) (by rw [List.length_map]; omega) (fun y hy => by obtain ⟨z, _, rfl⟩ := List.mem_map.1 hy; rfl)) ?_
  rw [show (c.things.map Thg.ds).drop (((k : Nat) : Int) + 1).toNat = (c.things.drop (k + 1)).map Thg.ds from by rw [List.map_drop]; congr 1]
  refine .sA (.lenSl rfl et_22.ht rfl) ?_
  refine .mA (.nil ?_)
  refine .block ?_
  refine .loop (G := Nat) (fun j => Env.of [(38, .d (.v (.int .i64 (j : Int)))), (36, .d (.sl ((c.things.drop (k + 1)).map Thg.ds))), (37, .d (.v (.int .i64 (((c.things.drop (k + 1)).map Thg.ds).length : Int)))), (8, .d (.fp c.things[k].ds)), (9, .own 201), (20, .d (.v (.int .i64 (k : Int)))), (18, .d (.sl (c.things.map Thg.ds))), (19, .d (.v (.int .i64 ((c.things.map Thg.ds).length : Int)))), (1, .d (.fp c.ds)), (5, .own 1), (6, .own 2)]) (fun j => [(201, .row 3 1 ((c.things[k].id :: alks c.things[k] ((c.things.drop (k + 1)).take j)).map intD)), (2, .row 3 1 ((dblR c.things k).map intD)), (1, .row 39 1 ((dblS c.things k).1.map grpD))]) (fun j => j ≤ (c.things.drop (k + 1)).length) (fun j => (c.things.drop (k + 1)).length - j) 0 (Nat.zero_le _) (Sub.less ⟨(SLe.of_eq rfl), SLe.refl _, SLe.refl _, SLe.refl _, SLe.refl _, SLe.refl _, SLe.refl _, SLe.refl _, SLe.refl _, SLe.refl _, SLe.refl _, trivial⟩ (all3 (mrow (.head _) rfl) (mrow (.tail _ (.head _)) rfl) (mrow (.tail _ (.tail _ (.head _))) rfl))) ?_
  intro j hj
  refine .sr ?_
  refine .sA (.lss rfl rfl rfl) (.nil ?_)
  refine .seq ?_
  refine .cond rfl (fun h4 => ?_) (fun h4 => ?_)
  ·replace h4 := of_decide_eq_true h4
   rw [List.length_map] at h4
   have hjl : j < (c.things.drop (k + 1)).length := by omega
   have hal := alks_len c.things[k] ((c.things.drop (k + 1)).take j)
   rw [List.length_take] at hal
   have hsj := t_small h0 (List.mem_of_mem_drop (List.getElem_mem hjl))
   have hbj := hc.things _ (List.mem_of_mem_drop (List.getElem_mem hjl))
   refine .skip ?_
   refine .seq ?_
   refine .block ?_
   refine .sr ?_
   refine .sA (.indexAddr rfl et_22 rfl rfl j rfl (at_lst hjl) rfl) ?_
   refine .sA (.loadAgg rfl ag_61 rfl rfl) ?_
   refine .alloc 103 rfl rfl rfl rfl zt_61 rfl rfl rfl ?_
   refine .store rfl rfl rfl sz_61 rfl (.head _) rfl rfl rfl (Nat.le_of_ble_eq_true rfl) ?_
   refine .freezeCells 11 (ds := (c.things.drop (k + 1))[j].ds) rfl (.head _) (.nil ?_)
   refine .sr ?_
   refine .sA (.loadAgg rfl ag_61 rfl rfl) ?_
   refine .sA (.loadAgg rfl ag_61 rfl rfl) ?_
   -- wants the world
   refine .callT rfl rfl rfl hT tsm_stays rfl (.cons (.rfl' rfl) (.cons (.rfl' rfl) .nil)) (c_rAlk c.things[k] (c.things.drop (k + 1))[j] hsm hsj) ?_
   refine .nil ?_
   refine .cond rfl (fun h5 => ?_) (fun h5 => ?_)
   ·skip
    have HA := alks_yes hjl h5
    refine .region ?_
    refine .sA (.moveO rfl rfl) ?_
    refine .sA (.fieldAddr rfl fo_61_0 rfl) ?_
    refine .sA (.load rfl sc_3 rfl) ?_
    refine .sA (.buildSlice rfl et_39 (.cons rfl rfl rfl .nil) rfl (by decide)) ?_
    -- append 49
    refine .append rfl rfl rfl rfl et_39 rfl (.head _) rfl (fun y hy => by obtain rfl := List.mem_singleton.1 hy; rfl) (by simp; omega) (by simp; omega) ?_
    refine .sA (.assignO rfl rfl) (.nil ?_)
    refine .region ?_
    refine .sA (.add64 rfl rfl rfl (by omega) (by omega)) ?_
    refine .mA (.nil ?_)
    refine ⟨j + 1, (by omega), (by dsimp only; omega), Sub.less ⟨(SLe.of_eq rfl), SLe.refl _, SLe.refl _, SLe.refl _, SLe.refl _, SLe.refl _, SLe.refl _, SLe.refl _, SLe.refl _, SLe.refl _, SLe.refl _, trivial⟩ (all3 (mrow (.head _) (by rw [HA]; (try rw [← List.cons_append, List.map_append]); first | done | rfl)) (mrow (.tail _ (.head _)) rfl) (mrow (.tail _ (.tail _ (.head _))) rfl))⟩
   have HA := alks_no hjl h5
   refine .skip ?_
   refine .region ?_
   refine .sA (.add64 rfl rfl rfl (by omega) (by omega)) ?_
   refine .mA (.nil ?_)
   refine ⟨j + 1, (by omega), (by dsimp only; omega), Sub.less ⟨(SLe.of_eq rfl), SLe.refl _, SLe.refl _, SLe.refl _, SLe.refl _, SLe.refl _, SLe.refl _, SLe.refl _, SLe.refl _, SLe.refl _, SLe.refl _, trivial⟩ (all3 (mrow (.head _) (by rw [HA]; (try rw [← List.cons_append, List.map_append]); first | done | rfl)) (mrow (.tail _ (.head _)) rfl) (mrow (.tail _ (.tail _ (.head _))) rfl))⟩
  replace h4 := of_decide_eq_false h4
  rw [List.length_map] at h4
  obtain rfl : j = (c.things.drop (k + 1)).length := by omega
  have hal := alks_len c.things[k] (c.things.drop (k + 1))
  rw [List.take_length]
  refine .exit ?_
  refine .sr ?_
  refine .sA (.moveO rfl rfl) ?_
  refine .freeze 9 rfl (.head _) ?_
  refine .mA ?_
  -- append 53
  refine .append rfl rfl rfl rfl et_39 rfl (.head _) rfl (fun y hy => by obtain ⟨z, _, rfl⟩ := List.mem_map.1 hy; rfl) (by simp; omega) (by simp; omega) ?_
  refine .sA (.assignO rfl rfl) (.nil ?_)
  refine .sr ?_
  refine .mA ?_
  refine .sA (.lenSl rfl et_39.ht rfl) ?_
  refine .sA (.gtr rfl rfl rfl) (.nil ?_)
  refine .cond rfl (fun h6 => ?_) (fun h6 => ?_)
  ·replace h6 := of_decide_eq_true h6
   have HN := dblS_more hlt n1 (by simp at h6; omega)
   refine .region ?_
   refine .sA (.moveO rfl rfl) ?_
   refine .mA ?_
   refine .sA (.buildSlice rfl et_35 (.cons rfl rfl rfl .nil) rfl (by decide)) ?_
   -- append 60
   refine .append rfl rfl rfl rfl et_35 rfl (.tail _ (.head _)) rfl (fun y hy => by obtain rfl := List.mem_singleton.1 hy; rfl) (by simp; omega) (by simp; omega) ?_
   refine .sA (.assignO rfl rfl) (.nil ?_)
   refine .region ?_
   refine .sA (.add64 rfl rfl rfl (by omega) (by omega)) ?_
   refine .mA (.nil ?_)
   refine ⟨k + 1, (by omega), (by dsimp only; omega), Sub.less ⟨(SLe.of_eq rfl), SLe.refl _, SLe.refl _, SLe.refl _, SLe.refl _, SLe.refl _, trivial⟩ (all2 (mrow (.head _) (by rw [HD]; (try rw [List.map_append]); first | done | rfl)) (mrow (.tail _ (.head _)) (by rw [HN]; (try rw [List.map_append]); first | done | rfl)))⟩
  replace h6 := of_decide_eq_false h6
  have HN := dblS_one hlt n1 (by simp at h6; omega)
  refine .skip ?_
  refine .region ?_
  refine .sA (.add64 rfl rfl rfl (by omega) (by omega)) ?_
  refine .mA (.nil ?_)
  refine ⟨k + 1, (by omega), (by dsimp only; omega), Sub.less ⟨(SLe.of_eq rfl), SLe.refl _, SLe.refl _, SLe.refl _, SLe.refl _, SLe.refl _, trivial⟩ (all2 (mrow (.head _) (by rw [HD]; (try rw [List.map_append]); first | done | rfl)) (mrow (.tail _ (.head _)) (by rw [HN]; (try rw [List.map_append]); first | done | rfl)))⟩
 replace h2 := of_decide_eq_false h2
 rw [List.length_map] at h2
 obtain rfl : k = c.things.length := by omega
 rw [E1, E2]
 refine .exit ?_
 refine .sr ?_
 refine .sA (.moveO rfl rfl) ?_
 refine .sA (.assignO rfl rfl) ?_
 refine .aA (.nil ?_)
 refine .ret ?_
 refine ⟨RetD.own rfl (.tail _ (.head _)) ?_, RetD.eq rfl ?_, trivial⟩
 all_goals (rfl)

set_option maxRecDepth 100000 in
set_option maxHeartbeats 1000000 in
theorem c_sameG (l : List (List Int)) : ACall Tryz.prog 14 [.sl (l.map grpD), .sl (l.map grpD)] (.v (.bool true)) := by
 refine acall_of (n := 27) (ds' := [.v (.bool true)]) Tryz.func14 rfl (by kernel_rfl) rfl [4] rfl rfl ?_
 intro B w0 F0 fr
 refine .bound 0 rfl (fun hbd0 => ?_)
 rw [List.length_map] at hbd0
 refine .sr ?_
 refine .aA (.nil ?_)
 refine .seq ?_
 refine .sr ?_
 refine .mA ?_
 refine .sA (.lenSl rfl et_35.ht rfl) ?_
 refine .mA ?_
 refine .sA (.lenSl rfl et_35.ht rfl) ?_
 refine .sA (.neq rfl rfl rfl) (.nil ?_)
 refine .cond rfl (fun h1 => ?_) (fun h1 => ?_)
 ·replace h1 := of_decide_eq_true h1
  exact absurd rfl h1
 replace h1 := of_decide_eq_false h1
 refine .skip ?_
 refine .seq ?_
 refine .sr ?_
 refine .mA ?_
 refine .sA (.lenSl rfl et_35.ht rfl) ?_
 refine .mA (.nil ?_)
 refine .block ?_
 refine .loop (G := Nat) (fun k => Env.of [(13, .d (.v (.int .i64 (k : Int)))), (0, .d (.sl (l.map grpD))), (1, .d (.sl (l.map grpD))), (12, .d (.v (.int .i64 ((l.map grpD).length : Int))))]) (fun k => []) (fun k => k ≤ l.length) (fun k => l.length - k) 0 (Nat.zero_le _) (Sub.less ⟨(SLe.of_eq rfl), SLe.refl _, SLe.refl _, SLe.refl _, trivial⟩ (fun _ h => h)) ?_
 intro k hk
 refine .sr ?_
 refine .sA (.lss rfl rfl rfl) (.nil ?_)
 refine .seq ?_
 refine .cond rfl (fun h2 => ?_) (fun h2 => ?_)
 ·replace h2 := of_decide_eq_true h2
  rw [List.length_map] at h2
  have hlt : k < l.length := by omega
  refine .skip ?_
  refine .seq ?_
  refine .block ?_
  refine .sr ?_
  refine .mA ?_
  refine .aA (.nil ?_)
  refine .seq ?_
  refine .draw (by kernel_rfl) (by kernel_rfl) ?_
  refine .sA (.moveD rfl rfl) ?_
  refine .sA (.moveD rfl rfl) ?_
  refine .sA (.indexAddr rfl et_35 rfl rfl k rfl (at_lst hlt) rfl) ?_
  refine .sA (.load rfl sc_39 rfl) ?_
  refine .sA (.moveD rfl rfl) ?_
  refine .sA (.moveD rfl rfl) ?_
  refine .sA (.indexAddr rfl et_35 rfl rfl k rfl (at_lst hlt) rfl) ?_
  refine .sA (.load rfl sc_39 rfl) ?_
  refine .sA (.call rfl (.cons (.rfl' rfl) (.cons (.rfl' rfl) .nil)) (c_eqI l[k] l[k])) ?_
  refine .sA (.not rfl rfl) ?_
  refine .nil ?_
  refine .cond rfl (fun h3 => ?_) (fun h3 => ?_)
  ·replace h3 := bnot_t h3; replace h3 := of_decide_eq_false h3
   exact absurd rfl h3
  replace h3 := bnot_f h3; replace h3 := of_decide_eq_true h3
  refine .skip ?_
  refine .region ?_
  refine .sA (.add64 rfl rfl rfl (by omega) (by omega)) ?_
  refine .mA (.nil ?_)
  refine ⟨k + 1, (by omega), (by dsimp only; omega), Sub.less ⟨(SLe.of_eq rfl), SLe.refl _, SLe.refl _, SLe.refl _, trivial⟩ (fun _ h => h)⟩
 replace h2 := of_decide_eq_false h2
 skip
 refine .exit ?_
 refine .sr ?_
 refine .aA (.nil ?_)
 refine .ret ?_
 refine ⟨RetD.eq rfl ?_, trivial⟩
 all_goals (rfl)

end Go.Proofs.YthcdjmkkgbcaaaaGreatDoor

namespace Go.Proofs.YthcdjmkkgbcaaaaGreatDoor
open Go.RowKit
set_option linter.unusedVariables false

/-! Types. -/
namespace TyYD
theorem sz_9 : ∀ w, (sizeOf 9).run Tryz.prog w = .ok 1 w := SizeT.of (by kernel_rfl)
theorem zt_9 : (Tryz.prog.info? 9).bind (·.zero) = some (.string ⟨#[]⟩) := by kernel_rfl
end TyYD
open TyH3 TyH4 TyH5 TyJ3 TyJ4 TyJ5 TyKA TyKB TyKC TyKD TyKE TyKF TyKG TyYA TyYB TyYC TyYD

open Go.Lib
set_option linter.unusedSimpArgs false
theorem pStep_asc {b : List UInt8} {c : UInt8} (h : ∀ x ∈ b, x.toNat < 128) : ∀ x ∈ pStep b c, x.toNat < 128 := fun x hx => by
  unfold pStep at hx
  split at hx
  · rename_i ha
    rcases List.mem_append.1 hx with hx | hx
    · exact h x hx
    · obtain rfl := List.mem_singleton.1 hx
      have := aln_iff.1 ha; omega
  · split at hx
    · rcases List.mem_append.1 hx with hx | hx
      · exact h x hx
      · obtain rfl := List.mem_singleton.1 hx; decide
    · exact h x hx
theorem pFold_asc : ∀ (l b : List UInt8), (∀ x ∈ b, x.toNat < 128) → ∀ x ∈ l.foldl pStep b, x.toNat < 128
  | [], b, h => h
  | c :: l, b, h => pFold_asc l _ (pStep_asc h)
theorem fold_asc (l : List UInt8) : ∀ x ∈ foldS l, x.toNat < 128 := fun x hx => by
  have h0 := pFold_asc l [] (fun x hx => by cases hx)
  have h1 : ∀ x ∈ Lib.trimSuffix (l.foldl pStep []) [32], x.toNat < 128 := fun x hx => by
    unfold Lib.trimSuffix at hx
    split at hx
    · exact h0 x (List.mem_of_mem_take hx)
    · exact h0 x hx
  unfold foldS strip at hx
  repeat' split at hx
  all_goals first | exact h1 x hx | exact h1 x (List.mem_of_mem_drop hx)
theorem foldS_le (l : List UInt8) : (foldS l).length ≤ l.length := by
  have h1 := trim_le (l.foldl pStep []) [32]
  have h2 := fold_len l l.length
  rw [List.take_length] at h2
  unfold foldS strip
  repeat' split
  all_goals (try rw [List.length_drop]); omega
theorem c_fldF (l : List UInt8) (h : l.length ≤ 1048576) : ACallT Tryz.prog TSM 39 [.v (.string (bStr (foldS l)))] (.sl ((Lib.fields (foldS l)).map fldD)) := (c_fieldsL (foldS l) (by have := foldS_le l; omega) (fold_asc l)).tbt
/-! ## Points -/
def wp (h : List (List UInt8)) (w : List UInt8) : Int := if w ∈ h then 3 else if h.any (fun x => Lib.hasPrefix x w) = true then 1 else 0
theorem wp_3 {h : List (List UInt8)} {w : List UInt8} (h1 : w ∈ h) : wp h w = 3 := if_pos h1
theorem wp_1 {h : List (List UInt8)} {w : List UInt8} (h1 : ¬ w ∈ h) (h2 : h.any (fun x => Lib.hasPrefix x w) = true) : wp h w = 1 := by unfold wp; rw [if_neg h1, if_pos h2]
theorem wp_0 {h : List (List UInt8)} {w : List UInt8} (h1 : ¬ w ∈ h) (h2 : h.any (fun x => Lib.hasPrefix x w) = false) : wp h w = 0 := by unfold wp; rw [if_neg h1, if_neg (by rw [h2]; decide)]
theorem wp_le (h : List (List UInt8)) (w : List UInt8) : 0 ≤ wp h w ∧ wp h w ≤ 3 := by
  unfold wp
  split
  · exact ⟨by decide, by decide⟩
  · split
    · exact ⟨by decide, by decide⟩
    · exact ⟨by decide, by decide⟩
def sumW (h ws : List (List UInt8)) : Int := (ws.map (wp h)).sum
def okW (h ws : List (List UInt8)) : Bool := ws.all fun w => decide (wp h w ≠ 0)
theorem sumW_next {h ws : List (List UInt8)} {k : Nat} (hk : k < ws.length) : sumW h (ws.take (k + 1)) = sumW h (ws.take k) + wp h ws[k] := by
  unfold sumW
  rw [List.take_add_one, List.getElem?_eq_getElem hk, Option.toList_some, List.map_append, List.sum_append]; simp
theorem sumW_le (h : List (List UInt8)) : ∀ ws : List (List UInt8), 0 ≤ sumW h ws ∧ sumW h ws ≤ 3 * (ws.length : Int)
  | [] => by unfold sumW; simp
  | w :: ws => by
    have ih := sumW_le h ws
    have hw := wp_le h w
    unfold sumW at *
    rw [List.map_cons, List.sum_cons, List.length_cons]
    omega
theorem sumW_tk {h ws : List (List UInt8)} {k n : Nat} (hk : k ≤ n) (hn : ws.length ≤ n) : 0 ≤ sumW h (ws.take k) ∧ sumW h (ws.take k) ≤ 3 * (n : Int) := by
  have := sumW_le h (ws.take k)
  have h2 : (ws.take k).length ≤ n := by rw [List.length_take]; omega
  omega
theorem ok_next {h ws : List (List UInt8)} {k : Nat} (hk : k < ws.length) (h0 : ∀ w ∈ ws.take k, wp h w ≠ 0) (h1 : wp h ws[k] ≠ 0) : ∀ w ∈ ws.take (k + 1), wp h w ≠ 0 := fun w hw => by
  rw [List.take_add_one, List.getElem?_eq_getElem hk, Option.toList_some, List.mem_append, List.mem_singleton] at hw
  rcases hw with hw | rfl
  · exact h0 w hw
  · exact h1
theorem okW_yes {h ws : List (List UInt8)} (h0 : ∀ w ∈ ws.take ws.length, wp h w ≠ 0) : okW h ws = true := by
  rw [List.take_length] at h0
  exact List.all_eq_true.2 fun w hw => decide_eq_true (h0 w hw)
theorem okW_no {h ws : List (List UInt8)} {k : Nat} (hk : k < ws.length) (h1 : wp h ws[k] = 0) : okW h ws = false := by
  cases hh : okW h ws with
  | false => rfl
  | true => exact absurd h1 (of_decide_eq_true (List.all_eq_true.1 hh _ (List.getElem_mem hk)))
def hv (t : Thg) : List (List UInt8) := Lib.fields (fT t)
/-- The points of a title, as the program has them. -/
def ptV (h ws : List (List UInt8)) : Int × Bool := if okW h ws = true then (sumW h ws, true) else (0, false)
theorem ptV_yes {h ws : List (List UInt8)} (h0 : ∀ w ∈ ws.take ws.length, wp h w ≠ 0) : ptV h ws = (sumW h (ws.take ws.length), true) := by unfold ptV; rw [if_pos (okW_yes h0), List.take_length]
theorem ptV_no {h ws : List (List UInt8)} {k : Nat} (hk : k < ws.length) (h1 : wp h ws[k] = 0) : ptV h ws = (0, false) := by unfold ptV; rw [if_neg (by rw [okW_no hk h1]; decide)]
/-- A thing's points, as the reference has them. -/
def ptR (t : Thg) (ws : List (List UInt8)) (W : List UInt8) : Int := if okW (hv t) ws = true then (if fT t = W then sumW (hv t) ws + 5 else sumW (hv t) ws) else 0
theorem ptR_w {t : Thg} {ws : List (List UInt8)} {W : List UInt8} (h0 : ∀ w ∈ ws.take ws.length, wp (hv t) w ≠ 0) (h1 : fT t = W) : ptR t ws W = sumW (hv t) (ws.take ws.length) + 5 := by unfold ptR; rw [if_pos (okW_yes h0), if_pos h1, List.take_length]
theorem ptR_y {t : Thg} {ws : List (List UInt8)} {W : List UInt8} (h0 : ∀ w ∈ ws.take ws.length, wp (hv t) w ≠ 0) (h1 : ¬ fT t = W) : ptR t ws W = sumW (hv t) (ws.take ws.length) := by unfold ptR; rw [if_pos (okW_yes h0), if_neg h1, List.take_length]
theorem ptR_no {t : Thg} {ws : List (List UInt8)} {W : List UInt8} {k : Nat} (hk : k < ws.length) (h1 : wp (hv t) ws[k] = 0) : ptR t ws W = 0 := by unfold ptR; rw [if_neg (by rw [okW_no hk h1]; decide)]
section
variable {h : List (List UInt8)} {w : List UInt8} {j : Nat} (hj : j < h.length)
include hj
theorem tk_next : h.take (j + 1) = h.take j ++ [h[j]] := by rw [List.take_add_one, List.getElem?_eq_getElem hj, Option.toList_some]
theorem wp_hit (h1 : h[j] = w) : wp (h.take (j + 1)) w = 3 := wp_3 (by rw [tk_next hj, h1]; exact List.mem_append.2 (.inr (List.mem_singleton.2 rfl)))
theorem wp_pre (h1 : ¬ h[j] = w) (h2 : Lib.hasPrefix h[j] w = true) : wp (h.take (j + 1)) w = max (wp (h.take j) w) 1 := by
  by_cases hm : w ∈ h.take j
  · rw [wp_3 hm, wp_3 (by rw [tk_next hj]; exact List.mem_append.2 (.inl hm))]; rfl
  · have hn : ¬ w ∈ h.take (j + 1) := fun hh => by
      rw [tk_next hj] at hh
      rcases List.mem_append.1 hh with hh | hh
      · exact hm hh
      · exact h1 (List.mem_singleton.1 hh).symm
    have ha : (h.take (j + 1)).any (fun x => Lib.hasPrefix x w) = true := by rw [tk_next hj, List.any_append]; simp [h2]
    rw [wp_1 hn ha]
    unfold wp
    rw [if_neg hm]
    split <;> rfl
theorem wp_same (h1 : ¬ h[j] = w) (h2 : Lib.hasPrefix h[j] w = false) : wp (h.take (j + 1)) w = wp (h.take j) w := by
  unfold wp
  have e1 : (w ∈ h.take (j + 1)) ↔ w ∈ h.take j := by
    rw [tk_next hj, List.mem_append, List.mem_singleton]
    exact ⟨fun hh => hh.elim id (fun e => absurd e.symm h1), .inl⟩
  have e2 : (h.take (j + 1)).any (fun x => Lib.hasPrefix x w) = (h.take j).any (fun x => Lib.hasPrefix x w) := by rw [tk_next hj, List.any_append]; simp [h2]
  rw [e2]
  simp only [e1]
end
theorem ixs_in (s : List UInt8) (l : List (List UInt8)) : decide (0 ≤ ixG (fun x => decide (s = x)) l) = decide (s ∈ l) := by
  have h := ixg_in (s := s) (l := l)
  exact h.trans (decide_eq_decide.2 Iff.rfl)
theorem wp_nil (h : List (List UInt8)) (w : List UInt8) : wp (h.take 0) w = 0 := by rw [List.take_zero]; rfl

set_option maxRecDepth 100000 in
set_option maxHeartbeats 1000000 in
theorem c_ixS (l : List (List UInt8)) (s : List UInt8) : ACall Tryz.prog 118 [.sl (l.map fldD), .v (.string (bStr s))] (.v (.int .i64 (ixG (fun x => decide (s = x)) l))) := by
 refine acall_of (n := 19) (ds' := [.v (.int .i64 (ixG (fun x => decide (s = x)) l))]) Tryz.func118 rfl (by kernel_rfl) rfl [4] rfl rfl ?_
 intro B w0 F0 fr
 refine .bound 0 rfl (fun hbd0 => ?_)
 rw [List.length_map] at hbd0
 refine .sr ?_
 refine .aA (.nil ?_)
 refine .seq ?_
 refine .sr ?_
 refine .mA ?_
 refine .sA (.lenSl rfl et_68.ht rfl) ?_
 refine .mA (.nil ?_)
 refine .block ?_
 refine .loop (G := Nat) (fun k => Env.of [(8, .d (.v (.int .i64 (k : Int)))), (0, .d (.sl (l.map fldD))), (1, .d (.v (.string (bStr s)))), (7, .d (.v (.int .i64 ((l.map fldD).length : Int))))]) (fun k => []) (fun k => k ≤ l.length ∧ ∀ c ∈ l.take k, decide (s = c) = false) (fun k => l.length - k) 0 ⟨Nat.zero_le _, fun c h => by simp at h⟩ (Sub.less ⟨(SLe.of_eq rfl), SLe.refl _, SLe.refl _, SLe.refl _, trivial⟩ (fun _ h => h)) ?_
 intro k hk
 refine .sr ?_
 refine .sA (.lss rfl rfl rfl) (.nil ?_)
 refine .seq ?_
 refine .cond rfl (fun h1 => ?_) (fun h1 => ?_)
 ·replace h1 := of_decide_eq_true h1
  rw [List.length_map] at h1
  have hlt : k < l.length := by omega
  refine .skip ?_
  refine .seq ?_
  refine .block ?_
  refine .sr ?_
  refine .mA ?_
  refine .aA (.nil ?_)
  refine .sr ?_
  refine .mA ?_
  refine .mA ?_
  refine .mA ?_
  refine .sA (.indexAddr rfl et_68 rfl rfl k rfl (at_lst hlt) rfl) ?_
  refine .sA (.load rfl sc_9 rfl) ?_
  refine .sA (.seql rfl rfl rfl) (.nil ?_)
  refine .cond rfl (fun h2 => ?_) (fun h2 => ?_)
  ·replace h2 := of_decide_eq_true h2
   rw [ixg_hit hlt hk.2 (decide_eq_true (bStr_inj h2))]
   refine .sr ?_
   refine .mA ?_
   refine .aA (.nil ?_)
   refine .ret ?_
   refine ⟨RetD.eq rfl ?_, trivial⟩
   all_goals (rfl)
  replace h2 := of_decide_eq_false h2
  have HN := ixg_next hlt hk.2 (decide_eq_false (fun e => h2 (by rw [e]; rfl)))
  refine .skip ?_
  refine .region ?_
  refine .sA (.add64 rfl rfl rfl (by omega) (by omega)) ?_
  refine .mA (.nil ?_)
  refine ⟨k + 1, ⟨by omega, HN⟩, (by dsimp only; omega), Sub.less ⟨(SLe.of_eq rfl), SLe.refl _, SLe.refl _, SLe.refl _, trivial⟩ (fun _ h => h)⟩
 replace h1 := of_decide_eq_false h1
 rw [List.length_map] at h1
 obtain rfl : k = l.length := by omega
 rw [ixg_no (by have := hk.2; rwa [List.take_length] at this)]
 refine .exit ?_
 refine .sr ?_
 refine .aA (.nil ?_)
 refine .ret ?_
 refine ⟨RetD.eq rfl ?_, trivial⟩
 all_goals (rfl)

set_option maxRecDepth 100000 in
set_option maxHeartbeats 1000000 in
theorem c_cnS (l : List (List UInt8)) (s : List UInt8) : ACall Tryz.prog 77 [.sl (l.map fldD), .v (.string (bStr s))] (.v (.bool (decide (s ∈ l)))) := by
 refine acall_of (n := 9) (ds' := [.v (.bool (decide (s ∈ l)))]) Tryz.func77 rfl (by kernel_rfl) rfl [4] rfl rfl ?_
 intro B w0 F0 fr
 refine .sr ?_
 refine .aA (.nil ?_)
 refine .sr ?_
 refine .mA ?_
 refine .mA ?_
 refine .sA (.call rfl (.cons (.rfl' rfl) (.cons (.rfl' rfl) .nil)) (c_ixS _ _)) ?_
 refine .sA (.geq rfl rfl rfl) ?_
 refine .aA (.nil ?_)
 refine .ret ?_
 refine ⟨RetD.eq rfl ?_, trivial⟩
 all_goals (rw [ixs_in])

set_option maxRecDepth 100000 in
set_option maxHeartbeats 1000000 in
theorem c_ixF (l : List (List UInt8)) (p : List UInt8 → Bool) (f : Nat) (caps : List D) (hf : ∀ x : List UInt8, ACall Tryz.prog f (.v (.string (bStr x)) :: caps) (.v (.bool (p x)))) : ACall Tryz.prog 119 [.sl (l.map fldD), .clo (.func f) caps] (.v (.int .i64 (ixG p l))) := by
 refine acall_of (n := 19) (ds' := [.v (.int .i64 (ixG p l))]) Tryz.func119 rfl (by kernel_rfl) rfl [4] rfl rfl ?_
 intro B w0 F0 fr
 refine .bound 0 rfl (fun hbd0 => ?_)
 rw [List.length_map] at hbd0
 refine .sr ?_
 refine .aA (.nil ?_)
 refine .seq ?_
 refine .sr ?_
 refine .mA ?_
 refine .sA (.lenSl rfl et_68.ht rfl) ?_
 refine .mA (.nil ?_)
 refine .block ?_
 refine .loop (G := Nat) (fun k => Env.of [(8, .d (.v (.int .i64 (k : Int)))), (0, .d (.sl (l.map fldD))), (1, .d (.clo (.func f) caps)), (7, .d (.v (.int .i64 ((l.map fldD).length : Int))))]) (fun k => []) (fun k => k ≤ l.length ∧ ∀ x ∈ l.take k, p x = false) (fun k => l.length - k) 0 ⟨Nat.zero_le _, fun x hx => by simp at hx⟩ (Sub.less ⟨(SLe.of_eq rfl), SLe.refl _, SLe.refl _, SLe.refl _, trivial⟩ (fun _ h => h)) ?_
 intro k hk
 refine .sr ?_
 refine .sA (.lss rfl rfl rfl) (.nil ?_)
 refine .seq ?_
 refine .cond rfl (fun h1 => ?_) (fun h1 => ?_)
 ·replace h1 := of_decide_eq_true h1
  rw [List.length_map] at h1
  have hlt : k < l.length := by omega
  refine .skip ?_
  refine .seq ?_
  refine .block ?_
  refine .sr ?_
  refine .mA ?_
  refine .aA (.nil ?_)
  refine .sr ?_
  refine .mA ?_
  refine .mA ?_
  refine .mA ?_
  refine .sA (.indexAddr rfl et_68 rfl rfl k rfl (at_lst hlt) rfl) ?_
  refine .sA (.load rfl sc_9 rfl) ?_
  refine .sA (.callClo rfl rfl (.cons (.rfl' rfl) .nil) (hf l[k])) (.nil ?_)
  refine .cond rfl (fun h2 => ?_) (fun h2 => ?_)
  ·skip
   rw [ixg_hit hlt hk.2 h2]
   refine .sr ?_
   refine .mA ?_
   refine .aA (.nil ?_)
   refine .ret ?_
   refine ⟨RetD.eq rfl ?_, trivial⟩
   all_goals (rfl)
  have HN := ixg_next hlt hk.2 h2
  refine .skip ?_
  refine .region ?_
  refine .sA (.add64 rfl rfl rfl (by omega) (by omega)) ?_
  refine .mA (.nil ?_)
  refine ⟨k + 1, ⟨by omega, HN⟩, (by dsimp only; omega), Sub.less ⟨(SLe.of_eq rfl), SLe.refl _, SLe.refl _, SLe.refl _, trivial⟩ (fun _ h => h)⟩
 replace h1 := of_decide_eq_false h1
 rw [List.length_map] at h1
 obtain rfl : k = l.length := by omega
 rw [ixg_no (by have := hk.2; rwa [List.take_length] at this)]
 refine .exit ?_
 refine .sr ?_
 refine .aA (.nil ?_)
 refine .ret ?_
 refine ⟨RetD.eq rfl ?_, trivial⟩
 all_goals (rfl)

set_option maxRecDepth 100000 in
set_option maxHeartbeats 1000000 in
theorem c_cnF (l : List (List UInt8)) (p : List UInt8 → Bool) (f : Nat) (caps : List D) (hf : ∀ x : List UInt8, ACall Tryz.prog f (.v (.string (bStr x)) :: caps) (.v (.bool (p x)))) : ACall Tryz.prog 78 [.sl (l.map fldD), .clo (.func f) caps] (.v (.bool (l.any p))) := by
 refine acall_of (n := 9) (ds' := [.v (.bool (l.any p))]) Tryz.func78 rfl (by kernel_rfl) rfl [4] rfl rfl ?_
 intro B w0 F0 fr
 refine .sr ?_
 refine .aA (.nil ?_)
 refine .sr ?_
 refine .mA ?_
 refine .mA ?_
 refine .sA (.call rfl (.cons (.rfl' rfl) (.cons (.rfl' rfl) .nil)) (c_ixF l p f caps hf)) ?_
 refine .sA (.geq rfl rfl rfl) ?_
 refine .aA (.nil ?_)
 refine .ret ?_
 refine ⟨RetD.eq rfl ?_, trivial⟩
 all_goals (first | rfl | (rw [← ixg_any]; first | done | rfl))

set_option maxRecDepth 100000 in
set_option maxHeartbeats 1000000 in
theorem c_pts1 (x w : List UInt8) : ACall Tryz.prog 79 [.v (.string (bStr x)), .fp [.v (.string (bStr w))]] (.v (.bool (Lib.hasPrefix x w))) := by
 refine acall_of (n := 7) (ds' := [.v (.bool (Lib.hasPrefix x w))]) Tryz.func79 rfl (by kernel_rfl) rfl [3] rfl rfl ?_
 intro B w0 F0 fr
 refine .sr ?_
 refine .aA (.nil ?_)
 refine .sr ?_
 refine .mA ?_
 refine .sA (.load rfl sc_9 rfl) ?_
 refine .sA (.call rfl (.cons (.rfl' rfl) (.cons (.rfl' rfl) .nil)) (c_hasP _ _)) ?_
 refine .aA (.nil ?_)
 refine .ret ?_
 refine ⟨RetD.eq rfl ?_, trivial⟩
 all_goals (rfl)

set_option maxRecDepth 100000 in
set_option maxHeartbeats 4000000 in
theorem c_pPts (title : ByteArray) (ws : List (List UInt8)) (ht : title.size ≤ 1048576) (hw : ws.length ≤ 1000) : ACallT Tryz.prog TSM 42 [.v (.string title), .sl (ws.map fldD)] (.tup [.v (.int .i64 (ptV (Lib.fields (foldS title.data.toList)) ws).1), .v (.bool (ptV (Lib.fields (foldS title.data.toList)) ws).2)]) := by
 refine acall_ofT (n := 33) (ds' := [.v (.int .i64 (ptV (Lib.fields (foldS title.data.toList)) ws).1), .v (.bool (ptV (Lib.fields (foldS title.data.toList)) ws).2)]) Tryz.func42 rfl (by kernel_rfl) rfl [4, 5] rfl rfl ?_
 intro B w0 F0 hT
 refine .sr ?_
 refine .aA ?_
 refine .aA (.nil ?_)
 refine .sr ?_
 refine .mA ?_
 refine .sA (.call rfl (.cons (.rfl' rfl) .nil) (c_pFold title ht)) ?_
 -- wants the world
 refine .callT rfl rfl rfl hT tsm_stays rfl (.cons (.rfl' rfl) .nil) (c_fldF title.data.toList (by rw [← Lib.size_eq]; omega)) ?_
 refine .aA (.nil ?_)
 refine .sr ?_
 refine .aA (.nil ?_)
 refine .seq ?_
 refine .sr ?_
 refine .mA ?_
 refine .sA (.lenSl rfl et_68.ht rfl) ?_
 refine .mA (.nil ?_)
 refine .block ?_
 refine .loop (G := Nat) (fun k => Env.of [(15, .d (.v (.int .i64 (k : Int)))), (13, .d (.sl (ws.map fldD))), (14, .d (.v (.int .i64 ((ws.map fldD).length : Int)))), (6, .d (.sl ((Lib.fields (foldS title.data.toList)).map fldD))), (7, .d (.v (.int .i64 (sumW (Lib.fields (foldS title.data.toList)) (ws.take k)))))]) (fun k => []) (fun k => k ≤ ws.length ∧ ∀ w ∈ ws.take k, wp (Lib.fields (foldS title.data.toList)) w ≠ 0) (fun k => ws.length - k) 0 ⟨Nat.zero_le _, fun x hx => by simp at hx⟩ (Sub.less ⟨(SLe.of_eq rfl), SLe.refl _, SLe.refl _, SLe.refl _, SLe.refl _, trivial⟩ (fun _ h => h)) ?_
 intro k hk
 refine .sr ?_
 refine .sA (.lss rfl rfl rfl) (.nil ?_)
 refine .seq ?_
 refine .cond rfl (fun h1 => ?_) (fun h1 => ?_)
 ·replace h1 := of_decide_eq_true h1
  rw [List.length_map] at h1
  have hlt : k < ws.length := by omega
  have hsw := sumW_tk (h := (Lib.fields (foldS title.data.toList))) (k := k) (n := 1000) (by omega) hw
  have HN := sumW_next (h := (Lib.fields (foldS title.data.toList))) hlt
  refine .skip ?_
  refine .seq ?_
  refine .block ?_
  refine .sr ?_
  refine .sA (.indexAddr rfl et_68 rfl rfl k rfl (at_lst hlt) rfl) ?_
  refine .sA (.load rfl sc_9 rfl) ?_
  refine .alloc 101 rfl rfl rfl rfl zt_9 rfl rfl rfl ?_
  refine .store rfl rfl rfl sz_9 rfl (.head _) rfl rfl rfl (Nat.le_of_ble_eq_true rfl) ?_
  refine .freezeCells 9 (ds := [.v (.string (bStr ws[k]))]) rfl (.head _) (.nil ?_)
  refine .block ?_
  refine .sr ?_
  refine .mA ?_
  refine .sA (.load rfl sc_9 rfl) ?_
  refine .sA (.call rfl (.cons (.rfl' rfl) (.cons (.rfl' rfl) .nil)) (c_cnS _ ws[k])) ?_
  refine .aA (.nil ?_)
  refine .cond rfl (fun h2 => ?_) (fun h2 => ?_)
  ·replace h2 := of_decide_eq_true h2
   have HW := wp_3 h2
   have HO := ok_next hlt hk.2 (by rw [HW]; decide)
   rw [HW] at HN
   refine .region ?_
   refine .mA ?_
   refine .sA (.add64 rfl rfl rfl (by omega) (by omega)) ?_
   refine .aA (.nil ?_)
   refine .region ?_
   refine .sA (.add64 rfl rfl rfl (by omega) (by omega)) ?_
   refine .mA (.nil ?_)
   refine ⟨k + 1, ⟨by omega, HO⟩, (by dsimp only; omega), Sub.less ⟨(SLe.of_eq rfl), SLe.refl _, SLe.refl _, SLe.refl _, (SLe.of_eq (by rw [HN]; first | done | rfl)), trivial⟩ (fun _ h => h)⟩
  replace h2 := of_decide_eq_false h2
  have n1 := h2
  refine .sr ?_
  refine .mA ?_
  refine .sA (.makeFunc rfl (.cons (.rfl' rfl) .nil)) ?_
  refine .sA (.call rfl (.cons (.rfl' rfl) (.cons (.rfl' rfl) .nil)) (c_cnF _ (fun x => Lib.hasPrefix x ws[k]) _ _ (fun x => c_pts1 x ws[k]))) ?_
  refine .aA (.nil ?_)
  refine .cond rfl (fun h3 => ?_) (fun h3 => ?_)
  ·skip
   have HW := wp_1 n1 h3
   have HO := ok_next hlt hk.2 (by rw [HW]; decide)
   rw [HW] at HN
   refine .region ?_
   refine .mA ?_
   refine .sA (.add64 rfl rfl rfl (by omega) (by omega)) ?_
   refine .aA (.nil ?_)
   refine .region ?_
   refine .sA (.add64 rfl rfl rfl (by omega) (by omega)) ?_
   refine .mA (.nil ?_)
   refine ⟨k + 1, ⟨by omega, HO⟩, (by dsimp only; omega), Sub.less ⟨(SLe.of_eq rfl), SLe.refl _, SLe.refl _, SLe.refl _, (SLe.of_eq (by rw [HN]; first | done | rfl)), trivial⟩ (fun _ h => h)⟩
  rw [ptV_no hlt (wp_0 n1 h3)]
  refine .sr ?_
  refine .aA ?_
  refine .aA (.nil ?_)
  refine .ret ?_
  refine ⟨RetD.eq rfl ?_, RetD.eq rfl ?_, trivial⟩
  all_goals (rfl)
 replace h1 := of_decide_eq_false h1
 rw [List.length_map] at h1
 obtain rfl : k = ws.length := by omega
 rw [ptV_yes hk.2]
 refine .exit ?_
 refine .sr ?_
 refine .mA ?_
 refine .aA ?_
 refine .aA (.nil ?_)
 refine .ret ?_
 refine ⟨RetD.eq rfl ?_, RetD.eq rfl ?_, trivial⟩
 all_goals (rfl)

set_option maxRecDepth 100000 in
set_option maxHeartbeats 4000000 in
theorem c_rPts (t : Thg) (ws : List (List UInt8)) (W : List UInt8) (ht : t.title.size ≤ 1048576) (hw : ws.length ≤ 1000) : ACallT Tryz.prog TSM 83 [.agg t.ds, .sl (ws.map fldD), .v (.string (bStr W))] (.v (.int .i64 (ptR t ws W))) := by
 refine acall_ofT (n := 51) (ds' := [.v (.int .i64 (ptR t ws W))]) Tryz.func83 rfl (by kernel_rfl) rfl [6] rfl rfl ?_
 intro B w0 F0 hT
 have hfl : (hv t).length ≤ 1048576 := by have h1 := fields_le (fT t); have h2 := foldS_le t.title.data.toList; rw [← Lib.size_eq] at h2; unfold hv; unfold fT at *; omega
 refine .sr ?_
 refine .sA (.box rfl rfl rfl) ?_
 refine .aA (.nil ?_)
 refine .sr ?_
 refine .sA (.fieldAddr rfl fo_61_2 rfl) ?_
 refine .sA (.load rfl sc_9 rfl) ?_
 -- wants the world
 refine .callT rfl rfl rfl hT tsm_stays rfl (.cons (.rfl' rfl) .nil) (c_rFold t.title ht).tbt ?_
 refine .aA (.nil ?_)
 refine .sr ?_
 refine .aA (.nil ?_)
 refine .seq ?_
 refine .sr ?_
 refine .mA ?_
 refine .sA (.lenSl rfl et_68.ht rfl) ?_
 refine .mA (.nil ?_)
 refine .block ?_
 refine .loop (G := Nat) (fun k => Env.of [(19, .d (.v (.int .i64 (k : Int)))), (17, .d (.sl (ws.map fldD))), (18, .d (.v (.int .i64 ((ws.map fldD).length : Int)))), (7, .d (.v (.string (bStr (fT t))))), (8, .d (.v (.int .i64 (sumW (hv t) (ws.take k))))), (2, .d (.v (.string (bStr W))))]) (fun k => []) (fun k => k ≤ ws.length ∧ ∀ w ∈ ws.take k, wp (hv t) w ≠ 0) (fun k => ws.length - k) 0 ⟨Nat.zero_le _, fun x hx => by simp at hx⟩ (Sub.less ⟨(SLe.of_eq rfl), SLe.refl _, SLe.refl _, SLe.refl _, SLe.refl _, SLe.refl _, trivial⟩ (fun _ h => h)) ?_
 intro k hk
 refine .sr ?_
 refine .sA (.lss rfl rfl rfl) (.nil ?_)
 refine .seq ?_
 refine .cond rfl (fun h1 => ?_) (fun h1 => ?_)
 ·replace h1 := of_decide_eq_true h1
  rw [List.length_map] at h1
  have hlt : k < ws.length := by omega
  have hsw := sumW_tk (h := hv t) (k := k) (n := 1000) (by omega) hw
  have HN := sumW_next (h := hv t) hlt
  refine .skip ?_
  refine .seq ?_
  refine .block ?_
  refine .sr ?_
  refine .sA (.indexAddr rfl et_68 rfl rfl k rfl (at_lst hlt) rfl) ?_
  refine .sA (.load rfl sc_9 rfl) ?_
  refine .aA (.nil ?_)
  refine .sr ?_
  refine .aA (.nil ?_)
  refine .seq ?_
  refine .sr ?_
  refine .mA ?_
  -- wants the world
  refine .callT rfl rfl rfl hT tsm_stays rfl (.cons (.rfl' rfl) .nil) (c_fldF t.title.data.toList (by rw [← Lib.size_eq]; omega)) ?_
  refine .sA (.lenSl rfl et_68.ht rfl) ?_
  refine .mA (.nil ?_)
  refine .block ?_
  refine .loop (G := Nat) (fun j => Env.of [(26, .d (.v (.int .i64 (j : Int)))), (24, .d (.sl ((hv t).map fldD))), (25, .d (.v (.int .i64 (((hv t).map fldD).length : Int)))), (11, .d (.v (.int .i64 (wp ((hv t).take j) ws[k])))), (10, .d (.v (.string (bStr ws[k])))), (19, .d (.v (.int .i64 (k : Int)))), (17, .d (.sl (ws.map fldD))), (18, .d (.v (.int .i64 ((ws.map fldD).length : Int)))), (7, .d (.v (.string (bStr (fT t))))), (8, .d (.v (.int .i64 (sumW (hv t) (ws.take k))))), (2, .d (.v (.string (bStr W))))]) (fun j => []) (fun j => j ≤ (hv t).length) (fun j => (hv t).length - j) 0 (Nat.zero_le _) (Sub.less ⟨(SLe.of_eq rfl), SLe.refl _, SLe.refl _, (SLe.of_eq (by rw [wp_nil]; first | done | rfl)), SLe.refl _, SLe.refl _, SLe.refl _, SLe.refl _, SLe.refl _, SLe.refl _, SLe.refl _, trivial⟩ (fun _ h => h)) ?_
  intro j hj
  refine .sr ?_
  refine .sA (.lss rfl rfl rfl) (.nil ?_)
  refine .seq ?_
  refine .cond rfl (fun h2 => ?_) (fun h2 => ?_)
  ·replace h2 := of_decide_eq_true h2
   rw [List.length_map] at h2
   have hjl : j < (hv t).length := by omega
   refine .skip ?_
   refine .seq ?_
   refine .block ?_
   refine .sr ?_
   refine .sA (.indexAddr rfl et_68 rfl rfl j rfl (at_lst hjl) rfl) ?_
   refine .sA (.load rfl sc_9 rfl) ?_
   refine .aA (.nil ?_)
   refine .sr ?_
   refine .mA ?_
   refine .mA ?_
   refine .sA (.seql rfl rfl rfl) (.nil ?_)
   refine .cond rfl (fun h3 => ?_) (fun h3 => ?_)
   ·replace h3 := of_decide_eq_true h3
    have HB := wp_hit hjl (bStr_inj h3)
    refine .region ?_
    refine .aA (.nil ?_)
    refine .region ?_
    refine .sA (.add64 rfl rfl rfl (by omega) (by omega)) ?_
    refine .mA (.nil ?_)
    refine ⟨j + 1, (by omega), (by dsimp only; omega), Sub.less ⟨(SLe.of_eq rfl), SLe.refl _, SLe.refl _, (SLe.of_eq (by rw [HB]; first | done | rfl)), SLe.refl _, SLe.refl _, SLe.refl _, SLe.refl _, SLe.refl _, SLe.refl _, SLe.refl _, trivial⟩ (fun _ h => h)⟩
   replace h3 := of_decide_eq_false h3
   have m1 : ¬ (hv t)[j] = ws[k] := fun e => h3 (by rw [e]; rfl)
   refine .sr ?_
   refine .mA ?_
   refine .mA ?_
   refine .sA (.call rfl (.cons (.rfl' rfl) (.cons (.rfl' rfl) .nil)) (c_hasP _ _)) (.nil ?_)
   refine .cond rfl (fun h4 => ?_) (fun h4 => ?_)
   ·skip
    have HB := wp_pre hjl m1 h4
    refine .region ?_
    refine .mA ?_
    refine .sA (.max rfl rfl rfl) ?_
    refine .aA (.nil ?_)
    refine .region ?_
    refine .sA (.add64 rfl rfl rfl (by omega) (by omega)) ?_
    refine .mA (.nil ?_)
    refine ⟨j + 1, (by omega), (by dsimp only; omega), Sub.less ⟨(SLe.of_eq rfl), SLe.refl _, SLe.refl _, (SLe.of_eq (by rw [HB]; first | done | rfl)), SLe.refl _, SLe.refl _, SLe.refl _, SLe.refl _, SLe.refl _, SLe.refl _, SLe.refl _, trivial⟩ (fun _ h => h)⟩
   have HB := wp_same hjl m1 h4
   refine .skip ?_
   refine .region ?_
   refine .sA (.add64 rfl rfl rfl (by omega) (by omega)) ?_
   refine .mA (.nil ?_)
   refine ⟨j + 1, (by omega), (by dsimp only; omega), Sub.less ⟨(SLe.of_eq rfl), SLe.refl _, SLe.refl _, (SLe.of_eq (by rw [HB]; first | done | rfl)), SLe.refl _, SLe.refl _, SLe.refl _, SLe.refl _, SLe.refl _, SLe.refl _, SLe.refl _, trivial⟩ (fun _ h => h)⟩
  replace h2 := of_decide_eq_false h2
  rw [List.length_map] at h2
  obtain rfl : j = (hv t).length := by omega
  rw [List.take_length]
  have hwl := wp_le (hv t) ws[k]
  refine .exit ?_
  refine .seq ?_
  refine .sr ?_
  refine .mA ?_
  refine .sA (.eql rfl rfl rfl) (.nil ?_)
  refine .cond rfl (fun h5 => ?_) (fun h5 => ?_)
  ·replace h5 := of_decide_eq_true h5
   rw [ptR_no hlt h5]
   refine .sr ?_
   refine .aA (.nil ?_)
   refine .ret ?_
   refine ⟨RetD.eq rfl ?_, trivial⟩
   all_goals (rfl)
  replace h5 := of_decide_eq_false h5
  have HO := ok_next hlt hk.2 h5
  refine .skip ?_
  refine .region ?_
  refine .mA ?_
  refine .mA ?_
  refine .sA (.add64 rfl rfl rfl (by omega) (by omega)) ?_
  refine .aA (.nil ?_)
  refine .region ?_
  refine .sA (.add64 rfl rfl rfl (by omega) (by omega)) ?_
  refine .mA (.nil ?_)
  refine ⟨k + 1, ⟨by omega, HO⟩, (by dsimp only; omega), Sub.less ⟨(SLe.of_eq rfl), SLe.refl _, SLe.refl _, SLe.refl _, (SLe.of_eq (by rw [HN]; first | done | rfl)), SLe.refl _, trivial⟩ (fun _ h => h)⟩
 replace h1 := of_decide_eq_false h1
 rw [List.length_map] at h1
 obtain rfl : k = ws.length := by omega
 have hsw := sumW_tk (h := hv t) (k := ws.length) (n := 1000) (by omega) hw
 refine .exit ?_
 refine .seq ?_
 refine .sr ?_
 refine .mA ?_
 refine .mA ?_
 refine .sA (.seql rfl rfl rfl) (.nil ?_)
 refine .cond rfl (fun h6 => ?_) (fun h6 => ?_)
 ·replace h6 := of_decide_eq_true h6
  rw [ptR_w hk.2 (bStr_inj h6)]
  refine .region ?_
  refine .mA ?_
  refine .sA (.add64 rfl rfl rfl (by omega) (by omega)) ?_
  refine .aA (.nil ?_)
  refine .sr ?_
  refine .mA ?_
  refine .aA (.nil ?_)
  refine .ret ?_
  refine ⟨RetD.eq rfl ?_, trivial⟩
  all_goals (rfl)
 replace h6 := of_decide_eq_false h6
 rw [ptR_y hk.2 (fun e => h6 (by rw [← e]))]
 refine .skip ?_
 refine .sr ?_
 refine .mA ?_
 refine .aA (.nil ?_)
 refine .ret ?_
 refine ⟨RetD.eq rfl ?_, trivial⟩
 all_goals (rfl)

end Go.Proofs.YthcdjmkkgbcaaaaGreatDoor

namespace Go.Proofs.YthcdjmkkgbcaaaaGreatDoor
open Go.RowKit Go.Shelf Go.Lib Go.Sort
set_option linter.unusedVariables false
set_option linter.unusedSimpArgs false

theorem cell_top {W : World} {b i e : Nat} {cs : Array Value} {v : Value} (hb : b = W.heap.size) (hv : cs[i]? = some v) : (W.alloc (.cells cs e)).cell? ⟨b, i, none⟩ = some v := by
  subst hb
  have h : (W.alloc (.cells cs e)).heap[W.heap.size]? = some (.cells cs e (0, 0)) := heap_alloc_new W _
  rw [cell_of_row _ _ i cs e (0, 0) h, hv]
theorem rngK {α : Type} [Inhabited α] (n : Nat) (i : Nat) (h : i < n) : (Array.range n)[i]! = i := by
  rw [getElem!_pos (Array.range n) i (by simpa using h)]; simp
/-! ## A row of structs, by its elements' numbers -/
section
variable {α : Type} [Inhabited α]
theorem put_blockG (enc : α → List Value) (k : Nat) {w : World} {g n e : Nat} {cur : Array Value} {os : Array Obj} {zs : Array α} (h : w.heap[g]? = some (.cells cur e (0, 0))) :
    (Sort.grow (putRowK enc k (Sort.ahead w n) g 0 zs) os).heap[g]? = some (.cells (Sort.putCells id 0 (flatK enc k zs) cur) e (0, 0)) ∧
    (∀ j, j < w.heap.size → j ≠ g → (Sort.grow (putRowK enc k (Sort.ahead w n) g 0 zs) os).heap[j]? = w.heap[j]?) := by
  unfold putRowK
  have hg : g < w.heap.size := (Array.getElem?_eq_some_iff.1 h).1
  have hs : ∀ j, j < w.heap.size → (Sort.grow (Sort.putRow id (Sort.ahead w n) g 0 (flatK enc k zs)) os).heap[j]? = (Sort.putRow id (Sort.ahead w n) g 0 (flatK enc k zs)).heap[j]? := fun j hj => Sort.heap_grow_old _ _ (by rw [Sort.size_putRow]; exact hj)
  refine ⟨?_, fun j hj hne => ?_⟩
  · rw [hs g hg]
    show (w.heap.modify g _)[g]? = _
    rw [Array.getElem?_modify, if_pos rfl, h]
    rfl
  · rw [hs j hj]
    show (w.heap.modify g _)[j]? = _
    rw [Array.getElem?_modify, if_neg (Ne.symm hne)]
theorem put_cellsG (enc : α → List Value) (k : Nat) (zs : Array α) (cur : Array Value) (hl : zs.size * k ≤ cur.size) (i c : Nat) (hi : i < zs.size) (hc : c < k) : (Sort.putCells id 0 (flatK enc k zs) cur)[i * k + c]? = some ((enc zs[i]!)[c]!) := by
  have hk0 : 0 < k := by omega
  have hb : i * k + c < zs.size * k := by
    have := Nat.mul_le_mul_right k (show i + 1 ≤ zs.size by omega)
    rw [Nat.add_mul, Nat.one_mul] at this
    omega
  unfold Sort.putCells
  rw [Array.getElem?_mapIdx, Array.getElem?_eq_getElem (by omega), Option.map_some, if_pos ⟨Nat.zero_le _, by rw [size_flatK]; omega⟩]
  rw [Nat.sub_zero, get_flatK enc k zs _ hb]
  have e1 : (i * k + c) / k = i := by rw [Nat.mul_comm, Nat.mul_add_div hk0, Nat.div_eq_of_lt hc, Nat.add_zero]
  have e2 : (i * k + c) % k = c := by rw [Nat.mul_comm, Nat.mul_add_mod, Nat.mod_eq_of_lt hc]
  rw [e1, e2]
  rfl
end
theorem repSL_fn {F : Nat → Prop} {ρ : Nat → Value} {w : World} {vs : List Value} {id : Nat} {f : Fn} (h : RepSL F ρ w vs [.own id, .d (.clo f [])]) : vs = [ρ id, .func f #[] #[]] := by
  obtain ⟨v, u, rfl⟩ : ∃ v u, vs = [v, u] := by
    match vs, h.1 with
    | [v, u], _ => exact ⟨v, u, rfl⟩
  have h1 := h.2 0 (by simp) (by simp)
  have h2 := h.2 1 (by simp) (by simp)
  simp only [List.getElem_cons_zero, List.getElem_cons_succ] at h1 h2
  cases h1
  have h3 := repS_d h2
  cases h3 with
  | clo _ cs _ hl _ =>
    have : cs = [] := List.eq_nil_of_length_eq_zero hl
    subst this
    rfl

/-! ## Sorted lists, whatever the order -/
section
variable {α : Type} (cf : α → α → Int)
def sortF (l : List α) : List α := l.mergeSort fun x y => !(ltOf cf y x)
def DistF (l : List α) : Prop := l.Pairwise fun x y => ltOf cf x y = true ∨ ltOf cf y x = true
def RiseF (l : List α) : Prop := l.Pairwise fun x y => ltOf cf x y = true
variable {cf}
theorem sortF_perm (l : List α) : (sortF cf l).Perm l := List.mergeSort_perm l _
theorem sortF_pw (hO : SWO (ltOf cf)) (l : List α) : (sortF cf l).Pairwise fun x y => ltOf cf y x = false := by
  unfold sortF
  have := List.pairwise_mergeSort (le := fun x y => !(ltOf cf y x)) (fun a b c h1 h2 => by
    simp only [Bool.not_eq_true'] at h1 h2 ⊢
    exact hO.ntrans _ _ _ h2 h1) (fun a b => by
    rw [Bool.or_eq_true, Bool.not_eq_true', Bool.not_eq_true']
    cases h : ltOf cf b a with
    | false => exact .inl rfl
    | true => exact .inr (hO.asymmA h)) l
  exact this.imp fun h => by simpa using h
theorem distF_symm {l r : List α} (hp : l.Perm r) (h : DistF cf l) : DistF cf r := (hp.pairwise_iff (fun {a b} h => h.symm)).1 h
theorem riseF_of {l : List α} (hd : DistF cf l) (hs : l.Pairwise fun x y => ltOf cf y x = false) : RiseF cf l := by
  refine (List.Pairwise.and hd hs).imp fun {a b} ⟨h2, h3⟩ => ?_
  rcases h2 with h2 | h2
  · exact h2
  · rw [h3] at h2; cases h2
theorem sortF_rise (hO : SWO (ltOf cf)) {l : List α} (h : DistF cf l) : RiseF cf (sortF cf l) := riseF_of (distF_symm (sortF_perm l).symm h) (sortF_pw hO l)
theorem riseF_uniq (hO : SWO (ltOf cf)) {l r : List α} (h1 : RiseF cf l) (h2 : RiseF cf r) (hm : ∀ x, x ∈ l ↔ x ∈ r) : l = r := by
  have nd : ∀ {l : List α}, RiseF cf l → l.Nodup := fun h => h.imp fun {a b} hab e => by rw [e, hO.irrefl] at hab; cases hab
  have hp : l.Perm r := (List.perm_ext_iff_of_nodup (nd h1) (nd h2)).2 hm
  refine List.Perm.eq_of_pairwise (le := fun x y => ltOf cf x y = true) (fun a b _ _ h3 h4 => ?_) h1 h2 hp
  have := hO.asymmA h3
  rw [h4] at this
  cases this
theorem sortF_uniq (hO : SWO (ltOf cf)) {l r : List α} (hd : DistF cf l) (hp : r.Perm l) (hs : r.Pairwise fun x y => ltOf cf y x = false) : r = sortF cf l := by
  refine riseF_uniq hO (riseF_of (distF_symm hp.symm hd) hs) (sortF_rise hO hd) fun x => ?_
  rw [hp.mem_iff, (sortF_perm l).mem_iff]
end
/-- slices.SortFunc at structs of k cells, in whatever world. -/
structure SortT (P : Program) (sf k : Nat) : Prop where
  ent : ∀ args w, (callFunc sf args).run P w = .ok (.enter sf args) w
  nil : ∀ fv w, Calls P sf #[.slice none 0 0, fv] w fun e w' => e = .returned (.tuple #[]) ∧ w' = w
  all : ∀ (enc : Nat → List Value), (∀ x, (enc x).length = k) → (∀ x, ∀ v ∈ enc x, v.oneCell' = true) → ∀ (cf : Nat → Nat → Int), SWO (ltOf cf) → ∀ (g blk cap : Nat) (d : Array Nat) (w : World), (∀ args w, (callFunc g args).run P w = .ok (.enter g args) w) → CmpLays P g #[] enc k cf blk 0 d.size w → HoldsK enc k w blk 0 d → blk < w.heap.size → d.size < 4611686018427387904 →
    Calls P sf #[.slice (some ⟨blk, 0, none⟩) d.size cap, .func (.func g) #[] #[]] w fun e w' => e = .returned (.tuple #[]) ∧ ∃ d' n os, PermIn 0 d.size d d' ∧ SortedIn (ltOf cf) 0 d.size d' ∧ w' = sortWorldK enc k w blk 0 n d' os
section
variable {α : Type} [Inhabited α] (dz : α → List D) (k : Nat) (cf : α → α → Int)
/-- The elements' order, by a closure that looks at their cells. -/
def CmpT (P : Program) (g k : Nat) (dz : α → List D) (cf : α → α → Int) : Prop := ∀ (F : Nat → Prop) (w0 W : World) (x y : α) (xs ys : List Value), xs.length = k → ys.length = k → (∀ i (h : i < xs.length) (h' : i < (dz x).length), Rep F w0 xs[i] (dz x)[i]) → (∀ i (h : i < ys.length) (h' : i < (dz y).length), Rep F w0 ys[i] (dz y)[i]) →
  Calls P g #[.agg xs.toArray, .agg ys.toArray] W fun e w' => e = .returned (.int .i64 (cf x y)) ∧ ∃ q os', w' = grow (W.drewN q) os'
variable {dz k cf}
/-- The cells of the element with a number. -/
def encF (ys : Nat → Nat → Value) (zs : List Value) (k n i : Nat) : List Value := if i < n then (List.range k).map (ys i) else zs
def cfF (cf : α → α → Int) (xs : List α) (i j : Nat) : Int := cf (xs.getD i default) (xs.getD j default)
theorem swoF (hO : SWO (ltOf cf)) (xs : List α) : SWO (ltOf (cfF cf xs)) where
  irrefl x := hO.irrefl (xs.getD x default)
  trans x y z h1 h2 := hO.trans (xs.getD x default) (xs.getD y default) (xs.getD z default) h1 h2
  ntrans x y z h1 h2 := hO.ntrans (xs.getD x default) (xs.getD y default) (xs.getD z default) h1 h2
set_option maxHeartbeats 2000000 in
theorem sort_rcall {P : Program} {sf g : Nat} (T : SortT P sf k) (hO : SWO (ltOf cf)) (eg : ∀ args w, (callFunc g args).run P w = .ok (.enter g args) w) (hC : CmpT P g k dz cf) (hdz : ∀ x, (dz x).length = k)
    (zs : List Value) (hzl : zs.length = k) (hz1 : ∀ v ∈ zs, v.oneCell' = true) (hzr : ∀ F w i (h : i < zs.length) (h' : i < (dz default).length), Rep F w zs[i] (dz default)[i])
    (xs : List α) (hn : xs.length < 4611686018427387904) (hd : DistF cf xs) (e : Nat) : RCall P sf e k (xs.map dz) ((sortF cf xs).map dz) [.clo (.func g) []] (.tup []) := by
  intro id
  refine ⟨T.ent, fun F ρ B w vs hF hB hσ hv => ?_⟩
  obtain rfl := repSL_fn hv
  have hsl : (sortF cf xs).length = xs.length := (sortF_perm xs).length_eq
  have hl : (xs.map dz).length = xs.length := List.length_map ..
  obtain ⟨ys, h1, h2, h3, h4⟩ := hσ.ok _ (List.mem_singleton.2 rfl)
  rw [hl] at h1
  have h1' : w.ownsRow B e k (ρ id) xs.length (flat ys xs.length k) := h1
  have hcell : ∀ i, (hi : i < xs.length) → ∀ c, (hc : c < k) → (ys i c).oneCell' = true ∧ Rep F w (ys i c) ((dz xs[i])[c]'(by rw [hdz]; exact hc)) := fun i hi c hc => by
    have := h3 i (by rw [hl]; exact hi) c (by rw [List.getElem_map, hdz]; exact hc)
    simpa only [List.getElem_map] using this
  rcases h1'.2 with ⟨h5, h6⟩ | ⟨g0, cap, cur, h5, h6, h7, h8, h9, h10, h11⟩
  · have h6' := List.eq_nil_of_length_eq_zero h6
    subst h6'
    rw [h5]
    refine (T.nil (.func (.func g) #[] #[]) w).mono fun e' w' ⟨he, hw⟩ => ?_
    subst hw
    refine ⟨_, F, ρ, he, .tup [] [] rfl (fun i h1 => by simp at h1), fun _ hb => hb, fun _ hb => .inl hb, hF, Kept.refl _ _, ?_, ?_, fun _ _ => rfl⟩
    · have : (sortF cf ([] : List α)).map dz = ([] : List α).map dz := by unfold sortF; rw [List.mergeSort_nil]
      rw [this]
      exact hσ
    · intro p hp b hb
      have : p = (id, .row e k ((sortF cf ([] : List α)).map dz)) := by simpa using hp
      subst this
      rw [h5] at hb
      simp [blk] at hb
  · rw [h5]
    have hg : g0 < w.heap.size := (Array.getElem?_eq_some_iff.1 h7).1
    have hcur : ∀ i c, i < xs.length → c < k → cur[i * k + c]? = some (ys i c) := fun i c hi hc => by
      have hcc := row_cell h1' h5 h7 hi hc
      rwa [cell_of_row w g0 (i * k + c) cur e (0, 0) h7] at hcc
    have hdm : ∀ j, j < xs.length * k → j / k < xs.length ∧ j % k < k ∧ j / k * k + j % k = j := fun j hj => by
      have hk0 : 0 < k := Nat.pos_of_ne_zero fun h => by subst h; simp at hj
      exact ⟨(Nat.div_lt_iff_lt_mul hk0).2 hj, Nat.mod_lt _ hk0, by rw [Nat.mul_comm]; exact Nat.div_add_mod j k⟩
    have hE : ∀ i, (encF ys zs k xs.length i).length = k := fun i => by
      unfold encF
      split
      · simp
      · exact hzl
    have hEat : ∀ i c, i < xs.length → c < k → (encF ys zs k xs.length i)[c]! = ys i c := fun i c hi hc => by
      unfold encF
      rw [if_pos hi, getElem!_pos _ c (by simpa using hc)]
      simp
    have hH : HoldsK (encF ys zs k xs.length) k w g0 0 (Array.range xs.length) := by
      intro j hj
      have hj' : j < xs.length * k := by simpa using hj
      obtain ⟨hpi, hpc, hpe⟩ := hdm j hj'
      have h12 := hcur (j / k) (j % k) hpi hpc
      rw [hpe] at h12
      rw [Nat.zero_add, cell_of_row w g0 j cur e (0, 0) h7, h12, get_flatK _ k _ _ (by simpa using hj'), rngK (α := Nat) _ _ hpi]
      refine ⟨by rw [hEat _ _ hpi hpc]; rfl, ?_⟩
      unfold World.frozen?
      rw [h7]
      simp
    have hRep : ∀ x, ∀ i (h : i < (encF ys zs k xs.length x).length) (h' : i < (dz (xs.getD x default)).length), Rep F w (encF ys zs k xs.length x)[i] (dz (xs.getD x default))[i] := fun x i h h' => by
      have hi : i < k := by rw [hE] at h; exact h
      by_cases hx : x < xs.length
      · have e1 : (encF ys zs k xs.length x)[i] = ys x i := by
          have := hEat x i hx hi
          rwa [getElem!_pos _ i h] at this
        have e2 : xs.getD x default = xs[x] := by rw [List.getD_eq_getElem?_getD, List.getElem?_eq_getElem hx]; rfl
        simp only [e1, e2]
        exact (hcell x hx i hi).2
      · have e1 : encF ys zs k xs.length x = zs := if_neg hx
        have e2 : xs.getD x default = default := by rw [List.getD_eq_getElem?_getD, List.getElem?_eq_none (by omega)]; rfl
        simp only [e1, e2]
        exact hzr F w i (by rw [hzl]; exact hi) _
    have hL : CmpLays P g #[] (encF ys zs k xs.length) k (cfF cf xs) g0 0 (Array.range xs.length).size w := fun m os dk _ x y =>
      hC F w _ (xs.getD x default) (xs.getD y default) _ _ (hE x) (hE y) (hRep x) (hRep y)
    have h := T.all (encF ys zs k xs.length) hE
      (fun x v hv => by
        unfold encF at hv
        by_cases hx : x < xs.length
        · rw [if_pos hx] at hv
          obtain ⟨c, hc, rfl⟩ := List.mem_map.1 hv
          exact (hcell x hx c (List.mem_range.1 hc)).1
        · rw [if_neg hx] at hv
          exact hz1 v hv) (cfF cf xs) (swoF hO xs) g g0 cap (Array.range xs.length) w eg hL hH hg (by simpa using hn)
    rw [show (Array.range xs.length).size = xs.length by simp] at h
    refine h.mono fun e' w' ⟨he, d', n, os, hp, hs, hw⟩ => ?_
    obtain ⟨hp1, _, hp3⟩ := hp
    have hds : d'.size = xs.length := by rw [hp1]; simp
    have hperm : d'.toList.Perm (List.range xs.length) := by
      have e1 : d'.extract 0 xs.length = d' := by rw [← hds]; exact Array.extract_size
      have e2 : (Array.range xs.length).extract 0 xs.length = Array.range xs.length := by
        have := Array.extract_size (xs := Array.range xs.length)
        rwa [show (Array.range xs.length).size = xs.length by simp] at this
      rw [e1, e2] at hp3
      simpa using hp3
    have hlt : ∀ i, i < xs.length → d'[i]! < xs.length := fun i hi => by
      rw [getElem!_pos d' i (by omega)]
      have : d'[i] ∈ d'.toList := by rw [Array.mem_toList_iff]; exact Array.getElem_mem _
      exact List.mem_range.1 (hperm.mem_iff.1 this)
    have hsort : (d'.toList.map fun i => xs.getD i default) = sortF cf xs := by
      refine sortF_uniq hO hd ?_ ?_
      · have h12 := hperm.map fun i => xs.getD i default
        have h13 : (List.range xs.length).map (fun i => xs.getD i default) = xs := by
          apply List.ext_getElem
          · simp
          · intro i a1 a2
            simp [List.getD_eq_getElem?_getD, List.getElem?_eq_getElem a2]
        rwa [h13] at h12
      · rw [List.pairwise_map, List.pairwise_iff_getElem]
        intro i j hi hj hij
        have hj' : j < xs.length := by rw [← hds]; simpa using hj
        have h12 := hs i j (Nat.zero_le _) hij (by rw [← hds]; simpa using hj)
        rw [getElem!_pos d' i (by omega), getElem!_pos d' j (by omega)] at h12
        have h13 : ltOf cf (xs.getD d'[j] default) (xs.getD d'[i] default) = false := h12
        simpa using h13
    have hat : ∀ i, (hi : i < xs.length) → (sortF cf xs)[i]'(by rw [hsl]; exact hi) = xs[d'[i]!]'(hlt i hi) := fun i hi => by
      have h12 : (d'.toList.map fun i => xs.getD i default)[i]? = some (xs[d'[i]!]'(hlt i hi)) := by
        rw [List.getElem?_map, Array.getElem?_toList, Array.getElem?_eq_getElem (by omega)]
        have := hlt i hi
        rw [getElem!_pos d' i (by omega)] at this
        simp only [Option.map_some, List.getD_eq_getElem?_getD, List.getElem?_eq_getElem this, Option.getD_some]
        congr 1
        simp [getElem!_pos d' i (by omega)]
      rw [hsort, List.getElem?_eq_getElem (by rw [hsl]; exact hi)] at h12
      exact Option.some.inj h12
    have hw2 : w' = Sort.grow (putRowK (encF ys zs k xs.length) k (Sort.ahead w n) g0 0 d') os := hw
    obtain ⟨hb1, hb2⟩ := put_blockG (encF ys zs k xs.length) k (n := n) (os := os) (zs := d') h7
    have hsz : w.heap.size ≤ w'.heap.size := by rw [hw2, Sort.size_grow, size_putRowK]; exact Nat.le_add_right _ _
    have hob : ownB [(id, Ob.row e k (xs.map dz))] ρ g0 := ⟨_, List.mem_singleton.2 rfl, by rw [h5]; rfl⟩
    have hnF : ¬ F g0 := h4 g0 (by rw [h5]; rfl)
    have hkeep : ∀ b, F b → w'.heap[b]? = w.heap[b]? := fun b hb => by
      rw [hw2]
      exact hb2 b (hF b hb) (fun e => hnF (e ▸ hb))
    refine ⟨_, F, ρ, he, .tup [] [] rfl (fun i h1 => by simp at h1), fun _ hb => hb, fun _ hb => .inl hb, fun b hb => Nat.lt_of_lt_of_le (hF b hb) hsz, ⟨by rw [hw2]; rfl, by rw [hw2]; rfl, by rw [hw2]; rfl, hsz, fun k hk hne => ?_⟩, ?_, ?_, fun _ _ => rfl⟩
    · rw [hw2]
      exact hb2 k hk (fun he => hne (.inr (he ▸ hob)))
    · refine ⟨fun p hp => ?_, fun p hp q hq hne => ?_, fun p hp q hq _ => ?_⟩
      · have : p = (id, .row e k ((sortF cf xs).map dz)) := by simpa using hp
        subst this
        have hl2 : ((sortF cf xs).map dz).length = xs.length := by rw [List.length_map, hsl]
        have hc2 : ∀ i c, i < xs.length → c < k → (Sort.putCells _root_.id 0 (flatK (encF ys zs k xs.length) k d') cur)[i * k + c]? = some (ys d'[i]! c) := fun i c hi hc => by
          rw [put_cellsG (encF ys zs k xs.length) k d' cur (by rw [hds, h10]; exact Nat.mul_le_mul_right k h8) i c (by omega) hc, hEat _ _ (hlt i hi) hc]
        refine ⟨fun i c => ys d'[i]! c, ?_, fun i hi => by rw [List.getElem_map, hdz], fun i hi c hc => ?_, fun g' hg' => ?_⟩
        · rw [hl2]
          refine ⟨flat_length _ _ _, .inr ⟨g0, cap, _, h5, h6, by rw [hw2]; exact hb1, h8, h9, by simp [Sort.putCells, h10], ?_⟩⟩
          apply List.ext_getElem?
          intro p
          by_cases hp : p < xs.length * k
          · obtain ⟨hpi, hpc, hpe⟩ := hdm p hp
            have := flatten_get (fun i c => ys d'[i]! c) k xs.length (p / k) (p % k) hpi hpc
            rw [hpe] at this
            have h12 := hc2 (p / k) (p % k) hpi hpc
            rw [hpe] at h12
            rw [this, List.getElem?_take, if_pos hp, Array.getElem?_toList, h12]
          · rw [List.getElem?_eq_none (by rw [List.length_take]; omega)]
            exact (List.getElem?_eq_none (by have := flat_length (fun i c => ys d'[i]! c) xs.length k; unfold flat at this; rw [this]; omega)).symm
        · rw [hl2] at hi
          have hc5 : c < k := by rw [List.getElem_map, hdz] at hc; exact hc
          have h12 := hcell d'[i]! (hlt i hi) c hc5
          refine ⟨h12.1, ?_⟩
          simp only [List.getElem_map]
          have h13 := h12.2.mono (F' := F) (w' := w') (fun _ h => h) hkeep
          have e1 := hat i hi
          simp only [e1]
          exact h13
        · rw [h5] at hg'
          simp [blk] at hg'
          subst hg'
          exact hnF
      · have h1 : p = (id, .row e k ((sortF cf xs).map dz)) := by simpa using hp
        have h2 : q = (id, .row e k ((sortF cf xs).map dz)) := by simpa using hq
        rw [h1, h2] at hne
        exact absurd rfl hne
      · have h1 : p = (id, .row e k ((sortF cf xs).map dz)) := by simpa using hp
        have h2 : q = (id, .row e k ((sortF cf xs).map dz)) := by simpa using hq
        rw [h1, h2]
    · intro p hp g' hg'
      have : p = (id, .row e k ((sortF cf xs).map dz)) := by simpa using hp
      subst this
      exact .inr ⟨_, List.mem_singleton.2 rfl, hg'⟩
end
end Go.Proofs.YthcdjmkkgbcaaaaGreatDoor

namespace Go.Proofs
open Go.Shelf
def Tryz.sortResult_ren : Go.Shelf.Ren := ⟨fun | 6 => 43 | 15 => 76 | 14 => 81 | 28 => 116 | 29 => 117 | 20 => 121 | 21 => 122 | 22 => 123 | 23 => 124 | 24 => 125 | 25 => 126 | 26 => 127 | 27 => 128 | 46 => 161 | 47 => 156 | 48 => 157 | 49 => 162 | 50 => 163 | 57 => 184 | n => n, fun | 22 => 79 | 24 => 83 | 25 => 87 | 3 => 3 | 39 => 122 | 0 => 0 | 53 => 145 | 55 => 157 | 4 => 4 | 46 => 150 | 45 => 149 | 50 => 80 | 5 => 5 | 9 => 9 | 66 => 187 | 70 => 191 | 76 => 214 | 77 => 89 | n => n, fun | n => n⟩
theorem Tryz.sortResult : Go.Proofs.SlLaysF0.n6 Tryz.prog Tryz.sortResult_ren := {
  mixed := by kernel_rfl
  f6 := ⟨Tryz.f43.name, by decide, Tryz.func43.trans (congrArg some (by kernel_rfl))⟩
  f14 := ⟨Tryz.f81.name, by decide, Tryz.func81.trans (congrArg some (by kernel_rfl))⟩
  f15 := Tryz.func76.trans (congrArg some (by kernel_rfl))
  f20 := ⟨Tryz.f121.name, by decide, Tryz.func121.trans (congrArg some (by kernel_rfl))⟩
  f21 := ⟨Tryz.f122.name, by decide, Tryz.func122.trans (congrArg some (by kernel_rfl))⟩
  f22 := ⟨Tryz.f123.name, by decide, Tryz.func123.trans (congrArg some (by kernel_rfl))⟩
  f23 := ⟨Tryz.f124.name, by decide, Tryz.func124.trans (congrArg some (by kernel_rfl))⟩
  f24 := ⟨Tryz.f125.name, by decide, Tryz.func125.trans (congrArg some (by kernel_rfl))⟩
  f25 := ⟨Tryz.f126.name, by decide, Tryz.func126.trans (congrArg some (by kernel_rfl))⟩
  f26 := ⟨Tryz.f127.name, by decide, Tryz.func127.trans (congrArg some (by kernel_rfl))⟩
  f27 := ⟨Tryz.f128.name, by decide, Tryz.func128.trans (congrArg some (by kernel_rfl))⟩
  f28 := Tryz.func116.trans (congrArg some (by kernel_rfl))
  f29 := Tryz.func117.trans (congrArg some (by kernel_rfl))
  f46 := ⟨Tryz.f161.name, by decide, Tryz.func161.trans (congrArg some (by kernel_rfl))⟩
  f47 := Tryz.func156.trans (congrArg some (by kernel_rfl))
  f48 := Tryz.func157.trans (congrArg some (by kernel_rfl))
  f49 := ⟨Tryz.f162.name, by decide, Tryz.func162.trans (congrArg some (by kernel_rfl))⟩
  f50 := ⟨Tryz.f163.name, by decide, Tryz.func163.trans (congrArg some (by kernel_rfl))⟩
  f57 := ⟨Tryz.f184.name, by decide, Tryz.func184.trans (congrArg some (by kernel_rfl))⟩
  t0 := Tryz.underlying0
  a0 := Tryz.isAgg0
  z0 := Tryz.sizeOf0
  v0 := Tryz.zeroValue0
  t3 := Tryz.underlying3
  a3 := Tryz.isAgg3
  z3 := Tryz.sizeOf3
  v3 := Tryz.zeroValue3
  t4 := Tryz.underlying4
  a4 := Tryz.isAgg4
  z4 := Tryz.sizeOf4
  v4 := Tryz.zeroValue4
  t5 := Tryz.underlying5
  a5 := Tryz.isAgg5
  z5 := Tryz.sizeOf5
  v5 := Tryz.zeroValue5
  t9 := Tryz.underlying9
  a9 := Tryz.isAgg9
  z9 := Tryz.sizeOf9
  v9 := Tryz.zeroValue9
  t22 := Tryz.underlying79
  a22 := Tryz.isAgg79
  z22 := Tryz.sizeOf79
  v22 := Tryz.zeroValue79
  t25 := Tryz.underlying87
  a25 := Tryz.isAgg87
  z25 := Tryz.sizeOf87
  v25 := Tryz.zeroValue87
  t39 := Tryz.underlying122
  a39 := Tryz.isAgg122
  z39 := Tryz.sizeOf122
  v39 := Tryz.zeroValue122
  t45 := Tryz.underlying149
  a45 := Tryz.isAgg149
  z45 := Tryz.sizeOf149
  v45 := Tryz.zeroValue149
  t46 := Tryz.underlying150
  a46 := Tryz.isAgg150
  z46 := Tryz.sizeOf150
  v46 := Tryz.zeroValue150
  t50 := Tryz.underlying80
  a50 := Tryz.isAgg80
  z50 := Tryz.sizeOf80
  v50 := Tryz.zeroValue80
  t53 := Tryz.underlying145
  a53 := Tryz.isAgg145
  z53 := Tryz.sizeOf145
  v53 := Tryz.zeroValue145
  t55 := Tryz.underlying157
  a55 := Tryz.isAgg157
  z55 := Tryz.sizeOf157
  v55 := Tryz.zeroValue157
  t66 := Tryz.underlying187
  a66 := Tryz.isAgg187
  z66 := Tryz.sizeOf187
  v66 := Tryz.zeroValue187
  t70 := Tryz.underlying191
  a70 := Tryz.isAgg191
  z70 := Tryz.sizeOf191
  v70 := Tryz.zeroValue191
  t76 := Tryz.underlying214
  a76 := Tryz.isAgg214
  z76 := Tryz.sizeOf214
  v76 := Tryz.zeroValue214
  t77 := Tryz.underlying89
  a77 := Tryz.isAgg89
  z77 := Tryz.sizeOf89
  v77 := Tryz.zeroValue89 }
def Tryz.cmpI_ren : Go.Shelf.Ren := ⟨fun | 5 => 46 | 7 => 82 | n => n, fun | 22 => 3 | 3 => 3 | 4 => 4 | n => n, fun | n => n⟩
theorem Tryz.cmpI : Go.Proofs.SlLaysC2.n5 Tryz.prog Tryz.cmpI_ren := {
  mixed := by kernel_rfl
  f5 := ⟨Tryz.f46.name, by decide, Tryz.func46.trans (congrArg some (by kernel_rfl))⟩
  f7 := ⟨Tryz.f82.name, by decide, Tryz.func82.trans (congrArg some (by kernel_rfl))⟩
  t3 := Tryz.underlying3
  a3 := Tryz.isAgg3
  z3 := Tryz.sizeOf3
  v3 := Tryz.zeroValue3
  t4 := Tryz.underlying4
  a4 := Tryz.isAgg4
  z4 := Tryz.sizeOf4
  v4 := Tryz.zeroValue4
  t22 := Tryz.underlying3
  a22 := Tryz.isAgg3
  z22 := Tryz.sizeOf3
  v22 := Tryz.zeroValue3 }
end Go.Proofs
