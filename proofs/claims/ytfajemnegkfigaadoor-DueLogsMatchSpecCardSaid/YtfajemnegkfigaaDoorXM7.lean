/- Walks and laws over abstract values, merged by tools/merge.py. No statement of the seat. -/
import Derived.Shelf.Spec.SlicesInsertGrow
import Derived.Deep.RegionLaw
import Derived.Laws.NewBlocks
import Derived.DeepKeys4
import Derived.Maps.Keyed
import Derived.Test.YtfajemnegkfigaaDoorXM6

namespace Go.Proofs.YtfajemnegkfigaaDoor
open Go.RowKit
set_option linter.unusedVariables false

def OneC (σ : Obs) (s : S) : Prop := OneS σ s ∨ ∃ id off, s = .ptr id off
section
variable {cx : Cx} {ops : Array Oper} {o : Oper} {rest : List Oper} {e : Env} {σ : Obs} {Q : Post}
end
/-! One object takes another's place. -/
def S.ren (i j : Nat) : S → S
  | .own k => match Nat.beq k i with | true => .own j | false => match Nat.beq k j with | true => .d .any | false => .own k
  | .ptr k off => match Nat.beq k i with | true => .ptr j off | false => match Nat.beq k j with | true => .d .any | false => .ptr k off
  | .d x => .d x
  | .clo f caps => .d .any
def Ob.ren (i j : Nat) : Ob → Ob
  | .row e size els => .row e size els
  | .cells ss => .cells (ss.map (S.ren i j))
  | .map M => .map M
  | .rowS e size els => .rowS e size (els.map fun ss => ss.map (S.ren i j))
  | .bts l => .bts l
  | .val ss => .val (ss.map (S.ren i j))
section
variable {cx : Cx} {ops : Array Oper} {rest : List Oper} {e : Env} {σ : Obs} {Q : Post}
end
end Go.Proofs.YtfajemnegkfigaaDoor


namespace Go.Proofs.YtfajemnegkfigaaDoor
open Go.RowKit
set_option linter.unusedVariables false

/-- f returns a struct whose parts are as ss', some of them own objects; the object vid is that struct. -/
def XSCall (P : Program) (f : FuncId) (ss : List S) (σ σ' : Obs) (chg : Nat → Bool) (s : S) : Prop := Enters P f ∧
  ∀ (F : Nat → Prop) (ρ : Nat → Value) (B : Nat) (w : World) (vs : List Value), (∀ b, F b → b < w.heap.size) → B ≤ w.heap.size → ObsOk B F ρ w σ → RepSL F ρ w vs ss →
    Calls P f vs.toArray w fun e w' => ∃ v F' ρ', e = .returned v ∧ RepS F' ρ' w' v s ∧ XEnd B F ρ w σ F' ρ' w' σ' chg

def RetXC (b : Nat) (ds : List D) (σ' : Obs) : Post := fun ex e σ => match ex with
  | .ret => (∃ cid, e b = .ptr cid 0 ∧ (cid, Ob.cells (ds.map S.d)) ∈ σ) ∧ AllIn σ σ'
  | .normal => (∃ cid, e b = .ptr cid 0 ∧ (cid, Ob.cells (ds.map S.d)) ∈ σ) ∧ AllIn σ σ'
  | _ => False
def RetXV (b vid : Nat) (ss' : List S) (σr : Obs) : Post := fun ex e σ => match ex with
  | .ret => (∃ cid ssr, e b = .ptr cid 0 ∧ (cid, Ob.cells ssr) ∈ σ ∧ ssr.map (S.kill vid) = ss' ∧ Obs.fresh vid σr = true ∧ Obs.kill vid σr = σr) ∧ AllIn σ σr
  | .normal => (∃ cid ssr, e b = .ptr cid 0 ∧ (cid, Ob.cells ssr) ∈ σ ∧ ssr.map (S.kill vid) = ss' ∧ Obs.fresh vid σr = true ∧ Obs.kill vid σr = σr) ∧ AllIn σ σr
  | _ => False
section
variable {cx : Cx} {ops : Array Oper} {o : Oper} {rest : List Oper} {e : Env} {σ : Obs} {Q : Post}
end
end Go.Proofs.YtfajemnegkfigaaDoor


namespace Go.Proofs.YtfajemnegkfigaaDoor
open Go.RowKit
set_option linter.unusedVariables false

/-- One step; sl: who reads objects, ef: who writes them. -/
def HStep (cx : Cx) (ops : Array Oper) (sl ef : Nat → Bool) (I : Obs → Prop) (k : Nat) (o : Oper) (e : Env) (σ : Obs) (e' : Env) (σ' : Obs) : Prop :=
  (GW ops o e true ∧ ∃ s, ((sl k = true ∧ AOp cx.P cx.B ops o e σ s) ∨ (I σ ∧ ∀ τ, I τ → AOp cx.P cx.B ops o e τ s)) ∧ e' = e.put o.dst s ∧ σ' = σ) ∨
  (GW ops o e false ∧ e' = e.put o.dst (.d (.v undef)) ∧ σ' = σ) ∨
  (GW ops o e true ∧ ef k = true ∧ o.dst = none ∧ EOp cx ops o e σ σ' ∧ e' = e ∧ I σ ∧ I σ')

def HRun (cx : Cx) (ops : Array Oper) (sl ef : Nat → Bool) (I : Obs → Prop) : Nat → List Oper → Env → Obs → (Env → Obs → Prop) → Prop
  | _, [], e, σ, Q => Q e σ
  | k, o :: l, e, σ, Q => DstOk cx.N o ∧ ∃ e' σ', HStep cx ops sl ef I k o e σ e' σ' ∧ HRun cx ops sl ef I (k + 1) l e' σ' Q

def anyH (cx : Cx) (ops : Array Oper) (sl ef : Nat → Bool) (I : Obs → Prop) (Q : Env → Obs → Prop) : Nat → Array Bool → Env → Obs → Prop
  | 0, listed, e, σ => Region.ready .any ops listed = [] ∧ Q e σ
  | fuel + 1, listed, e, σ => (Region.ready .any ops listed = [] → Q e σ) ∧
      ∀ i ∈ Region.ready .any ops listed, ∀ o, ops[i]? = some o → ∃ e' σ', HStep cx ops sl ef I i o e σ e' σ' ∧ anyH cx ops sl ef I Q fuel (listed.setIfInBounds i true) e' σ'

section
variable {cx : Cx} {ops : Array Oper} {o : Oper} {rest : List Oper} {e : Env} {σ : Obs} {sl ef : Nat → Bool} {I : Obs → Prop} {n : Nat} {l : List Oper} {Q : Env → Obs → Prop}
theorem HRun.nil (h : Q e σ) : HRun cx ops sl ef I n [] e σ Q := h
end
end Go.Proofs.YtfajemnegkfigaaDoor


namespace Go.Proofs.YtfajemnegkfigaaDoor
open Go.RowKit
set_option linter.unusedVariables false

/-- What the operation gives depends on x's value alone; or it gives nothing. -/
def PureOp (P : Program) (o : Oper) (x : Operand) : Prop := ∀ u : Value, (∃ v, ∀ (a : Act) (w : World), a.eval x = u → (execOp a.eval o).run P w = .ok (.value v) w) ∨
  (∀ (a : Act) (w : World) (K : Act → World → Prop) (Q : Exit → Act → World → Prop), (∀ e a w, e ≠ .normal → ¬ Q e a w) → a.eval x = u → ¬ o.wp P a w K Q)
theorem PureOp.move {P : Program} {o : Oper} {x : Operand} (h : o.op = .move x) : PureOp P o x := fun u => .inl ⟨u, fun a w hx => by
  unfold execOp
  simp only [h, hx, Sem.run_pure]⟩
theorem PureOp.extract {P : Program} {o : Oper} {x : Operand} {i : Nat} (h : o.op = .extract x i) : PureOp P o x := fun u => by
  by_cases hu : ∃ vs v, u = .tuple vs ∧ vs[i]? = some v
  · obtain ⟨vs, v, rfl, hv⟩ := hu
    refine .inl ⟨v, fun a w hx => ?_⟩
    unfold execOp
    simp only [h, hx, Instr.extract, hv, Sem.run_bind, Sem.run_pure, Result.andThen_ok]
  · refine .inr fun a w K Q hQ hx hw => ?_
    unfold Oper.wp execOp at hw
    simp only [h, hx] at hw
    cases u with
    | tuple vs =>
      cases hv : vs[i]? with
      | some v => exact hu ⟨vs, v, rfl, hv⟩
      | none => simp only [Instr.extract, hv, Sem.run_bind] at hw; exact hw
    | _ => simp only [Instr.extract, Sem.run_bind] at hw; exact hw
/-- From k on each one waits for all before it, but for those of L ahead of k. -/
def Region.chainLB (ops : Array Oper) (L : Nat → Bool) (k : Nat) : Bool := Region.downB ops && Nat.ble k ops.size && (List.range (ops.size - 1)).all fun j =>
  (L j && Nat.blt j k) || (List.range ops.size).any fun m => Nat.blt j m && (Nat.ble m k || Nat.ble m (j + 1)) && (!(L m) || Nat.ble k m) && Region.edge ops m j
structure ChainL (ops : Array Oper) (L : Nat → Bool) (k : Nat) : Prop where
  down : Region.downB ops = true
  le : k ≤ ops.size
  next : ∀ j, (L j = false ∨ k ≤ j) → j < ops.size - 1 → ∃ m, j < m ∧ (m ≤ k ∨ m ≤ j + 1) ∧ (L m = false ∨ k ≤ m) ∧ Region.edge ops m j = true
theorem ChainL.of {ops : Array Oper} {L : Nat → Bool} {k : Nat} (h : Region.chainLB ops L k = true) : ChainL ops L k := by
  unfold Region.chainLB at h
  simp only [Bool.and_eq_true] at h
  obtain ⟨⟨h1, h2⟩, h3⟩ := h
  refine ⟨h1, Nat.le_of_ble_eq_true h2, fun j hL hj => ?_⟩
  have h4 := List.all_eq_true.1 h3 j (List.mem_range.2 hj)
  rw [Bool.or_eq_true] at h4
  rcases h4 with h4 | h4
  · simp only [Bool.and_eq_true, Nat.blt_eq] at h4
    rcases hL with hL | hL
    · rw [hL] at h4; simp at h4
    · omega
  · obtain ⟨m, _, hm⟩ := List.any_eq_true.1 h4
    simp only [Bool.and_eq_true, Bool.or_eq_true, Nat.blt_eq, Bool.not_eq_true'] at hm
    exact ⟨m, hm.1.1.1, hm.1.1.2.imp Nat.le_of_ble_eq_true Nat.le_of_ble_eq_true, hm.1.2.imp id Nat.le_of_ble_eq_true, hm.2⟩
section
variable {P : Program} {ops : Array Oper} {Q Q0 : Exit → Act → World → Prop} {k : Nat} {L : Nat → Bool}
/-- The operations of L: pure, unguarded, apart from whoever is not bound to come after. -/
structure LateOk (P : Program) (ops : Array Oper) (L : Nat → Bool) (k : Nat) : Prop where
  op : ∀ i, L i = true → i < k → ∃ oi x d, ops[i]? = some oi ∧ PureOp P oi x ∧ (∀ t, x = .tmp t → t ∈ oi.looksAt ops) ∧ oi.dst = some d ∧ oi.guard = none
  sel : ∀ (j : Nat) (oj : Oper), ops[j]? = some oj → notSelect oj = true
  apart : ∀ i oi, L i = true → i < k → ops[i]? = some oi → ∀ (j : Nat) (oj : Oper), ops[j]? = some oj → j ≠ i → (∀ e ∈ oj.after, Region.binds .any e = true → e.on ≠ i) → (∀ e ∈ oi.after, Region.binds .any e = true → e.on ≠ j) → oi.apart ops oj = true
end
/-- The late ones, by a look at them. -/
def pureB (o : Oper) : Bool := (match o.op with | .move _ => true | .extract _ _ => true | _ => false) && o.guard.isNone && o.dst.isSome
theorem pureB_spec {P : Program} {ops : Array Oper} {o : Oper} (h : pureB o = true) : ∃ x d, PureOp P o x ∧ (∀ t, x = .tmp t → t ∈ o.looksAt ops) ∧ o.dst = some d ∧ o.guard = none := by
  unfold pureB at h
  simp only [Bool.and_eq_true] at h
  obtain ⟨⟨h1, h2⟩, h3⟩ := h
  obtain ⟨d, hd⟩ := Option.isSome_iff_exists.1 h3
  have hg : o.guard = none := by simpa using h2
  cases hop : o.op with
  | move x => exact ⟨x, d, .move hop, fun t ht => looks_op (by rw [hop, ht]; simp [Op.operands]), hd, hg⟩
  | extract x i => exact ⟨x, d, .extract hop, fun t ht => looks_op (by rw [hop, ht]; simp [Op.operands]), hd, hg⟩
  | _ => rw [hop] at h1; simp at h1
def lateB (ops : Array Oper) (L : List Nat) (k : Nat) : Bool := (ops.toList.all notSelect) && L.all fun i => Nat.blt i k && ((ops[i]?).map fun oi => pureB oi && (List.range ops.size).all fun j => Nat.beq j i || Region.edge ops j i || Region.edge ops i j || ((ops[j]?).map fun oj => oi.apart ops oj).getD true).getD false
theorem LateOk.of {P : Program} {ops : Array Oper} {L : List Nat} {k : Nat} (h : lateB ops L k = true) : LateOk P ops (fun i => L.contains i) k := by
  unfold lateB at h
  simp only [Bool.and_eq_true] at h
  have hL : ∀ i, L.contains i = true → ∃ oi, ops[i]? = some oi ∧ pureB oi = true ∧ ∀ j oj, ops[j]? = some oj → j ≠ i → (∀ e ∈ oj.after, Region.binds .any e = true → e.on ≠ i) → (∀ e ∈ oi.after, Region.binds .any e = true → e.on ≠ j) → oi.apart ops oj = true := fun i hi => by
    have h1 := List.all_eq_true.1 h.2 i (List.contains_iff_mem.1 hi)
    simp only [Bool.and_eq_true] at h1
    cases ho : ops[i]? with
    | none => rw [ho] at h1; simp at h1
    | some oi =>
      rw [ho] at h1
      simp only [Option.map_some, Option.getD_some, Bool.and_eq_true] at h1
      refine ⟨oi, rfl, h1.2.1, fun j oj hj hji hn hn2 => ?_⟩
      have h2 := List.all_eq_true.1 h1.2.2 j (List.mem_range.2 (Array.getElem?_eq_some_iff.1 hj).1)
      rw [hj] at h2
      simp only [Option.map_some, Option.getD_some, Bool.or_eq_true] at h2
      rcases h2 with ((h2 | h2) | h2) | h2
      · exact absurd (Nat.eq_of_beq_eq_true h2) hji
      · obtain ⟨o, ho2, e, he, hb, heq⟩ := Region.edge_spec h2
        rw [hj] at ho2; cases ho2
        exact absurd heq (hn e he hb)
      · obtain ⟨o, ho2, e, he, hb, heq⟩ := Region.edge_spec h2
        rw [ho] at ho2; cases ho2
        exact absurd heq (hn2 e he hb)
      · exact h2
  refine ⟨fun i hi _ => ?_, fun j oj hj => List.all_eq_true.1 h.1 oj (by simpa using Array.mem_of_getElem? hj), fun i oi hi _ hoi j oj hj hji hn hn2 => ?_⟩
  · obtain ⟨oi, h1, h2, _⟩ := hL i hi
    obtain ⟨x, d, h3, h4, h5, h6⟩ := pureB_spec (P := P) (ops := ops) h2
    exact ⟨oi, x, d, h1, h3, h4, h5, h6⟩
  · obtain ⟨oi', h1, _, h3⟩ := hL i hi
    rw [hoi] at h1; cases h1
    exact h3 j oj hj hji hn hn2
def QN (Q : Post) : Post := fun ex e σ => match ex with | .normal => Q .normal e σ | _ => False
end Go.Proofs.YtfajemnegkfigaaDoor


namespace Go.Proofs.YtfajemnegkfigaaDoor
open Go.RowKit
set_option linter.unusedVariables false

def Env.puts (e : Env) : List (Nat × S) → Env
  | [] => e
  | p :: l => Env.puts (e.put (some p.1) p.2) l
/-- An object that the region makes, and the slots that may hold it. -/
structure Fc where
  id : Nat
  slots : List Nat
def Clean (Φ : List Fc) (e : Env) : Prop := ∀ f ∈ Φ, ∀ t, f.slots.contains t = false → (e t).kill f.id = e t
def QE (e1 : Env) (σ1 : Obs) : Post := fun ex e σ => match ex with | .normal => e = e1 ∧ σ = σ1 | _ => False
/-- An operation that makes or turns objects: the slots that it sets, the objects behind it. -/
def GE (cx : Cx) (ops : Array Oper) (Φ : List Fc) (o : Oper) (e : Env) (σ : Obs) (si : List (Nat × S)) (σ' : Obs) : Prop :=
  ∀ e0 : Env, (∀ t, t ∈ o.looksAt ops → e0 t = e t) → (∀ t, t ∈ si.map Prod.fst → e0 t = e t) → Clean Φ e0 → AOps cx ops [o] e0 σ (QE (Env.puts e0 si) σ')
def LStep (cx : Cx) (ops : Array Oper) (Φ : List Fc) (ef : Nat → Bool) (K : Nat → List Nat) (I : Obs → Prop) (k : Nat) (o : Oper) (e : Env) (σ : Obs) (e' : Env) (σ' : Obs) : Prop :=
  (GW ops o e true ∧ ef k = false ∧ ∃ s, I σ ∧ (∀ τ, I τ → AOp cx.P cx.B ops o e τ s) ∧ (∀ f ∈ Φ, (∃ t, o.dst = some t ∧ f.slots.contains t = true) ∨ s.kill f.id = s) ∧ e' = e.put o.dst s ∧ σ' = σ) ∨
  (GW ops o e false ∧ ef k = false ∧ e' = e.put o.dst (.d (.v undef)) ∧ σ' = σ) ∨
  (GW ops o e true ∧ ef k = true ∧ I σ ∧ I σ' ∧ ∃ si, si.map Prod.fst = K k ∧ GE cx ops Φ o e σ si σ' ∧ (∀ p ∈ si, ∀ f ∈ Φ, f.slots.contains p.1 = true ∨ p.2.kill f.id = p.2) ∧ e' = Env.puts e si)
def LRun (cx : Cx) (ops : Array Oper) (Φ : List Fc) (ef : Nat → Bool) (K : Nat → List Nat) (I : Obs → Prop) : Nat → List Oper → Env → Obs → (Env → Obs → Prop) → Prop
  | _, [], e, σ, Q => Q e σ
  | k, o :: l, e, σ, Q => DstOk cx.N o ∧ ∃ e' σ', LStep cx ops Φ ef K I k o e σ e' σ' ∧ LRun cx ops Φ ef K I (k + 1) l e' σ' Q
def anyL (cx : Cx) (ops : Array Oper) (Φ : List Fc) (ef : Nat → Bool) (K : Nat → List Nat) (I : Obs → Prop) (Q : Env → Obs → Prop) : Nat → Array Bool → Env → Obs → Prop
  | 0, listed, e, σ => Region.ready .any ops listed = [] ∧ Q e σ
  | fuel + 1, listed, e, σ => (Region.ready .any ops listed = [] → Q e σ) ∧
      ∀ i ∈ Region.ready .any ops listed, ∀ o, ops[i]? = some o → ∃ e' σ', LStep cx ops Φ ef K I i o e σ e' σ' ∧ anyL cx ops Φ ef K I Q fuel (listed.setIfInBounds i true) e' σ'
/-- The slots of one are none of the other's. -/
def keysOkB (ops : Array Oper) (K : Nat → List Nat) (i j : Nat) (oi oj : Oper) : Bool :=
  ((K i).all fun k => !((oj.looksAt ops).contains k) && neDst oj k) && ((K j).all fun k => !((oi.looksAt ops).contains k) && neDst oi k) && (!(K i).any fun k => (K j).contains k)
/-- The check: whoever is free to change places has nothing to do with the other. -/
def Region.keysFree (ops : Array Oper) (ef : Nat → Bool) (K : Nat → List Nat) (listed : Array Bool) (k : Nat) (late : Nat → Bool) : Bool :=
  (List.range ops.size).all fun j =>
    (!(late j) || (!(listed.getD j false) && ((ops[j]?).map fun o => o.after.any fun e => Region.binds .any e && (Nat.beq e.on k || late e.on)).getD true)) &&
    (Nat.beq j k || listed.getD j true || late j || Region.edge ops j k || ((!(ef k) || !(ef j)) && ((ops[k]?).bind fun oi => (ops[j]?).map fun oj => keysOkB ops K k j oi oj).getD false))
def Region.keysFrom (ops : Array Oper) (ef : Nat → Bool) (K : Nat → List Nat) : Nat → Nat → Array Bool → Bool
  | 0, _, _ => true
  | fuel + 1, k, listed => Region.keysFree ops ef K listed k (Region.lateB ops k) && Region.keysFrom ops ef K fuel (k + 1) (listed.setIfInBounds k true)
/-- Before the region: no slot but those told holds what it makes or turns. -/
def Env.killOut (f : Fc) (e : Env) : Env := fun t => match f.slots.contains t with | true => e t | false => (e t).kill f.id
def Env.killIds : List Fc → Env → Env
  | [], e => e
  | f :: l, e => Env.killIds l (e.killOut f)
section
variable {cx : Cx} {ops : Array Oper} {Φ : List Fc} {ef : Nat → Bool} {K : Nat → List Nat} {I : Obs → Prop} {n : Nat} {o : Oper} {l : List Oper} {e : Env} {σ : Obs} {Q : Env → Obs → Prop}
def cleanS (t : Nat) (s : S) : List Fc → Prop
  | [] => True
  | f :: l => (f.slots.contains t = true ∨ s.kill f.id = s) ∧ cleanS t s l
theorem cleanS.all {t : Nat} {s : S} : ∀ {l : List Fc}, cleanS t s l → ∀ f ∈ l, f.slots.contains t = true ∨ s.kill f.id = s
  | [], _, f, hf => by cases hf
  | g :: l, h, f, hf => by
    cases hf with
    | head => exact h.1
    | tail _ hf => exact cleanS.all h.2 f hf
theorem LRun.nil (h : Q e σ) : LRun cx ops Φ ef K I n [] e σ Q := h
def cleanL (Φ : List Fc) : List (Nat × S) → Prop
  | [] => True
  | p :: l => (∀ f ∈ Φ, f.slots.contains p.1 = true ∨ p.2.kill f.id = p.2) ∧ cleanL Φ l
end
end Go.Proofs.YtfajemnegkfigaaDoor


namespace Go.Proofs.YtfajemnegkfigaaDoor
open Go.RowKit
set_option linter.unusedVariables false

end Go.Proofs.YtfajemnegkfigaaDoor


namespace Go.Proofs.YtfajemnegkfigaaDoor
open Go.RowKit
set_option linter.unusedVariables false

end Go.Proofs.YtfajemnegkfigaaDoor


namespace Go.Proofs.YtfajemnegkfigaaDoor
open Go.RowKit Go.Shelf
set_option linter.unusedVariables false

/-- copy(d, s), elements of whatever size. -/
theorem run_copy_sz {P : Program} (w : World) (dT sT ty elem : TypeId) (size b o dLen dCap : Nat) (a : Addr) (sLen sCap : Nat) (cs : List Value)
    (hu : P.underlying dT = some (.slice elem)) (hs : (P.info? elem).map (·.size) = some size) (hn : cs.length = Nat.min sLen dLen * size)
    (hsrc : ∀ j v, cs[j]? = some v → w.cell? (a.add j) = some v) (hc : ∀ j, j < cs.length → (w.cell? ⟨b, o + j, none⟩).isSome = true) (hf : ∀ j, j < cs.length → w.frozen? ⟨b, o + j, none⟩ = false) (h1 : ∀ v ∈ cs, v.oneCell' = true) :
    (Builtin.copy_ #[dT, sT] ty #[.slice (some ⟨b, o, none⟩) dLen dCap, .slice (some a) sLen sCap]).run P w = .ok (goInt (Nat.min sLen dLen)) (w.setCells b o cs) := by
  have hl := run_firstCells_some (P := P) w size (Nat.min sLen dLen) a sLen sCap cs hn hsrc
  have hst := run_storeCells_cells (P := P) b o cs 0 w (by simpa using hc) (by simpa using hf) h1
  cases hq : P.info? elem with
  | none => simp [hq] at hs
  | some i =>
    have hi : i.size = size := by simpa [hq] using hs
    simp only [Nat.min_def] at hl
    simp [Builtin.copy_, run_underlying hu, Builtin.lenOf, sizeOf, typeInfo, hq, hi, Nat.min_def, hl, hst]

/-- What an insertion leaves, told cell by cell. -/
theorem ins_takeS {xs F x : List Value} {i n s : Nat} (hn : xs.length = n) (hi : i ≤ n) (hx : x.length = s) (h1 : ∀ k, k < i → F[k]? = xs[k]?) (h2 : ∀ k, k < s → F[i + k]? = x[k]?) (h3 : ∀ k, i ≤ k → k < n → F[k + s]? = xs[k]?) : F.take (n + s) = xs.take i ++ x ++ xs.drop i := by
  apply List.ext_getElem?
  intro k
  have hL : (F.take (n + s))[k]? = if k < n + s then F[k]? else none := by rw [List.getElem?_take]
  have hT : (xs.take i).length = i := by rw [List.length_take]; omega
  rw [hL, get3, hT, hx]
  by_cases k1 : k < i
  · rw [if_pos (by omega), if_pos k1, h1 k k1, List.getElem?_take, if_pos k1]
  · rw [if_neg k1]
    by_cases k2 : k < i + s
    · rw [if_pos (by omega), if_pos k2]
      have := h2 (k - i) (by omega)
      rw [show i + (k - i) = k by omega] at this
      exact this
    · rw [if_neg k2]
      by_cases k3 : k < n + s
      · rw [if_pos k3, List.getElem?_drop]
        have := h3 (k - s) (by omega) (by omega)
        rw [show k - s + s = k by omega] at this
        rw [this]
        congr 1
        omega
      · rw [if_neg k3, List.getElem?_eq_none (by simp; omega)]

section
variable {cx : Cx} {e : Env} {σ : Obs} {Q : Post}
end

section
variable {cx : Cx} {ops : Array Oper} {o : Oper} {rest : List Oper} {e : Env} {σ : Obs} {Q : Post}
/-- []T{x}: an own row of one element. -/
theorem AOps.buildS {t el size bytes dst : Nat} {z : Value} {x : Operand} {d : D} (id : Nat) (hg : o.guard = none) (ht : o.dst = some dst) (hdn : Nat.blt dst cx.N = true) (ho : o.op = .buildSlice t 1 #[(0, x)]) (T : ElemTy cx.P t el size bytes z) (hsz : Nat.ble size 1000 = true) (hx : e.ev x = .d d) (h1 : d.one = true) (h2 : d.parts.length = size) (hid : Obs.fresh id σ = true)
    (k : AOps cx ops rest ((e.kill id).put (some dst) (.own id)) ((id, .row el size [d.parts]) :: Obs.kill id σ) Q) (hfx : cx.free id = true := by rfl) : AOps cx ops (o :: rest) e σ Q := by
  intro a w ⟨F, ρ, hr⟩
  have hsz' : size ≤ 1000 := by simpa [Nat.ble_eq] using hsz
  have hdn' : dst < cx.N := by simpa [Nat.blt_eq] using hdn
  have r1 := ev_rep (e := e) (x := x) (a := a) (fun t _ => hr.env t)
  rw [hx] at r1
  obtain ⟨h3, h4⟩ := parts_rep (repS_d r1) h1
  have hcl : (a.eval x).cells.toList.length = size := by rw [h3.1]; exact h2
  obtain ⟨c, hc⟩ : ∃ c, c = (a.eval x).cells.toList := ⟨_, rfl⟩
  have hcl' : c.length = size := by rw [hc]; exact hcl
  obtain ⟨i, hi, hz0, hz1, hz2⟩ := info_parts T.hi
  have hzc : z.cells.size = size := T.hz
  have hs0 : 0 < size := T.hs
  obtain ⟨cs', h5, h6⟩ := fill_inorder (size := size) 0 [(0, a.eval x)] ((Array.range size).map (fun j => z.cells[j % z.cells.size]!)) (fun j hj => by
    have hj0 : j = 0 := by simpa using hj
    subst hj0
    refine ⟨rfl, ?_⟩
    have : (a.eval x).cells.size = size := by rw [← Array.length_toList]; exact hcl
    simpa using this) (by simp)
  have h7 : cs'.toList = c := by
    have h9 : List.drop size (List.map (fun j => z.cells[j % z.cells.size]!) (List.range size)) = [] := List.drop_eq_nil_of_le (by simp)
    simpa [← hc, h9] using h6
  have hcs : cs' = c.toArray := by rw [← h7]
  have hrun : (execOp a.eval o).run cx.P w = .ok (.value (.slice (some ⟨w.heap.size, 0, none⟩) 1 1)) (w.alloc (.cells c.toArray el)) := by
    unfold execOp
    simp only [ho, Instr.buildSlice, Sem.run_bind, run_underlying T.ht, Result.andThen_ok, T.sizeOf]
    rw [if_neg (show ¬ (1 * size > 2 ^ 24) by omega), if_neg (show ¬ (1 * size = 0) by omega)]
    have hprog : (program : Sem Program).run cx.P w = .ok cx.P w := rfl
    simp only [Sem.run_bind, zeroValue, typeInfo, hprog, Result.andThen_ok, hi, Sem.run_pure, hz0]
    have h8 : Array.map (fun (p : Nat × Operand) => (p.fst, a.eval p.snd)) #[(0, x)] = #[(0, a.eval x)] := by simp
    rw [h8]
    rw [hcs] at h5
    simp only [Nat.one_mul, List.toArray] at h5 ⊢
    first | rw [h5] | skip
    rfl
  have hrow : (w.alloc (.cells c.toArray el)).ownsRow cx.B el size (.slice (some ⟨w.heap.size, 0, none⟩) 1 1) 1 c :=
    ⟨by rw [Nat.one_mul]; exact hcl', .inr ⟨w.heap.size, 1, c.toArray, rfl, hr.hB, heap_alloc_new w _, Nat.le_refl _, by unfold maxLen; omega, by simpa using hcl', by rw [Nat.one_mul, ← hcl']; simp⟩⟩
  have hfl : flat (fun _ j => c.getD j undef) 1 size = c := by
    unfold flat
    simp only [List.range_one, List.map_cons, List.map_nil, List.flatten_cons, List.flatten_nil, List.append_nil]
    apply List.ext_getElem
    · simp [hcl']
    · intro j hj hj2
      simp [List.getD_eq_getElem?_getD, hj2]
  obtain ⟨ρ', h9⟩ := hr.newRow (v := .slice (some ⟨w.heap.size, 0, none⟩) 1 1) (els := [d.parts]) (Obs.fresh_spec hid) hdn' ((Below.refl _ _).alloc (Nat.le_refl _) (.cells c.toArray el))
    ⟨fun _ j => c.getD j undef, by dsimp only; rw [if_pos rfl]; show World.ownsRow _ _ _ _ _ _ (flat (fun _ j => c.getD j undef) 1 size); rw [hfl]; exact hrow, fun i hi => by
      have : i = 0 := by simpa using hi
      subst this
      simpa using h2, fun i hi j hj => by
      have : i = 0 := by simpa using hi
      subst this
      have hj' : j < d.parts.length := by simpa using hj
      have hjc : j < c.length := by omega
      have hgd : c.getD j undef = c[j] := by simp [List.getD_eq_getElem?_getD, hjc]
      dsimp only
      rw [hgd]
      subst hc
      refine ⟨h4 _ (List.getElem_mem hjc), ?_⟩
      have h10 := h3.2 j hjc (by omega)
      have hE : Ext F w F (w.alloc (.cells (a.eval x).cells.toList.toArray el)) := Ext.of_below hr.lt ((Below.refl _ _).alloc (Nat.le_refl _) _)
      simpa using h10.ext hr.lt hE, fun g hg hf => by dsimp only at hg; rw [if_pos rfl] at hg; simp [blk] at hg; have := hr.lt g hf; omega⟩
    (fun g hg => by simp [blk] at hg; omega) hfx
  refine wpList_plain hg fun K hK => ?_
  unfold Oper.wp
  rw [hrun]
  have := k _ _ ⟨F, ρ', h9⟩
  rw [← ht] at this
  exact hK _ _ this
end
end Go.Proofs.YtfajemnegkfigaaDoor


namespace Go.Proofs.YtfajemnegkfigaaDoor
open Go.RowKit Go.Shelf Go.Lib
set_option linter.unusedVariables false
set_option linter.unusedSimpArgs false

theorem et_cpyI : ElemTy Tryd.prog 40 48 5 64 (.agg #[(.string ⟨#[]⟩), (.int .i64 0), (.int .i64 0), (.int .i64 0), (.slice none 0 0)]) := ⟨by kernel_rfl, by kernel_rfl, by kernel_rfl, by decide⟩

/-- What Insert does with an own row of copies. -/
structure InsEndC (B : Nat) (w : World) (v : Value) (n : Nat) (ys : List Value) (v' : Value) (w' : World) : Prop where
  own : w'.ownsRow B 48 5 v' n ys
  turn : Turn w w' (blk v)
  new : ∀ g, blk v' = some g → blk v = some g ∨ w.heap.size ≤ g

theorem blk_own {w : World} {B e size n : Nat} {v : Value} {xs : List Value} (h : w.ownsRow B e size v n xs) : v.ownBlock = blk v := by
  rcases h.2 with ⟨rfl, _⟩ | ⟨g, cap, cur, rfl, _⟩ <;> rfl

theorem insEnd_cat {B : Nat} {w w' : World} {v v' : Value} {n : Nat} {xs ys : List Value} (hown : w.ownsRow B 48 5 v n xs) (h1 : w'.ownsRow B 48 5 v' (n + 1) ys) (h2 : w.grownBy w' v.ownBlock) (h3 : v'.ownBlock = v.ownBlock ∨ ∃ g, v'.ownBlock = some g ∧ w.heap.size ≤ g) : InsEndC B w v (n + 1) ys v' w' := by
  rw [blk_own hown] at h2
  rw [blk_own hown, blk_own h1] at h3
  refine ⟨h1, ⟨h2.os, h2.tape, h2.output, h2.size, h2.block⟩, fun g hg => ?_⟩
  rcases h3 with h3 | ⟨g2, h3, h4⟩
  · exact .inl (by rw [← h3]; exact hg)
  · rw [h3] at hg
    exact .inr (by have := Option.some.inj hg; omega)

set_option maxHeartbeats 4000000 in
set_option maxRecDepth 100000 in
/-- At the end. -/
theorem insC_end {B : Nat} {w : World} {v : Value} {n vb vcap : Nat} {xs y : List Value} (hown : w.ownsRow B 48 5 v n xs) (hB : B ≤ w.heap.size) (hb : (n + 1) * 64 ≤ 140737488355328) (hsl : Sl w 5 (.slice (some ⟨vb, 0, none⟩) 1 vcap) 1 y) (hy1 : ∀ u ∈ y, u.oneCell' = true) :
    Calls Tryd.prog 56 #[v, .int .i64 n, .slice (some ⟨vb, 0, none⟩) 1 vcap] w fun e w' => ∃ v', e = .returned v' ∧ InsEndC B w v (n + 1) (xs ++ y) v' w' := by
  have HO := Lib.hid hown
  have HS := Lib.hid hsl
  clear hsl
  rcases hown.2 with ⟨rfl, rfl⟩ | ⟨g, cap, cur, rfl, hg, hh, hn, hmx, hcs, htk⟩
  · clear hown
    go_enter Tryd.func56, Tryd.ntmps56
    go_wp2_with (at_builtin; refine wpList_cat2 et_cpyI _ _ rfl rfl HO.out rfl rfl HS.out hy1 hb (by omega) hB ?_; intro v' w' h1 h2 h3)
    all_goals (go_ret; exact ⟨_, rfl, insEnd_cat HO.out h1 h2 h3⟩)
  · clear hown hh hcs htk
    have hn9 : n ≤ 9223372036854775807 := by omega
    unfold maxLen at hmx
    by_cases hcn : cap = n
    · subst hcn
      go_enter Tryd.func56, Tryd.ntmps56
      go_wp2_with (at_builtin; refine wpList_cat2 et_cpyI _ _ rfl rfl HO.out rfl rfl HS.out hy1 hb (by omega) hB ?_; intro v' w' h1 h2 h3)
      all_goals (go_ret; exact ⟨_, rfl, insEnd_cat HO.out h1 h2 h3⟩)
    · skip
      go_enter Tryd.func56, Tryd.ntmps56
      go_wp2_with (at_builtin; refine wpList_cat2 et_cpyI _ _ rfl rfl HO.out rfl rfl HS.out hy1 hb (by omega) hB ?_; intro v' w' h1 h2 h3)
      all_goals (go_ret; exact ⟨_, rfl, insEnd_cat HO.out h1 h2 h3⟩)

set_option maxHeartbeats 4000000 in
set_option maxRecDepth 100000 in
/-- Before an element, there is room: in place. -/
theorem insC_shift (b n c i vb vc : Nat) (cs vs : List Value) (w : World) (hi : i < n) (hroom : n + 1 ≤ c) (hc63 : c ≤ 9223372036854775807) (hvb : vb ≠ b) (hcl : cs.length = n * 5) (hvl : vs.length = 5)
    (hcs : ∀ j v, cs[j]? = some v → w.cell? ⟨b, j, none⟩ = some v) (hsp : ∀ j, j < (n + 1) * 5 → (w.cell? ⟨b, j, none⟩).isSome = true) (hfz : ∀ j, w.frozen? ⟨b, j, none⟩ = false)
    (hvs : ∀ j v, vs[j]? = some v → w.cell? ⟨vb, j, none⟩ = some v) (h1c : ∀ v ∈ cs, v.oneCell' = true) (h1v : ∀ v ∈ vs, v.oneCell' = true)
    (tA tB : TypeId) (kA kB : Nat) (hsa : w.shape? vb = some (tA, kA)) (hsb : w.shape? b = some (tB, kB)) (hkB : kB ≠ 0) (hfa : w.frozen? ⟨vb, 0, none⟩ = false) (hfe : w.frozen? ⟨vb, kA, none⟩ = false) :
    Calls Tryd.prog 56 #[.slice (some ⟨b, 0, none⟩) n c, .int .i64 i, .slice (some ⟨vb, 0, none⟩) 1 vc] w fun e w' =>
      e = .returned (.slice (some ⟨b, 0, none⟩) (n + 1) c) ∧ w' = (w.drew.setCells b ((i + 1) * 5) (cs.drop (i * 5))).setCells b (i * 5) vs := by
  have hsz : (Tryd.prog.info? 48).map (·.size) = some 5 := by
    obtain ⟨i0, hi0, h0, h1, h2⟩ := info_parts et_cpyI.hi
    rw [hi0]; simp [h1]
  have hov : ∀ lb cb, (callFunc 81 #[.slice (some ⟨vb, 0, none⟩) 1 vc, .slice (some ⟨b, (i + 1) * 5, none⟩) lb cb]).run Tryd.prog w = .ok (.value (.bool false)) w := fun lb cb => by
    rw [run_callFunc_extern Tryd.func81 (by kernel_rfl) (by kernel_rfl) (by kernel_rfl) (e := Extern.SlicesOverlaps.overlaps #[40, 40] #[4]) (by kernel_rfl),
      Lib.run_overlaps_apart w 40 4 48 et_cpyI.ht 5 et_cpyI.sizeOf ⟨vb, 0, none⟩ ⟨b, (i + 1) * 5, none⟩ 1 vc lb cb hvb tA tB kA kB hsa hsb hkB hfa hfe]
    rfl
  have hdl : (cs.drop (i * 5)).length = (n - i) * 5 := by rw [List.length_drop, hcl]; omega
  have hw1 : IntKind.i64.wrap ((i : Int) + 1) = (i : Int) + 1 := by rw [IntKind.wrap_i64]; omega
  have hw2 : IntKind.i64.wrap ((n : Int) + 1) = (n : Int) + 1 := by rw [IntKind.wrap_i64]; omega
  have hz2 : ¬ ((i : Int) = (n : Int)) := by omega
  have hb1 : (0 : Int) ≤ (i : Int) + 1 := by omega
  have hin : i ≤ n := by omega
  have htn : ((i : Int) + 1).toNat = i + 1 := by omega
  have hb2 : ¬ (c = i + 1) := by omega
  have hb3 : (i : Int) ≤ (n : Int) + 1 := by omega
  have hb4 : ¬ (c = i) := by omega
  have hcp1 : ∀ ty dc sc, (Builtin.copy_ #[40, 40] ty #[.slice (some ⟨b, (i + 1) * 5, none⟩) (n - i) dc, .slice (some ⟨b, i * 5, none⟩) (n + 1 - i) sc]).run Tryd.prog w.drew = .ok (goInt (Nat.min (n + 1 - i) (n - i))) (w.drew.setCells b ((i + 1) * 5) (cs.drop (i * 5))) := fun ty dc sc =>
    run_copy_sz w.drew _ _ ty 48 5 b ((i + 1) * 5) (n - i) dc ⟨b, i * 5, none⟩ (n + 1 - i) sc (cs.drop (i * 5)) et_cpyI.ht hsz (by rw [hdl]; simp only [Nat.min_def]; split <;> omega)
      (fun j v hj => by rw [Addr.add_lit]; exact hcs (i * 5 + j) v (by rwa [List.getElem?_drop] at hj))
      (fun j hj => hsp _ (by omega)) (fun j hj => hfz _) (fun v hv => h1c v (List.mem_of_mem_drop hv))
  obtain ⟨W1, hW1⟩ : ∃ W1, W1 = w.drew.setCells b ((i + 1) * 5) (cs.drop (i * 5)) := ⟨_, rfl⟩
  have hsp1 : ∀ k, k < (n + 1) * 5 → (W1.cell? ⟨b, k, none⟩).isSome = true := fun k hk => by
    rw [hW1]
    exact isSome_setCells b (cs.drop (i * 5)) ((i + 1) * 5) w.drew (fun j hj => hsp ((i + 1) * 5 + j) (by omega)) k (hsp k hk)
  have hcp2 : ∀ (W : World), (∀ x, W.cell? x = W1.cell? x) → (∀ x, W.frozen? x = W1.frozen? x) → ∀ ty dc, (Builtin.copy_ #[40, 40] ty #[.slice (some ⟨b, i * 5, none⟩) (n + 1 - i) dc, .slice (some ⟨vb, 0, none⟩) 1 vc]).run Tryd.prog W = .ok (goInt (Nat.min 1 (n + 1 - i))) (W.setCells b (i * 5) vs) := fun W hWc hWf ty dc =>
    run_copy_sz W _ _ ty 48 5 b (i * 5) (n + 1 - i) dc ⟨vb, 0, none⟩ 1 vc vs et_cpyI.ht hsz (by rw [hvl]; simp only [Nat.min_def]; split <;> omega)
      (fun j v hj => by
        rw [Addr.add_lit, hWc, hW1, World.cell?_setCells_out b _ _ _ _ (fun h _ => absurd h hvb), Nat.zero_add]
        exact hvs j v hj)
      (fun j hj => by rw [hWc]; exact hsp1 _ (by omega)) (fun j hj => by rw [hWf, hW1, World.frozen?_setCells]; exact hfz _) h1v
  rw [← hW1] at hcp1
  go_enter Tryd.func56, Tryd.ntmps56
  go_wp2_with (simp only [hov])
  go_region_law (refine step_copy_runI rfl _ _ 40 40 rfl _ _ (by simp [Act.eval, Act.put]) (by simp [Act.eval, Act.put]) (hcp1 _ _ _) ?_)
  go_wp2_with (at_builtin; refine wpList_copy_runI _ rfl _ _ 40 40 rfl _ _ rfl rfl (hcp2 _ (fun _ => rfl) (fun _ => rfl) _ _) ?_)
  go_ret
  first | exact ⟨rfl, rfl⟩ | exact ⟨rfl, by rw [hW1]⟩

def zcpyV : Value := (Value.agg #[(.string ⟨#[]⟩), (.int .i64 0), (.int .i64 0), (.int .i64 0), (.slice none 0 0)])
theorem zeros7 (k : Nat) : (Builtin.zeroCells zcpyV.cells k).size = k * 5 := by simp [Builtin.zeroCells, Value.cells, zcpyV]
set_option maxHeartbeats 4000000 in
set_option maxRecDepth 100000 in
/-- Before an element, there is no room: a new row. -/
theorem insC_grow (b n c i vb vc : Nat) (cs vs : List Value) (w : World) (hi : i < n) (hnc : n ≤ c) (hroom : c < n + 1) (hbig : (n + 1) * 64 ≤ 140737488355328) (hcl : cs.length = n * 5) (hvl : vs.length = 5)
    (hcs : ∀ j v, cs[j]? = some v → w.cell? ⟨b, j, none⟩ = some v)
    (hvs : ∀ j v, vs[j]? = some v → w.cell? ⟨vb, j, none⟩ = some v) (h1c : ∀ v ∈ cs, v.oneCell' = true) (h1v : ∀ v ∈ vs, v.oneCell' = true) :
    Calls Tryd.prog 56 #[.slice (some ⟨b, 0, none⟩) n c, .int .i64 i, .slice (some ⟨vb, 0, none⟩) 1 vc] w fun e w' =>
      e = .returned (.slice (some ⟨w.heap.size, 0, none⟩) (n + 1) (grownCap w (n + 1) c 48)) ∧
      w' = (((w.alloc (.cells ((cs.take (i * 5)).toArray ++ Builtin.zeroCells zcpyV.cells (n + 1 - i) ++ Builtin.zeroCells zcpyV.cells (grownCap w (n + 1) c 48 - (n + 1))) 48)).drew.setCells w.heap.size (i * 5) vs).drew).setCells w.heap.size ((i + 1) * 5) (cs.drop (i * 5)) := by
  obtain ⟨i0, hi0, hz0, hzs, hzb⟩ := info_parts et_cpyI.hi
  have hz0 : i0.zero = some zcpyV := hz0
  have htI : Tryd.prog.underlying 3 = some (.int .i64) := by kernel_rfl
  have hz2 : ¬ ((i : Int) = (n : Int)) := by omega
  have hz3 : (c : Int) < (n : Int) + 1 := by omega
  have hsz : (Tryd.prog.info? 48).map (·.size) = some 5 := by rw [hi0]; simp [hzs]
  have hbw : b < w.heap.size := block_lt_of_cell (hcs 0 _ (List.getElem?_eq_getElem (by omega)))
  have hvw : vb < w.heap.size := block_lt_of_cell (hvs 0 _ (List.getElem?_eq_getElem (by omega)))
  have hkk : (n : Int) + 1 - (i : Int) = ((n + 1 - i : Nat) : Int) := by omega
  have hik : i + (n + 1 - i) = n + 1 := by omega
  have hold : (Builtin.firstCells i0.size i (.slice (some ⟨b, 0, none⟩) i c)).run Tryd.prog w.drew = .ok (cs.take (i * 5)).toArray w.drew := by
    rw [hzs]
    exact run_firstCells_some w.drew 5 i ⟨b, 0, none⟩ i c (cs.take (i * 5)) (by rw [List.length_take]; omega) (fun j v hj => by
      rw [Addr.add_lit]
      rw [List.getElem?_take] at hj
      split at hj
      · rw [Nat.zero_add]; exact hcs j v hj
      · cases hj)
  have hrz : ∀ ty, (Builtin.append_ #[40, 3] ty #[.slice (some ⟨b, 0, none⟩) i c, .int .i64 ((n : Int) + 1 - (i : Int))]).run Tryd.prog w =
      .ok (.slice (some ⟨w.heap.size, 0, none⟩) (n + 1) (grownCap w (n + 1) c 48)) (w.drew.alloc (.cells ((cs.take (i * 5)).toArray ++ Builtin.zeroCells zcpyV.cells (n + 1 - i) ++ Builtin.zeroCells zcpyV.cells (grownCap w (n + 1) c 48 - (n + 1))) 48)) := fun ty => by
    have h := Lib.run_append_grow_zeros w 40 3 ty 48 i0 _ .i64 .i64 et_cpyI.ht htI hi0 hz0 (some ⟨b, 0, none⟩) i c (cs.take (i * 5)) hold (n + 1 - i) (by omega) (by omega) (by omega) (by omega) (by rw [hzb]; omega) (by rw [hzb, hik]; exact growslice_fits hroom hbig)
    rw [hik] at h
    rw [hkk]
    exact h
  obtain ⟨G, hG⟩ : ∃ G, G = grownCap w (n + 1) c 48 := ⟨_, rfl⟩
  obtain ⟨ROW, hROW⟩ : ∃ ROW : Array Value, ROW = (cs.take (i * 5)).toArray ++ Builtin.zeroCells zcpyV.cells (n + 1 - i) ++ Builtin.zeroCells zcpyV.cells (G - (n + 1)) := ⟨_, rfl⟩
  rw [← hG] at hrz ⊢
  rw [← hROW] at hrz ⊢
  have hRl : (n + 1) * 5 ≤ ROW.size := by
    rw [hROW]
    simp only [Array.size_append, zeros7, List.size_toArray, List.length_take]
    omega
  obtain ⟨W1, hW1⟩ : ∃ W1, W1 = w.drew.alloc (.cells ROW 48) := ⟨_, rfl⟩
  rw [← hW1] at hrz
  have hN : ∀ j, j < (n + 1) * 5 → (W1.cell? ⟨w.heap.size, j, none⟩).isSome = true := fun j hj => by
    rw [hW1, World.cell?_alloc_at (w := w.drew) ROW _ w.heap.size j rfl, Array.getElem?_eq_getElem (by omega)]; rfl
  have hNf : ∀ j, W1.frozen? ⟨w.heap.size, j, none⟩ = false := fun j => by rw [hW1]; exact World.frozen?_alloc_at (w := w.drew) ROW _ w.heap.size j rfl
  have hOb : ∀ j v, w.cell? ⟨b, j, none⟩ = some v → W1.cell? ⟨b, j, none⟩ = some v := fun j v h => by rw [hW1, World.cell?_alloc_past (w := w.drew) _ b j hbw]; exact h
  have hOv : ∀ j v, w.cell? ⟨vb, j, none⟩ = some v → W1.cell? ⟨vb, j, none⟩ = some v := fun j v h => by rw [hW1, World.cell?_alloc_past (w := w.drew) _ vb j hvw]; exact h
  have hcpA : ∀ (W : World), (∀ x, W.cell? x = W1.cell? x) → (∀ x, W.frozen? x = W1.frozen? x) → ∀ ty dc, (Builtin.copy_ #[40, 40] ty #[.slice (some ⟨w.heap.size, i * 5, none⟩) (n + 1 - i) dc, .slice (some ⟨vb, 0, none⟩) 1 vc]).run Tryd.prog W = .ok (goInt (Nat.min 1 (n + 1 - i))) (W.setCells w.heap.size (i * 5) vs) := fun W hWc hWf ty dc =>
    run_copy_sz W _ _ ty 48 5 w.heap.size (i * 5) (n + 1 - i) dc ⟨vb, 0, none⟩ 1 vc vs et_cpyI.ht hsz (by rw [hvl]; simp only [Nat.min_def]; split <;> omega)
      (fun j v hj => by rw [Addr.add_lit, hWc, Nat.zero_add]; exact hOv _ v (hvs j v hj))
      (fun j hj => by rw [hWc]; exact hN _ (by omega)) (fun j hj => by rw [hWf]; exact hNf _) h1v
  have hGn : n + 1 ≤ G := by rw [hG]; exact grownCap_ge w _ _ _
  have hG63 : G ≤ 9223372036854775807 := by
    have := grownCap_le_maxLen w (n + 1) c 48 (by unfold maxLen; omega)
    rw [← hG] at this
    unfold maxLen at this
    omega
  have hGi : ¬ (G = i) := by omega
  have hGim : ¬ (G = i + 1) := by omega
  have hci : ¬ (c = i) := by omega
  have hbN : b ≠ w.heap.size := by omega
  have hdl : (cs.drop (i * 5)).length = (n - i) * 5 := by rw [List.length_drop, hcl]; omega
  have hcpB : ∀ (W : World), (∀ x, W.cell? x = (W1.setCells w.heap.size (i * 5) vs).cell? x) → (∀ x, W.frozen? x = (W1.setCells w.heap.size (i * 5) vs).frozen? x) → ∀ ty dc sc, (Builtin.copy_ #[40, 40] ty #[.slice (some ⟨w.heap.size, (i + 1) * 5, none⟩) (n - i) dc, .slice (some ⟨b, i * 5, none⟩) (n - i) sc]).run Tryd.prog W = .ok (goInt (Nat.min (n - i) (n - i))) (W.setCells w.heap.size ((i + 1) * 5) (cs.drop (i * 5))) := fun W hWc hWf ty dc sc =>
    run_copy_sz W _ _ ty 48 5 w.heap.size ((i + 1) * 5) (n - i) dc ⟨b, i * 5, none⟩ (n - i) sc (cs.drop (i * 5)) et_cpyI.ht hsz (by rw [hdl]; simp only [Nat.min_def]; split <;> omega)
      (fun j v hj => by
        rw [Addr.add_lit, hWc, World.cell?_setCells_out _ _ _ _ _ (fun h _ => absurd h hbN)]
        exact hOb _ v (hcs (i * 5 + j) v (by rwa [List.getElem?_drop] at hj)))
      (fun j hj => by rw [hWc]; exact isSome_setCells w.heap.size vs (i * 5) W1 (fun t ht => hN _ (by omega)) _ (hN _ (by omega)))
      (fun j hj => by rw [hWf, World.frozen?_setCells]; exact hNf _) (fun v hv => h1c v (List.mem_of_mem_drop hv))
  subst hW1
  have hE1 : ∀ x, ((w.alloc (.cells ROW 48)).drew).cell? x = (w.drew.alloc (.cells ROW 48)).cell? x := fun x => rfl
  have hE2 : ∀ x, ((w.alloc (.cells ROW 48)).drew).frozen? x = (w.drew.alloc (.cells ROW 48)).frozen? x := fun x => rfl
  have hF1 : ∀ x, (((w.alloc (.cells ROW 48)).drew.setCells w.heap.size (i * 5) vs).drew).cell? x = ((w.drew.alloc (.cells ROW 48)).setCells w.heap.size (i * 5) vs).cell? x := fun x => rfl
  have hF2 : ∀ x, (((w.alloc (.cells ROW 48)).drew.setCells w.heap.size (i * 5) vs).drew).frozen? x = ((w.drew.alloc (.cells ROW 48)).setCells w.heap.size (i * 5) vs).frozen? x := fun x => rfl
  have hw1 : IntKind.i64.wrap ((i : Int) + 1) = (i : Int) + 1 := by rw [IntKind.wrap_i64]; omega
  have hb1 : (0 : Int) ≤ (i : Int) + 1 := by omega
  have hin : i ≤ n := by omega
  have htn : ((i : Int) + 1).toNat = i + 1 := by omega
  have hb3 : (i : Int) ≤ (n : Int) := by omega
  clear hkk hik hold hROW hG hRl
  go_enter Tryd.func56, Tryd.ntmps56
  go_wp2_with (first
    | (at_builtin; refine Lib.wpList_append_run _ rfl _ _ _ _ rfl _ _ rfl rfl _ _ (hrz _) ?_)
    | (at_builtin; refine wpList_copy_runI _ rfl _ _ 40 40 rfl _ _ rfl rfl (hcpA _ hE1 hE2 _ _) ?_)
    | (at_builtin; refine wpList_copy_runI _ rfl _ _ 40 40 rfl _ _ rfl rfl (hcpB _ (fun _ => rfl) (fun _ => rfl) _ _ _) ?_))
  go_region_law (refine step_copy_runI rfl _ _ 40 40 rfl (.slice (some ⟨w.heap.size, (i + 1) * 5, none⟩) (n - i) (G - (i + 1))) (.slice (some ⟨b, i * 5, none⟩) (n - i) (c - i)) (by simp [Act.eval, Act.put]) (by simp [Act.eval, Act.put]) (hcpB _ hF1 hF2 3 (G - (i + 1)) (c - i)) ?_)
  go_wp2
  go_ret
  exact ⟨rfl, rfl⟩

theorem own_allocC {w : World} {B n cap : Nat} {ys : List Value} {A : Array Value} (hB : B ≤ w.heap.size) (hn : ys.length = n * 5) (hc : n ≤ cap) (hm : cap ≤ maxLen) (hA : A.size = cap * 5) (hy : A.toList.take (n * 5) = ys) {w' : World} (hw : w'.heap[w.heap.size]? = some (.cells A 48 (0, 0))) :
    w'.ownsRow B 48 5 (.slice (some ⟨w.heap.size, 0, none⟩) n cap) n ys :=
  ⟨hn, .inr ⟨w.heap.size, cap, A, rfl, hB, hw, hc, hm, hA, hy⟩⟩
set_option maxHeartbeats 1000000 in
theorem insC_calls {B : Nat} {w : World} {v : Value} {n i vb vcap : Nat} {xs y : List Value} {ecur : Array Value} {ety : TypeId} (hown : w.ownsRow B 48 5 v n xs) (hxs : ∀ u ∈ xs, u.oneCell' = true) (hi : i ≤ n) (hB : B ≤ w.heap.size) (hb : (n + 1) * 64 ≤ 140737488355328)
    (hvb : w.heap[vb]? = some (.cells ecur ety (0, 0))) (hvc : 1 ≤ vcap ∧ vcap ≤ 9223372036854775807) (hyl : y.length = 5) (hye : ecur.toList.take 5 = y) (hy1 : ∀ u ∈ y, u.oneCell' = true) (hne : blk v ≠ some vb) :
    Calls Tryd.prog 56 #[v, .int .i64 i, .slice (some ⟨vb, 0, none⟩) 1 vcap] w fun e w' => ∃ v', e = .returned v' ∧ InsEndC B w v (n + 1) (xs.take (i * 5) ++ y ++ xs.drop (i * 5)) v' w' := by
  have hxl : xs.length = n * 5 := hown.1
  have hG : n + 1 ≤ maxLen := by unfold maxLen; omega
  have hvs : ∀ j u, y[j]? = some u → w.cell? ⟨vb, j, none⟩ = some u := fun j u hj => by
    rw [cell_of_row w vb j ecur ety (0, 0) hvb, ← Array.getElem?_toList]
    rw [← hye, List.getElem?_take] at hj
    split at hj
    · exact hj
    · cases hj
  have hsl : Sl w 5 (.slice (some ⟨vb, 0, none⟩) 1 vcap) 1 y := ⟨by rw [hyl], .inr ⟨⟨vb, 0, none⟩, vcap, rfl, hvc.1, hvc.2, fun q hq => by
    rw [addr_add, Nat.zero_add]
    exact hvs q _ (List.getElem?_eq_getElem hq)⟩⟩
  by_cases hend : i = n
  · subst hend
    rw [List.take_of_length_le (by omega), List.drop_eq_nil_of_le (by omega), List.append_nil]
    exact insC_end hown hB hb hsl hy1
  have hlt : i < n := by omega
  rcases hown.2 with ⟨rfl, h0⟩ | ⟨g, cap, cur, rfl, hg, hh, hn, hmx, hcs, htk⟩
  · omega
  have hlen : (xs.take (i * 5) ++ y ++ xs.drop (i * 5)).length = (n + 1) * 5 := by simp; omega
  have hcl : cur.toList.length = cap * 5 := by rw [Array.length_toList, hcs]
  have hget : ∀ k, k < n * 5 → cur.toList[k]? = xs[k]? := fun k hk => by rw [← htk, List.getElem?_take, if_pos hk]
  have hcell : ∀ k, w.cell? ⟨g, k, none⟩ = cur[k]? := fun k => by rw [cell_of_row w g k cur 48 (0, 0) hh]
  have hcells : ∀ j u, xs[j]? = some u → w.cell? ⟨g, j, none⟩ = some u := fun j u hj => by
    have hjl := (List.getElem?_eq_some_iff.1 hj).1
    rw [hcell, ← hj, ← hget j (by omega), Array.getElem?_toList]
  have hsome : ∀ j, j < cap * 5 → (w.cell? ⟨g, j, none⟩).isSome = true := fun j hj => by
    rw [hcell, Array.getElem?_eq_getElem (by omega)]; rfl
  have hfz : ∀ k, w.frozen? ⟨g, k, none⟩ = false := fun k => by unfold World.frozen?; rw [hh]; simp
  have hfv : ∀ k, w.frozen? ⟨vb, k, none⟩ = false := fun k => by unfold World.frozen?; rw [hvb]; simp
  have hmx' : cap ≤ 9223372036854775807 := by unfold maxLen at hmx; omega
  by_cases hroom : n + 1 ≤ cap
  · refine (insC_shift g n cap i vb vcap xs y w hlt hroom hmx' (fun h => hne (by rw [h]; rfl)) hxl hyl hcells (fun j hj => hsome _ (by omega)) hfz hvs hxs hy1 ety 48 ecur.size cur.size (by unfold World.shape?; rw [hvb]) (by unfold World.shape?; rw [hh]) (by omega) (hfv _) (hfv _)).mono ?_
    rintro e w' ⟨rfl, rfl⟩
    have hs1 := setCells_heap (g := g) (e := 48) (xs.drop (i * 5)) ((i + 1) * 5) w.drew cur.toList (by rw [Array.toArray_toList]; exact hh) (by simp; omega)
    have hs := setCells_heap (g := g) (e := 48) y (i * 5) _ _ hs1 (by simp; omega)
    refine ⟨_, rfl, ⟨hlen, .inr ⟨g, cap, _, rfl, hg, hs, hroom, hmx, ?_, ?_⟩⟩, ((drew_turn w _).trans (setCells_turn g _ _ _)).trans (setCells_turn g _ _ _), fun g' hg' => .inl hg'⟩
    · simp; omega
    · rw [show (n + 1) * 5 = n * 5 + 5 by omega]
      refine ins_takeS hxl (by omega) hyl (fun k hk => ?_) (fun k hk => ?_) (fun k h1 h2 => ?_)
      · rw [get3]
        simp only [List.length_take, List.length_append, List.length_drop, hcl, hxl]
        rw [if_pos (by omega), List.getElem?_take, if_pos hk, get3]
        simp only [List.length_take, hcl]
        rw [if_pos (by omega), List.getElem?_take, if_pos (by omega), hget k (by omega)]
      · rw [get3]
        simp only [List.length_take, List.length_append, List.length_drop, hcl, hxl]
        rw [if_neg (by omega), if_pos (by omega)]
        congr 1
        omega
      · rw [get3]
        simp only [List.length_take, List.length_append, List.length_drop, hcl, hxl, hyl]
        rw [if_neg (by omega), if_neg (by omega), List.getElem?_drop, get3]
        simp only [List.length_take, List.length_drop, hcl, hxl]
        rw [if_neg (by omega), if_pos (by omega), List.getElem?_drop]
        congr 1
        omega
  · refine (insC_grow g n cap i vb vcap xs y w hlt hn (by omega) hb hxl hyl hcells hvs hxs hy1).mono ?_
    rintro e w' ⟨rfl, rfl⟩
    have hge := grownCap_ge w (n + 1) cap 48
    have hle := grownCap_le_maxLen w (n + 1) cap 48 hG
    generalize grownCap w (n + 1) cap 48 = G at hge hle
    have h0 := alloc_at w (.cells ((xs.take (i * 5)).toArray ++ Builtin.zeroCells zcpyV.cells (n + 1 - i) ++ Builtin.zeroCells zcpyV.cells (G - (n + 1))) 48 (0, 0))
    generalize hA : (xs.take (i * 5)).toArray ++ Builtin.zeroCells zcpyV.cells (n + 1 - i) ++ Builtin.zeroCells zcpyV.cells (G - (n + 1)) = A at h0
    have hAs : A.size = G * 5 := by rw [← hA]; simp only [Array.size_append, zeros7, List.size_toArray, List.length_take]; omega
    have hAg : ∀ k, k < i * 5 → A.toList[k]? = xs[k]? := fun k hk => by
      rw [← hA]
      simp only [Array.toList_append]
      rw [List.append_assoc, List.getElem?_append_left (by simp; omega)]
      simp only [List.getElem?_take]
      rw [if_pos hk]
    have hs1 := setCells_heap (g := w.heap.size) (e := 48) y (i * 5) (w.alloc (.cells A 48 (0, 0))).drew A.toList (by rw [Array.toArray_toList]; exact h0) (by simp; omega)
    have hs := setCells_heap (g := w.heap.size) (e := 48) (xs.drop (i * 5)) ((i + 1) * 5) (((w.alloc (.cells A 48 (0, 0))).drew.setCells w.heap.size (i * 5) y).drew) (A.toList.take (i * 5) ++ y ++ A.toList.drop (i * 5 + y.length)) hs1 (by simp; omega)
    refine ⟨_, rfl, own_allocC hB hlen hge hle ?_ ?_ hs, ?_, fun g' hg' => .inr ?_⟩
    · simp; omega
    · rw [show (n + 1) * 5 = n * 5 + 5 by omega]
      refine ins_takeS hxl (by omega) hyl (fun k hk => ?_) (fun k hk => ?_) (fun k h1 h2 => ?_)
      · rw [get3]
        simp only [List.length_take, List.length_append, List.length_drop, Array.length_toList, hAs, hxl, hyl]
        rw [if_pos (by omega), List.getElem?_take, if_pos (by omega), get3]
        simp only [List.length_take, Array.length_toList, hAs]
        rw [if_pos (by omega), List.getElem?_take, if_pos hk, hAg k hk]
      · rw [get3]
        simp only [List.length_take, List.length_append, List.length_drop, Array.length_toList, hAs, hxl, hyl]
        rw [if_pos (by omega), List.getElem?_take, if_pos (by omega), get3]
        simp only [List.length_take, Array.length_toList, hAs]
        rw [if_neg (by omega), if_pos (by omega)]
        congr 1
        omega
      · rw [get3]
        simp only [List.length_take, List.length_append, List.length_drop, Array.length_toList, hAs, hxl, hyl]
        rw [if_neg (by omega), if_pos (by omega), List.getElem?_drop]
        congr 1
        omega
    · have k1 := Turn.behind (alloc_turn w (.cells A 48 (0, 0)) (some g)) (Nat.le_refl _) ((drew_turn _ _).trans (setCells_turn w.heap.size y (i * 5) _))
      exact Turn.behind k1 (Nat.le_refl _) ((drew_turn _ _).trans (setCells_turn w.heap.size (xs.drop (i * 5)) ((i + 1) * 5) _))
    · simp [blk] at hg'; omega
end Go.Proofs.YtfajemnegkfigaaDoor


namespace Go.Proofs.YtfajemnegkfigaaDoor
open Go.RowKit Go.Shelf
set_option linter.unusedVariables false

theorem flat_ins (xs ys : Nat → Nat → Value) {n k : Nat} (s : Nat) (hk : k ≤ n) : (flat xs n s).take (k * s) ++ flat ys 1 s ++ (flat xs n s).drop (k * s) = flat (fun i j => if i < k then xs i j else if i = k then ys 0 j else xs (i - 1) j) (n + 1) s := by
  have h1 : flat xs n s = flat xs k s ++ flat (fun i => xs (k + i)) (n - k) s := by
    rw [flat_append, show k + (n - k) = n by omega]
    refine flat_congr fun i j hi hj => ?_
    by_cases h : i < k
    · rw [if_pos h]
    · rw [if_neg h, show k + (i - k) = i by omega]
  have hl := flat_length xs k s
  rw [h1, List.take_left' hl, List.drop_left' hl, flat_append, flat_append, show k + 1 + (n - k) = n + 1 by omega]
  refine flat_congr fun i j hi hj => ?_
  by_cases h : i < k
  · rw [if_pos (by omega), if_pos h, if_pos h]
  · rw [if_neg h]
    by_cases h2 : i = k
    · subst h2
      rw [if_pos (by omega), if_neg (by omega), if_pos rfl, Nat.sub_self]
    · rw [if_neg (by omega), show k + (i - (k + 1)) = i - 1 by omega, if_neg h, if_neg h2]
theorem ins_get {α : Type} {l : List α} {c : α} {p i : Nat} (hp : p ≤ l.length) (hi : i < (l.take p ++ [c] ++ l.drop p).length) : (l.take p ++ [c] ++ l.drop p)[i] = if h : i < p then l[i]'(by omega) else if h2 : i = p then c else l[i - 1]'(by simp at hi; omega) := by
  have hT : (l.take p).length = p := by rw [List.length_take]; omega
  have hi2 : i < l.length + 1 := by simp at hi; omega
  by_cases h1 : i < p
  · rw [dif_pos h1, List.getElem_append_left (by simp; omega), List.getElem_append_left (by omega), List.getElem_take]
  · rw [dif_neg h1]
    by_cases h2 : i = p
    · subst h2
      rw [dif_pos rfl, List.getElem_append_left (by simp; omega), List.getElem_append_right (by omega)]
      simp
    · rw [dif_neg h2, List.getElem_append_right (by simp; omega), List.getElem_drop]
      congr 1
      simp
      omega
theorem Rep.turn {F : Nat → Prop} {w w' : World} {x : Value} {d : D} {row : Option Nat} (h : Rep F w x d) (hF : ∀ b, F b → b < w.heap.size) (hr : ∀ g, row = some g → ¬ F g) (ht : Turn w w' row) : Rep F w' x d :=
  repS_d (RepS.turn (ρ := fun _ => x) (.d h) hF hr ht fun b hb => hb)
section
variable {cx : Cx} {ops : Array Oper} {o : Oper} {rest : List Oper} {e : Env} {σ : Obs} {Q : Post}
/-- slices.Insert(s, i, x) at an own []api.Report of data. -/
theorem AOps.insertC {s i x : Operand} {ts : Array TypeId} {id idx ex dst k : Nat} {els : List (List D)} {y : List D} {m : Int} (σ' : Obs) (hP : cx.P = Tryd.prog) (hg : o.guard = none) (ht : o.dst = some dst) (hdn : Nat.blt dst cx.N = true)
    (ho : o.op = .call { callee := .value (.func 56), args := #[s, i, x], argTypes := ts }) (hs : e.ev s = .own id) (hm : (id, Ob.row 48 5 els) ∈ σ) (hi : e.ev i = .d (.v (.int .i64 m))) (hk : m = (k : Int)) (hkl : k ≤ els.length)
    (hx : e.ev x = .own idx) (hmx : (idx, Ob.row ex 5 [y]) ∈ σ) (hne : idx ≠ id) (hb : (els.length + 1) * 64 ≤ 140737488355328)
    (hσ : ∀ p ∈ σ', p = (id, Ob.row 48 5 (els.take k ++ [y] ++ els.drop k)) ∨ ∃ q ∈ σ, q.1 ≠ id ∧ p = (q.1, q.2.kill id))
    (q : AOps cx ops rest ((e.kill id).put (some dst) (.own id)) σ' Q) (hfx : cx.free id = true := by rfl) : AOps cx ops (o :: rest) e σ Q := by
  intro a w ⟨F, ρ, hr⟩
  have r1 := ev_rep (e := e) (x := s) (a := a) (fun t _ => hr.env t)
  have r2 := ev_rep (e := e) (x := i) (a := a) (fun t _ => hr.env t)
  have r3 := ev_rep (e := e) (x := x) (a := a) (fun t _ => hr.env t)
  rw [hs] at r1
  rw [hi] at r2
  rw [hx] at r3
  have v1 : a.eval s = ρ id := by generalize a.eval s = v at r1; cases r1; rfl
  have v2 := repS_v r2
  have v3 : a.eval x = ρ idx := by generalize a.eval x = v at r3; cases r3; rfl
  obtain ⟨xs, hown, hlen, hrep, hnF⟩ := hr.obs.ok _ hm
  obtain ⟨ys, hox, hylen, hyrep, _⟩ := hr.obs.ok _ hmx
  dsimp only at hown hox hnF
  have hyl : y.length = 5 := by simpa using hylen 0 (by simp)
  have hown' : w.ownsRow cx.B 48 5 (ρ id) els.length (flat xs els.length 5) := hown
  have hox' : w.ownsRow cx.B ex 5 (ρ idx) 1 (flat ys 1 5) := hox
  rcases hox'.2 with ⟨_, h0⟩ | ⟨vb, vcap, ecur, hvb, _, hh, hn1, hvm, hcs, htk⟩
  · simp at h0
  have one1 : ∀ u ∈ flat xs els.length 5, u.oneCell' = true := fun u hu => by
    obtain ⟨l, hl, hu⟩ := List.mem_flatten.1 hu
    obtain ⟨i, hi, rfl⟩ := List.mem_map.1 hl
    obtain ⟨j, hj, rfl⟩ := List.mem_map.1 hu
    have hi' : i < els.length := by simpa using hi
    exact (hrep i hi' j (by rw [hlen i hi']; simpa using hj)).1
  have one2 : ∀ u ∈ flat ys 1 5, u.oneCell' = true := fun u hu => by
    obtain ⟨l, hl, hu⟩ := List.mem_flatten.1 hu
    obtain ⟨i, hi, rfl⟩ := List.mem_map.1 hl
    obtain ⟨j, hj, rfl⟩ := List.mem_map.1 hu
    have hi' : i = 0 := by simpa using hi
    subst hi'
    exact (hyrep 0 (by simp) j (by simp only [List.getElem_cons_zero, hyl]; simpa using hj)).1
  have hE : Enters cx.P 56 := by rw [hP]; exact Enters.of Tryd.func56 rfl rfl
  have hx' : (execOp a.eval o).run cx.P w = .ok (.enter 56 #[a.eval s, a.eval i, a.eval x]) w := by
    obtain ⟨xs, hxs⟩ : ∃ xs : List Operand, xs = [s, i, x] := ⟨_, rfl⟩
    have ho' : o.op = .call { callee := .value (.func 56), args := xs.toArray, argTypes := ts } := by rw [ho, hxs]
    have h5 := hE (xs.map a.eval).toArray w
    have h6 : (execOp a.eval o).run cx.P w = .ok (.enter 56 (xs.map a.eval).toArray) w := by
      unfold execOp
      simp only [ho', resolve, Deferred.ofValue, Act.eval, invoke, Sem.run_bind, Sem.run_pure, Result.andThen_ok]
      simpa using h5
    rw [hxs] at h6
    exact h6
  have hc := insC_calls (i := k) (vb := vb) (vcap := vcap) (y := flat ys 1 5) hown' one1 hkl hr.hB hb hh ⟨hn1, by unfold maxLen at hvm; omega⟩ (by rw [flat_length]) (by simpa using htk) one2 (fun he => hr.obs.apart _ hmx _ hm hne vb (by dsimp only; rw [hvb]; rfl) (by dsimp only; exact he))
  rw [v1, v2, v3, hvb, hk] at hx'
  rw [← hP] at hc
  refine wpList_plain hg fun K hK => ?_
  unfold Oper.wp
  rw [hx']
  refine hc.mono fun _ w' ⟨v', he, hI⟩ => ?_
  subst he
  have hlen2 : (els.take k ++ [y] ++ els.drop k).length = els.length + 1 := by simp; omega
  have hturn := hr.turn (ρ' := fun j => if j = id then v' else ρ j) (id := id) (ob := .row 48 5 (els.take k ++ [y] ++ els.drop k)) (row := blk (ρ id)) (w' := w') (F' := F) (fun j hj => by simp [hj]) hI.turn hfx
    (fun g hg => ⟨hr.kown _ hm g hg, hnF g hg, fun p hp hpi => fun he => hr.obs.apart p hp _ hm hpi g he hg⟩) (fun b hb => hb) (fun b hb => .inl hb) (fun b hb => Nat.lt_of_lt_of_le (hr.lt b hb) hI.turn.size)
    ⟨fun i j => if i < k then xs i j else if i = k then ys 0 j else xs (i - 1) j, by
      dsimp only
      rw [if_pos rfl]
      have h6 := hI.own
      rw [flat_ins xs ys 5 hkl] at h6
      rw [hlen2]
      exact h6, fun i hi => by
      rw [ins_get hkl hi]
      split
      · exact hlen _ _
      · split
        · exact hyl
        · exact hlen _ _, fun i hi j hj => by
      have hr7 : ∀ x d, Rep F w x d → Rep F w' x d := fun x d h => h.turn hr.lt hnF hI.turn
      have hi2 : i < els.length + 1 := by rw [hlen2] at hi; exact hi
      have hg := ins_get hkl hi
      by_cases h1 : i < k
      · rw [dif_pos h1] at hg
        simp only [if_pos h1]
        simp only [hg] at hj ⊢
        exact ⟨(hrep i (by omega) j hj).1, hr7 _ _ (hrep i (by omega) j hj).2⟩
      · rw [dif_neg h1] at hg
        by_cases h2 : i = k
        · rw [dif_pos h2] at hg
          simp only [if_neg h1, if_pos h2]
          simp only [hg] at hj ⊢
          have h8 := hyrep 0 (by simp) j (by simpa using hj)
          exact ⟨h8.1, hr7 _ _ (by simpa using h8.2)⟩
        · rw [dif_neg h2] at hg
          simp only [if_neg h1, if_neg h2]
          simp only [hg] at hj ⊢
          exact ⟨(hrep (i - 1) (by omega) j hj).1, hr7 _ _ (hrep (i - 1) (by omega) j hj).2⟩, fun g hg hf => by
      dsimp only at hg
      rw [if_pos rfl] at hg
      rcases hI.new g hg with h6 | h6
      · exact hnF g h6 hf
      · have := hr.lt g hf; omega⟩ (fun g hg => by rw [if_pos rfl] at hg; exact hI.new g hg) σ' hσ
  have h9 := hturn.put (o := ⟨some dst, .ready 0, 0, "", #[], none⟩) (v := v') (s := .own id) (Ext.refl hturn.lt) (by
      have := RepS.own (F := F) (ρ := fun j => if j = id then v' else ρ j) (w := w') id
      simpa using this) (by simpa [DstOk, Nat.blt_eq] using hdn)
  have := q _ _ ⟨F, _, h9⟩
  rw [← ht] at this
  exact hK _ _ this
end
end Go.Proofs.YtfajemnegkfigaaDoor


namespace Go.Proofs.YtfajemnegkfigaaDoor
open Go.RowKit
set_option linter.unusedVariables false

/-! Types. -/
namespace TyM6
theorem ag_48 : AggT Tryd.prog 48 5 := .of (by kernel_rfl)
theorem et_40 : ElemTy Tryd.prog 40 48 5 64 (.agg #[(.string ⟨#[]⟩), (.int .i64 0), (.int .i64 0), (.int .i64 0), (.slice none 0 0)]) := ⟨by kernel_rfl, by kernel_rfl, by kernel_rfl, by decide⟩
theorem sz_48 : ∀ w, (sizeOf 48).run Tryd.prog w = .ok 5 w := SizeT.of (by kernel_rfl)
theorem zt_48 : (Tryd.prog.info? 48).bind (·.zero) = some (.agg #[(.string ⟨#[]⟩), (.int .i64 0), (.int .i64 0), (.int .i64 0), (.slice none 0 0)]) := by kernel_rfl
end TyM6
open TyM6


theorem hagRpt : AggT Tryd.prog 48 5 := .of (by kernel_rfl)
theorem rise_take {b : List Rpt} (h : Rise b) (k : Nat) : Rise (b.take k) := List.Pairwise.sublist (List.take_sublist k b) h
theorem uni_nil {a : List Rpt} (hr : Rise a) : uniK a [] = a :=
  rise_uniqR (uni_rise hr .nil) hr fun x => by rw [uni_mem (by rfl)]; simp
theorem ins_rise {U : List Rpt} {x : Rpt} {j : Nat} (hU : Rise U) (h1 : ∀ o ∈ U.take j, ltR o x = true) (h2 : ∀ o ∈ U.drop j, ltR x o = true) : Rise (U.take j ++ [x] ++ U.drop j) := by
  have h3 : Rise (U.take j ++ U.drop j) := by rw [List.take_append_drop]; exact hU
  obtain ⟨p1, p2, p3⟩ := List.pairwise_append.1 h3
  refine List.pairwise_append.2 ⟨List.pairwise_append.2 ⟨p1, by simp, fun o ho y hy => ?_⟩, p2, fun o ho y hy => ?_⟩
  · rw [List.mem_singleton] at hy; subst hy; exact h1 o ho
  · rw [List.mem_append, List.mem_singleton] at ho
    rcases ho with ho | rfl
    · exact p3 o ho y hy
    · exact h2 y hy
theorem ins_uni {a b : List Rpt} {k j : Nat} (la : Rise a) (lb : Rise b) (hk : k < b.length) (hc : clashB a (b.take k) = false) (h1 : ∀ o ∈ (uniK a (b.take k)).take j, ltR o b[k] = true) (h2 : ∀ o ∈ (uniK a (b.take k)).drop j, ltR b[k] o = true) :
    uniK a (b.take (k + 1)) = (uniK a (b.take k)).take j ++ [b[k]] ++ (uniK a (b.take k)).drop j ∧ clashB a (b.take (k + 1)) = false := by
  have hmem : ∀ o ∈ uniK a (b.take k), o ∈ (uniK a (b.take k)).take j ∨ o ∈ (uniK a (b.take k)).drop j := fun o ho => by
    rw [← List.take_append_drop j (uniK a (b.take k)), List.mem_append] at ho
    exact ho
  have hno : ∀ y ∈ a, sameK y b[k] = true → y = b[k] := fun y hy hs => by
    rcases hmem y ((uni_mem hc y).2 (.inl hy)) with h | h
    · have := ltR_ne (h1 y h)
      rw [hs] at this; cases this
    · have := ltR_ne (h2 y h)
      rw [sameK_symm hs] at this; cases this
  have HC := clash_snoc hk hc hno
  refine ⟨rise_uniqR (uni_rise la (rise_take lb _)) (ins_rise (uni_rise la (rise_take lb _)) h1 h2) fun x => ?_, HC⟩
  rw [uni_mem HC, List.take_add_one, List.getElem?_eq_getElem hk, Option.toList_some, List.mem_append, List.mem_singleton, List.mem_append, List.mem_append, List.mem_singleton]
  have hm := uni_mem hc x
  have hm2 : x ∈ uniK a (b.take k) ↔ x ∈ (uniK a (b.take k)).take j ∨ x ∈ (uniK a (b.take k)).drop j := by
    conv => lhs; rw [← List.take_append_drop j (uniK a (b.take k)), List.mem_append]
  rw [hm] at hm2
  constructor
  · rintro (h | h | h)
    · rcases hm2.1 (.inl h) with h | h
      · exact .inl (.inl h)
      · exact .inr h
    · rcases hm2.1 (.inr h) with h | h
      · exact .inl (.inl h)
      · exact .inr h
    · exact .inl (.inr h)
  · rintro ((h | h) | h)
    · rcases hm2.2 (.inl h) with h | h
      · exact .inl h
      · exact .inr (.inl h)
    · exact .inr (.inr h)
    · rcases hm2.2 (.inr h) with h | h
      · exact .inl h
      · exact .inr (.inl h)
theorem drop_end {U : List Rpt} {x : Rpt} {j : Nat} (h : j = U.length) : ∀ o ∈ U.drop j, ltR x o = true := fun o ho => by
  rw [h, List.drop_length] at ho; cases ho
theorem drop_mid {U : List Rpt} {x : Rpt} {j : Nat} (hU : Rise U) (hj : j < U.length) (h : ltR x U[j] = true) : ∀ o ∈ U.drop j, ltR x o = true := fun o ho => by
  obtain ⟨i, hi, rfl⟩ := List.mem_iff_getElem.1 ho
  rw [List.getElem_drop]
  have hi' : j + i < U.length := by rw [List.length_drop] at hi; omega
  by_cases h0 : i = 0
  · subst h0; exact h
  · exact ltR_trans h (List.pairwise_iff_getElem.1 hU j (j + i) hj hi' (by omega))
theorem at_in_a {a b : List Rpt} {k j : Nat} (lb : Rise b) (hk : k < b.length) (hc : clashB a (b.take k) = false) (hj : j < (uniK a (b.take k)).length) (hs : sameK (uniK a (b.take k))[j] b[k] = true) : ∃ i, ∃ hi : i < a.length, a[i] = (uniK a (b.take k))[j] := by
  rcases (uni_mem hc _).1 (List.getElem_mem hj) with h | h
  · obtain ⟨i, hi, he⟩ := List.mem_iff_getElem.1 h
    exact ⟨i, hi, he⟩
  · obtain ⟨i, hi, he⟩ := List.mem_iff_getElem.1 h
    have hi' : i < k := by rw [List.length_take] at hi; omega
    rw [List.getElem_take] at he
    have := List.pairwise_iff_getElem.1 (rise_dist lb) i k (by omega) hk hi'
    rw [he, hs] at this; cases this
theorem uni_clash {a b : List Rpt} {k j : Nat} (lb : Rise b) (hk : k < b.length) (hc : clashB a (b.take k) = false) (hj : j < (uniK a (b.take k)).length) (hs : sameK (uniK a (b.take k))[j] b[k] = true) (hne : ¬ (uniK a (b.take k))[j] = b[k]) : clashB a b = true := by
  obtain ⟨i, hi, he⟩ := at_in_a lb hk hc hj hs
  exact clash_hit hk hi (by rw [he]; exact hs) (by rw [he]; exact hne)
theorem uni_stay {a b : List Rpt} {k j : Nat} (la : Rise a) (lb : Rise b) (hk : k < b.length) (hc : clashB a (b.take k) = false) (hj : j < (uniK a (b.take k)).length) (hs : sameK (uniK a (b.take k))[j] b[k] = true) (he : (uniK a (b.take k))[j] = b[k]) :
    uniK a (b.take (k + 1)) = uniK a (b.take k) ∧ clashB a (b.take (k + 1)) = false := by
  obtain ⟨i, hi, hei⟩ := at_in_a lb hk hc hj hs
  have hx : a[i] = b[k] := hei.trans he
  have hsa : sameK a[i] b[k] = true := by rw [hei]; exact hs
  refine ⟨?_, clash_snoc hk hc (same_one la hi hsa hx)⟩
  unfold uniK
  rw [new_snoc hk, if_pos (hasK_iff.2 ⟨_, List.getElem_mem hi, hsa⟩), List.append_nil]
theorem ins_ds (U : List Rpt) (x : Rpt) (j : Nat) : (U.take j ++ [x] ++ U.drop j).map Rpt.ds = (U.map Rpt.ds).take j ++ [x.ds] ++ (U.map Rpt.ds).drop j := by simp
theorem before_next {U : List Rpt} {x : Rpt} {j : Nat} (hj : j < U.length) (h : ∀ o ∈ U.take j, ltR o x = true) (h2 : ltR U[j] x = true) : ∀ o ∈ U.take (j + 1), ltR o x = true := fun o ho => by
  rw [List.take_add_one, List.getElem?_eq_getElem hj, Option.toList_some, List.mem_append, List.mem_singleton] at ho
  rcases ho with ho | rfl
  · exact h o ho
  · exact h2


set_option maxRecDepth 100000 in
set_option maxHeartbeats 1000000 in
theorem c_clRpt (l : List Rpt) (hl : l.length ≤ 1000000) : OCall Tryd.prog 55 [.sl (l.map Rpt.ds)] 48 5 (l.map Rpt.ds) := by
  refine ocall_of (n := 8) Tryd.func55 rfl (by kernel_rfl) rfl 2 rfl rfl ?_
  intro B w0 F0 fr
  refine (Classical.em (l = [])).elim (fun hn => ?_) (fun hn => ?_)
  subst hn
  refine AWP.nilOr 0 rfl ?_ (fun ad cap hcap => ?_)
  · skip
    refine AWP.seq (AWP.region ?_)
    refine AOps.aD rfl rfl rfl rfl rfl (.nil ?_)
    refine AWP.seq ?_
    refine AWP.seq (AWP.region ?_)
    refine AOps.mD rfl rfl rfl rfl rfl ?_
    refine AOps.step rfl rfl rfl (AOp.eqNilV rfl Tryd.underlying40 rfl rfl) (.nil ?_)
    refine AWP.cond rfl (fun _ => ?_) (fun h => nomatch h)
    refine AWP.seq (AWP.region ?_)
    refine AOps.aD rfl rfl rfl rfl rfl (.nil ?_)
    refine AWP.adopt 2 51 48 5 rfl rfl ?_
    refine AWP.ret ?_
    refine ⟨51, rfl, mem_row_eq (.head _) ?_⟩
    first | rfl | simp
  · skip
    refine AWP.seq (AWP.region ?_)
    refine AOps.aD rfl rfl rfl rfl rfl (.nil ?_)
    refine AWP.seq ?_
    refine AWP.seq (AWP.region ?_)
    refine AOps.mD rfl rfl rfl rfl rfl ?_
    refine AOps.step rfl rfl rfl (AOp.eqNilV rfl Tryd.underlying40 rfl rfl) (.nil ?_)
    refine AWP.cond rfl (fun h => nomatch h) (fun _ => ?_)
    refine AWP.skip ?_
    refine AWP.seq (AWP.region ?_)
    refine AOps.build0 102 rfl rfl rfl rfl et_40 rfl ?_
    refine AOps.mD rfl rfl rfl rfl rfl ?_
    refine AOps.le 6 rfl (SLe.d (Le.empty hcap)) ?_
    -- append 7
    refine AOps.append rfl rfl rfl rfl et_40 rfl (.head _) rfl (fun y hy => by first | exact absurd hy List.not_mem_nil | (obtain ⟨x, _, rfl⟩ := List.mem_map.1 hy; rfl)) (by simp; try omega) (by simp; try omega) ?_
    refine AOps.step rfl rfl rfl (AOp.assignO rfl rfl) (.nil ?_)
    refine AWP.ret ?_
    refine ⟨102, rfl, mem_row_eq (.head _) ?_⟩
    first | rfl | simp
  refine AWP.seq (AWP.region ?_)
  refine AOps.aD rfl rfl rfl rfl rfl (.nil ?_)
  refine AWP.seq ?_
  refine AWP.seq (AWP.region ?_)
  refine AOps.mD rfl rfl rfl rfl rfl ?_
  refine AOps.step rfl rfl rfl (AOp.eqNilS rfl Tryd.underlying40 rfl rfl (fun h => hn (List.map_eq_nil_iff.1 h))) (.nil ?_)
  refine AWP.cond rfl (fun h => nomatch h) (fun _ => ?_)
  refine AWP.skip ?_
  refine AWP.seq (AWP.region ?_)
  refine AOps.build0 103 rfl rfl rfl rfl et_40 rfl ?_
  refine AOps.mD rfl rfl rfl rfl rfl ?_
  -- append 7
  refine AOps.append rfl rfl rfl rfl et_40 rfl (.head _) rfl (fun y hy => by first | exact absurd hy List.not_mem_nil | (obtain ⟨x, _, rfl⟩ := List.mem_map.1 hy; rfl)) (by simp; try omega) (by simp; try omega) ?_
  refine AOps.step rfl rfl rfl (AOp.assignO rfl rfl) (.nil ?_)
  refine AWP.ret ?_
  refine ⟨103, rfl, mem_row_eq (.head _) ?_⟩
  first | rfl | simp

set_option maxRecDepth 100000 in
set_option maxHeartbeats 8000000 in
theorem c_rJoin (a b : List Rpt) (ha : ∀ x ∈ a, okRpt x) (hb : ∀ x ∈ b, okRpt x) : ACallT Tryd.prog MaxT 20 [.sl (a.map Rpt.ds), .sl (b.map Rpt.ds)] (.tup [.sl ((joinR a b).map Rpt.ds), .v (.int .i64 (joinF a b))]) := by
  refine acall_ofT (n := 75) (ds' := [.sl ((joinR a b).map Rpt.ds), .v (.int .i64 (joinF a b))]) Tryd.func20 rfl (by kernel_rfl) rfl [4, 5] rfl rfl ?_
  intro B w0 F0 hT
  refine AWP.seq (AWP.region ?_)
  refine AOps.aD rfl rfl rfl rfl rfl ?_
  refine AOps.aD rfl rfl rfl rfl rfl (.nil ?_)
  refine AWP.seq ?_
  refine AWP.seq (AWP.region ?_)
  refine AOps.mD rfl rfl rfl rfl rfl ?_
  -- wants the world
  refine AOps.callT rfl rfl rfl hT maxT_stays rfl (.cons (ArgOk.rfl' rfl) .nil) (c_rLog a ha) ?_
  refine AOps.aD rfl rfl rfl rfl rfl (.nil ?_)
  refine AWP.seq (AWP.region ?_)
  refine AOps.mD rfl rfl rfl rfl rfl ?_
  refine AOps.step rfl rfl rfl (AOp.neq rfl rfl rfl) (.nil ?_)
  refine AWP.cond rfl (fun h1 => ?_) (fun h1 => ?_)
  · replace h1 := of_decide_eq_true h1
    obtain ⟨HF, HR⟩ := join_f1 (b := b) (k := 0) (by omega) (fun h => by omega) (show logF (selL a b 0) ≠ 0 from h1)
    rw [HF, HR]
    refine AWP.seq (AWP.region ?_)
    refine AOps.mD rfl rfl rfl rfl rfl ?_
    refine AOps.aD rfl rfl rfl rfl rfl ?_
    refine AOps.aD rfl rfl rfl rfl rfl (.nil ?_)
    refine AWP.ret ?_
    refine ⟨RetD.nil rfl, RetD.eq rfl ?_, trivial⟩
    all_goals (rfl)
  replace h1 := of_decide_eq_false h1
  have hla : logF a = 0 := by omega
  have la := log_of hla
  refine AWP.skip ?_
  refine AWP.seq ?_
  refine AWP.seq (AWP.region ?_)
  refine AOps.mD rfl rfl rfl rfl rfl ?_
  -- wants the world
  refine AOps.callT rfl rfl rfl hT maxT_stays rfl (.cons (ArgOk.rfl' rfl) .nil) (c_rLog b hb) ?_
  refine AOps.aD rfl rfl rfl rfl rfl (.nil ?_)
  refine AWP.seq (AWP.region ?_)
  refine AOps.mD rfl rfl rfl rfl rfl ?_
  refine AOps.step rfl rfl rfl (AOp.neq rfl rfl rfl) (.nil ?_)
  refine AWP.cond rfl (fun h2 => ?_) (fun h2 => ?_)
  · replace h2 := of_decide_eq_true h2
    obtain ⟨HF, HR⟩ := join_f1 (a := a) (k := 1) (by omega) (fun h => hla) (show logF (selL a b 1) ≠ 0 from h2)
    rw [HF, HR]
    refine AWP.seq (AWP.region ?_)
    refine AOps.mD rfl rfl rfl rfl rfl ?_
    refine AOps.aD rfl rfl rfl rfl rfl ?_
    refine AOps.aD rfl rfl rfl rfl rfl (.nil ?_)
    refine AWP.ret ?_
    refine ⟨RetD.nil rfl, RetD.eq rfl ?_, trivial⟩
    all_goals (rfl)
  replace h2 := of_decide_eq_false h2
  have hlb : logF b = 0 := by omega
  have lb := log_of hlb
  have hal := la.len
  have hbl := lb.len
  refine AWP.skip ?_
  refine AWP.seq (AWP.region ?_)
  refine AOps.mD rfl rfl rfl rfl rfl ?_
  refine AOps.callO 71 rfl rfl rfl rfl (.cons (ArgOk.rfl' rfl) .nil) (c_clRpt a (by have := la.len; omega)) rfl ?_
  refine AOps.step rfl rfl rfl (AOp.assignO rfl rfl) (.nil ?_)
  refine AWP.seq ?_
  refine AWP.seq (AWP.region ?_)
  refine AOps.mD rfl rfl rfl rfl rfl ?_
  refine AOps.step rfl rfl rfl (AOp.lenSl rfl et_40.ht rfl) ?_
  refine AOps.mD rfl rfl rfl rfl rfl (.nil ?_)
  refine AWP.block ?_
  refine AWP.loop (G := Nat) (fun k => Env.of [(26, .d (.v (.int .i64 (k : Int)))), (24, .d (.sl (b.map Rpt.ds))), (25, .d (.v (.int .i64 ((b.map Rpt.ds).length : Int)))), (8, .own 71)]) (fun k => [(71, .row 48 5 (((uniK a (b.take k))).map Rpt.ds))]) (fun k => k ≤ b.length ∧ clashB a (b.take k) = false) (fun k => b.length - k) 0 ⟨Nat.zero_le _, by rw [List.take_zero]; rfl⟩ (Sub.less ⟨(SLe.of_eq rfl), SLe.refl _, SLe.refl _, SLe.refl _, trivial⟩ (row_sameM (by rw [List.take_zero, uni_nil la.rise]))) ?_
  intro k hk
  refine AWP.seq (AWP.region ?_)
  refine AOps.step rfl rfl rfl (AOp.lss rfl rfl rfl) (.nil ?_)
  refine AWP.seq ?_
  refine AWP.cond rfl (fun h3 => ?_) (fun h3 => ?_)
  · replace h3 := of_decide_eq_true h3
    rw [List.length_map] at h3
    have hlt : k < b.length := by omega
    have hnl := newK_len a (b.take k)
    rw [List.length_take] at hnl
    have hUl := uni_len a (b.take k)
    rw [List.length_append] at hUl
    have hUr := uni_rise la.rise (rise_take lb.rise k)
    refine AWP.skip ?_
    refine AWP.seq ?_
    refine AWP.block ?_
    refine AWP.seq (AWP.region ?_)
    refine AOps.step rfl rfl rfl (AOp.indexAddr rfl et_40 rfl rfl k rfl (at_lst hlt) rfl) ?_
    refine AOps.step rfl rfl rfl (AOp.loadAgg rfl ag_48 rfl rfl) ?_
    refine AOps.alloc 102 rfl rfl rfl rfl zt_48 rfl rfl rfl ?_
    refine AOps.store rfl rfl rfl sz_48 rfl (.head _) rfl rfl rfl (Nat.le_of_ble_eq_true rfl) ?_
    refine AOps.freezeCells 10 (ds := b[k].ds) rfl (.head _) (.nil ?_)
    refine AWP.seq (AWP.region ?_)
    refine AOps.aD rfl rfl rfl rfl rfl (.nil ?_)
    refine AWP.seq ?_
    refine AWP.block ?_
    refine AWP.loop (G := Nat) (fun j => Env.of [(11, .d (.v (.int .i64 (j : Int)))), (26, .d (.v (.int .i64 (k : Int)))), (24, .d (.sl (b.map Rpt.ds))), (25, .d (.v (.int .i64 ((b.map Rpt.ds).length : Int)))), (8, .own 71), (10, .d (.fp b[k].ds))]) (fun j => [(71, .row 48 5 (((uniK a (b.take k))).map Rpt.ds))]) (fun j => j ≤ (uniK a (b.take k)).length ∧ ∀ o ∈ (uniK a (b.take k)).take j, ltR o b[k] = true) (fun j => (uniK a (b.take k)).length - j) 0 ⟨Nat.zero_le _, fun o h => by simp at h⟩ (Sub.less ⟨(SLe.of_eq rfl), SLe.refl _, SLe.refl _, SLe.refl _, SLe.refl _, SLe.refl _, trivial⟩ (row_sameM rfl)) ?_
    intro j hj
    refine AWP.seq ?_
    refine AWP.seq ?_
    refine AWP.draw (by kernel_rfl) (by kernel_rfl) ?_
    refine DRun.step rfl rfl rfl (AOp.moveD rfl rfl) ?_
    refine DRun.step rfl rfl rfl (AOp.moveO rfl rfl) ?_
    refine DRun.step rfl rfl rfl (AOp.lenOwn rfl et_40.ht rfl (.head _)) ?_
    refine DRun.step rfl rfl rfl (AOp.lss rfl rfl rfl) ?_
    refine DRun.step rfl rfl rfl (AOp.moveD rfl rfl) ?_
    refine DRun.split 34 rfl (fun g4 => ?_) (fun g4 => ?_)
    · replace g4 := of_decide_eq_true g4
      rw [List.length_map] at g4
      have hjl : j < (uniK a (b.take k)).length := by omega
      refine DRun.step ⟨34, rfl, .inl ⟨_, rfl, rfl⟩⟩ rfl rfl (AOp.moveO rfl rfl) ?_
      refine DRun.step ⟨34, rfl, .inl ⟨_, rfl, rfl⟩⟩ rfl rfl (AOp.moveD rfl rfl) ?_
      refine DRun.step ⟨34, rfl, .inl ⟨_, rfl, rfl⟩⟩ rfl rfl (AOp.indexOwn rfl et_40 rfl rfl (.head _) j rfl (by rw [List.length_map]; omega)) ?_
      refine DRun.step ⟨34, rfl, .inl ⟨_, rfl, rfl⟩⟩ rfl rfl (AOp.loadRowAgg rfl ag_48 rfl (.head _) j rfl (at_lst hjl)) ?_
      refine DRun.step ⟨34, rfl, .inl ⟨_, rfl, rfl⟩⟩ rfl rfl (AOp.loadAgg rfl ag_48 rfl rfl) ?_
      refine DRun.step ⟨34, rfl, .inl ⟨_, rfl, rfl⟩⟩ rfl rfl (AOp.call rfl (.cons (ArgOk.rfl' rfl) (.cons (ArgOk.rfl' rfl) .nil)) (c_before _ _)) ?_
      refine DRun.step rfl rfl rfl (AOp.pickT rfl rfl rfl) ?_
      refine DRun.nil ?_
      refine AWP.cond rfl (fun h5 => ?_) (fun h5 => ?_)
      · skip
        have HB := before_next hjl hj.2 h5
        refine AWP.skip ?_
        refine AWP.block ?_
        refine AWP.region ?_
        refine AOps.mD rfl rfl rfl rfl rfl ?_
        refine AOps.step rfl rfl rfl (AOp.add64 rfl rfl rfl (by omega) (by omega)) ?_
        refine AOps.aD rfl rfl rfl rfl rfl (.nil ?_)
        refine ⟨j + 1, ⟨by omega, HB⟩, (by dsimp only; omega), Sub.less ⟨(SLe.of_eq rfl), SLe.refl _, SLe.refl _, SLe.refl _, SLe.refl _, SLe.refl _, trivial⟩ (row_sameM rfl)⟩
      have hN : ltR (uniK a (b.take k))[j] b[k] = false := h5
      refine AWP.exit ?_
      refine AWP.block ?_
      refine AWP.seq ?_
      refine AWP.draw (by kernel_rfl) (by kernel_rfl) ?_
      refine DRun.step rfl rfl rfl (AOp.moveD rfl rfl) ?_
      refine DRun.step rfl rfl rfl (AOp.moveO rfl rfl) ?_
      refine DRun.step rfl rfl rfl (AOp.lenOwn rfl et_40.ht rfl (.head _)) ?_
      refine DRun.step rfl rfl rfl (AOp.eql rfl rfl rfl) ?_
      refine DRun.step rfl rfl rfl (AOp.moveD rfl rfl) ?_
      refine DRun.split 49 rfl (fun g6 => ?_) (fun g6 => ?_)
      · replace g6 := of_decide_eq_true g6
        rw [List.length_map] at g6
        have HI := ins_uni la.rise lb.rise hlt hk.2 hj.2 (drop_end (by omega))
        refine DRun.pass ⟨49, rfl, .inl ⟨_, rfl, rfl⟩⟩ rfl rfl ?_
        refine DRun.pass ⟨49, rfl, .inl ⟨_, rfl, rfl⟩⟩ rfl rfl ?_
        refine DRun.pass ⟨49, rfl, .inl ⟨_, rfl, rfl⟩⟩ rfl rfl ?_
        refine DRun.pass ⟨49, rfl, .inl ⟨_, rfl, rfl⟩⟩ rfl rfl ?_
        refine DRun.pass ⟨49, rfl, .inl ⟨_, rfl, rfl⟩⟩ rfl rfl ?_
        refine DRun.pass ⟨49, rfl, .inl ⟨_, rfl, rfl⟩⟩ rfl rfl ?_
        refine DRun.step rfl rfl rfl (AOp.pickT rfl rfl rfl) ?_
        refine DRun.step rfl rfl rfl (AOp.assignD rfl rfl) ?_
        refine DRun.nil ?_
        refine AWP.cond rfl (fun _ => ?_) (fun h => nomatch h)
        refine AWP.region ?_
        refine AOps.step rfl rfl rfl (AOp.moveO rfl rfl) ?_
        refine AOps.mD rfl rfl rfl rfl rfl ?_
        refine AOps.step rfl rfl rfl (AOp.loadAgg rfl hagRpt rfl rfl) ?_
        refine AOps.buildS 72 rfl rfl rfl rfl et_cpyI rfl rfl rfl rfl rfl ?_
        refine AOps.insertC (id := 71) (idx := 72) (k := j) [(71, Ob.row 48 5 ((uniK a (b.take (k + 1))).map Rpt.ds)), (72, Ob.row 48 5 [b[k].ds])] rfl rfl rfl rfl rfl rfl (.tail _ (.head _)) rfl rfl (by rw [List.length_map]; omega) rfl (.head _) (by decide) (by rw [List.length_map]; omega) (fun p hp => ?_) ?_
        · rcases List.mem_cons.1 hp with rfl | hp
          · exact .inl (by rw [HI.1, ins_ds]; rfl)
          obtain rfl := List.mem_singleton.1 hp
          exact .inr ⟨_, .head _, (by decide : (72 : Nat) ≠ 71), rfl⟩
        refine AOps.step rfl rfl rfl (AOp.assignO rfl rfl) (.nil ?_)
        refine AWP.region ?_
        refine AOps.step rfl rfl rfl (AOp.add64 rfl rfl rfl (by omega) (by omega)) ?_
        refine AOps.mD rfl rfl rfl rfl rfl (.nil ?_)
        refine ⟨k + 1, ⟨by omega, HI.2⟩, (by dsimp only; omega), Sub.less ⟨(SLe.of_eq rfl), SLe.refl _, SLe.refl _, SLe.refl _, trivial⟩ (row_sameM (by first | rfl | (rw [HI.1])))⟩
      replace g6 := of_decide_eq_false g6
      rw [List.length_map] at g6
      have hjl2 : j < (uniK a (b.take k)).length := by omega
      refine DRun.step ⟨49, rfl, .inl ⟨_, rfl, rfl⟩⟩ rfl rfl (AOp.loadAgg rfl ag_48 rfl rfl) ?_
      refine DRun.step ⟨49, rfl, .inl ⟨_, rfl, rfl⟩⟩ rfl rfl (AOp.moveO rfl rfl) ?_
      refine DRun.step ⟨49, rfl, .inl ⟨_, rfl, rfl⟩⟩ rfl rfl (AOp.moveD rfl rfl) ?_
      refine DRun.step ⟨49, rfl, .inl ⟨_, rfl, rfl⟩⟩ rfl rfl (AOp.indexOwn rfl et_40 rfl rfl (.head _) j rfl (by rw [List.length_map]; omega)) ?_
      refine DRun.step ⟨49, rfl, .inl ⟨_, rfl, rfl⟩⟩ rfl rfl (AOp.loadRowAgg rfl ag_48 rfl (.head _) j rfl (at_lst hjl2)) ?_
      refine DRun.step ⟨49, rfl, .inl ⟨_, rfl, rfl⟩⟩ rfl rfl (AOp.call rfl (.cons (ArgOk.rfl' rfl) (.cons (ArgOk.rfl' rfl) .nil)) (c_before _ _)) ?_
      refine DRun.step rfl rfl rfl (AOp.pickF rfl rfl rfl) ?_
      refine DRun.step rfl rfl rfl (AOp.assignD rfl rfl) ?_
      refine DRun.nil ?_
      refine AWP.cond rfl (fun h7 => ?_) (fun h7 => ?_)
      · skip
        have HI := ins_uni la.rise lb.rise hlt hk.2 hj.2 (drop_mid hUr hjl2 h7)
        refine AWP.region ?_
        refine AOps.step rfl rfl rfl (AOp.moveO rfl rfl) ?_
        refine AOps.mD rfl rfl rfl rfl rfl ?_
        refine AOps.step rfl rfl rfl (AOp.loadAgg rfl hagRpt rfl rfl) ?_
        refine AOps.buildS 72 rfl rfl rfl rfl et_cpyI rfl rfl rfl rfl rfl ?_
        refine AOps.insertC (id := 71) (idx := 72) (k := j) [(71, Ob.row 48 5 ((uniK a (b.take (k + 1))).map Rpt.ds)), (72, Ob.row 48 5 [b[k].ds])] rfl rfl rfl rfl rfl rfl (.tail _ (.head _)) rfl rfl (by rw [List.length_map]; omega) rfl (.head _) (by decide) (by rw [List.length_map]; omega) (fun p hp => ?_) ?_
        · rcases List.mem_cons.1 hp with rfl | hp
          · exact .inl (by rw [HI.1, ins_ds]; rfl)
          obtain rfl := List.mem_singleton.1 hp
          exact .inr ⟨_, .head _, (by decide : (72 : Nat) ≠ 71), rfl⟩
        refine AOps.step rfl rfl rfl (AOp.assignO rfl rfl) (.nil ?_)
        refine AWP.region ?_
        refine AOps.step rfl rfl rfl (AOp.add64 rfl rfl rfl (by omega) (by omega)) ?_
        refine AOps.mD rfl rfl rfl rfl rfl (.nil ?_)
        refine ⟨k + 1, ⟨by omega, HI.2⟩, (by dsimp only; omega), Sub.less ⟨(SLe.of_eq rfl), SLe.refl _, SLe.refl _, SLe.refl _, trivial⟩ (row_sameM (by first | rfl | (rw [HI.1])))⟩
      have hS : sameK (uniK a (b.take k))[j] b[k] = true := ltR_tot (by first | exact hN | (exfalso; omega)) h7
      refine AWP.seq ?_
      refine AWP.draw (by kernel_rfl) (by kernel_rfl) ?_
      refine DRun.step rfl rfl rfl (AOp.moveO rfl rfl) ?_
      refine DRun.step rfl rfl rfl (AOp.moveD rfl rfl) ?_
      refine DRun.step rfl rfl rfl (AOp.indexOwn rfl et_40 rfl rfl (.head _) j rfl (by rw [List.length_map]; omega)) ?_
      refine DRun.step rfl rfl rfl (AOp.loadRowAgg rfl ag_48 rfl (.head _) j rfl (at_lst hjl2)) ?_
      refine DRun.step rfl rfl rfl (AOp.loadAgg rfl ag_48 rfl rfl) ?_
      refine DRun.step rfl rfl rfl (AOp.call rfl (.cons (ArgOk.rfl' rfl) (.cons (ArgOk.rfl' rfl) .nil)) (c_sameR _ _)) ?_
      refine DRun.step rfl rfl rfl (AOp.not rfl rfl) ?_
      refine DRun.step rfl rfl rfl (AOp.assignD rfl rfl) ?_
      refine DRun.nil ?_
      refine AWP.cond rfl (fun h8 => ?_) (fun h8 => ?_)
      · replace h8 := bnot_t h8; replace h8 := of_decide_eq_false h8
        obtain ⟨HF, HR⟩ := join_f2 hla hlb (uni_clash lb.rise hlt hk.2 hjl2 hS h8)
        rw [HF, HR]
        refine AWP.seq (AWP.region ?_)
        refine AOps.aD rfl rfl rfl rfl rfl ?_
        refine AOps.aD rfl rfl rfl rfl rfl (.nil ?_)
        refine AWP.ret ?_
        refine ⟨RetD.nil rfl, RetD.eq rfl ?_, trivial⟩
        all_goals (rfl)
      replace h8 := bnot_f h8; replace h8 := of_decide_eq_true h8
      have HI := uni_stay la.rise lb.rise hlt hk.2 hjl2 hS h8
      refine AWP.skip ?_
      refine AWP.region ?_
      refine AOps.step rfl rfl rfl (AOp.add64 rfl rfl rfl (by omega) (by omega)) ?_
      refine AOps.mD rfl rfl rfl rfl rfl (.nil ?_)
      refine ⟨k + 1, ⟨by omega, HI.2⟩, (by dsimp only; omega), Sub.less ⟨(SLe.of_eq rfl), SLe.refl _, SLe.refl _, SLe.refl _, trivial⟩ (row_sameM (by first | rfl | (rw [HI.1])))⟩
    replace g4 := of_decide_eq_false g4
    rw [List.length_map] at g4
    have hE : j = (uniK a (b.take k)).length := by omega
    refine DRun.pass ⟨34, rfl, .inl ⟨_, rfl, rfl⟩⟩ rfl rfl ?_
    refine DRun.pass ⟨34, rfl, .inl ⟨_, rfl, rfl⟩⟩ rfl rfl ?_
    refine DRun.pass ⟨34, rfl, .inl ⟨_, rfl, rfl⟩⟩ rfl rfl ?_
    refine DRun.pass ⟨34, rfl, .inl ⟨_, rfl, rfl⟩⟩ rfl rfl ?_
    refine DRun.pass ⟨34, rfl, .inl ⟨_, rfl, rfl⟩⟩ rfl rfl ?_
    refine DRun.pass ⟨34, rfl, .inl ⟨_, rfl, rfl⟩⟩ rfl rfl ?_
    refine DRun.step rfl rfl rfl (AOp.pickF rfl rfl rfl) ?_
    refine DRun.nil ?_
    refine AWP.cond rfl (fun h => nomatch h) (fun _ => ?_)
    refine AWP.exit ?_
    refine AWP.block ?_
    refine AWP.seq ?_
    refine AWP.draw (by kernel_rfl) (by kernel_rfl) ?_
    refine DRun.step rfl rfl rfl (AOp.moveD rfl rfl) ?_
    refine DRun.step rfl rfl rfl (AOp.moveO rfl rfl) ?_
    refine DRun.step rfl rfl rfl (AOp.lenOwn rfl et_40.ht rfl (.head _)) ?_
    refine DRun.step rfl rfl rfl (AOp.eql rfl rfl rfl) ?_
    refine DRun.step rfl rfl rfl (AOp.moveD rfl rfl) ?_
    refine DRun.split 49 rfl (fun g9 => ?_) (fun g9 => ?_)
    · replace g9 := of_decide_eq_true g9
      rw [List.length_map] at g9
      have HI := ins_uni la.rise lb.rise hlt hk.2 hj.2 (drop_end (by omega))
      refine DRun.pass ⟨49, rfl, .inl ⟨_, rfl, rfl⟩⟩ rfl rfl ?_
      refine DRun.pass ⟨49, rfl, .inl ⟨_, rfl, rfl⟩⟩ rfl rfl ?_
      refine DRun.pass ⟨49, rfl, .inl ⟨_, rfl, rfl⟩⟩ rfl rfl ?_
      refine DRun.pass ⟨49, rfl, .inl ⟨_, rfl, rfl⟩⟩ rfl rfl ?_
      refine DRun.pass ⟨49, rfl, .inl ⟨_, rfl, rfl⟩⟩ rfl rfl ?_
      refine DRun.pass ⟨49, rfl, .inl ⟨_, rfl, rfl⟩⟩ rfl rfl ?_
      refine DRun.step rfl rfl rfl (AOp.pickT rfl rfl rfl) ?_
      refine DRun.step rfl rfl rfl (AOp.assignD rfl rfl) ?_
      refine DRun.nil ?_
      refine AWP.cond rfl (fun _ => ?_) (fun h => nomatch h)
      refine AWP.region ?_
      refine AOps.step rfl rfl rfl (AOp.moveO rfl rfl) ?_
      refine AOps.mD rfl rfl rfl rfl rfl ?_
      refine AOps.step rfl rfl rfl (AOp.loadAgg rfl hagRpt rfl rfl) ?_
      refine AOps.buildS 72 rfl rfl rfl rfl et_cpyI rfl rfl rfl rfl rfl ?_
      refine AOps.insertC (id := 71) (idx := 72) (k := j) [(71, Ob.row 48 5 ((uniK a (b.take (k + 1))).map Rpt.ds)), (72, Ob.row 48 5 [b[k].ds])] rfl rfl rfl rfl rfl rfl (.tail _ (.head _)) rfl rfl (by rw [List.length_map]; omega) rfl (.head _) (by decide) (by rw [List.length_map]; omega) (fun p hp => ?_) ?_
      · rcases List.mem_cons.1 hp with rfl | hp
        · exact .inl (by rw [HI.1, ins_ds]; rfl)
        obtain rfl := List.mem_singleton.1 hp
        exact .inr ⟨_, .head _, (by decide : (72 : Nat) ≠ 71), rfl⟩
      refine AOps.step rfl rfl rfl (AOp.assignO rfl rfl) (.nil ?_)
      refine AWP.region ?_
      refine AOps.step rfl rfl rfl (AOp.add64 rfl rfl rfl (by omega) (by omega)) ?_
      refine AOps.mD rfl rfl rfl rfl rfl (.nil ?_)
      refine ⟨k + 1, ⟨by omega, HI.2⟩, (by dsimp only; omega), Sub.less ⟨(SLe.of_eq rfl), SLe.refl _, SLe.refl _, SLe.refl _, trivial⟩ (row_sameM (by first | rfl | (rw [HI.1])))⟩
    replace g9 := of_decide_eq_false g9
    rw [List.length_map] at g9
    have hjl2 : j < (uniK a (b.take k)).length := by omega
    refine DRun.step ⟨49, rfl, .inl ⟨_, rfl, rfl⟩⟩ rfl rfl (AOp.loadAgg rfl ag_48 rfl rfl) ?_
    refine DRun.step ⟨49, rfl, .inl ⟨_, rfl, rfl⟩⟩ rfl rfl (AOp.moveO rfl rfl) ?_
    refine DRun.step ⟨49, rfl, .inl ⟨_, rfl, rfl⟩⟩ rfl rfl (AOp.moveD rfl rfl) ?_
    refine DRun.step ⟨49, rfl, .inl ⟨_, rfl, rfl⟩⟩ rfl rfl (AOp.indexOwn rfl et_40 rfl rfl (.head _) j rfl (by rw [List.length_map]; omega)) ?_
    refine DRun.step ⟨49, rfl, .inl ⟨_, rfl, rfl⟩⟩ rfl rfl (AOp.loadRowAgg rfl ag_48 rfl (.head _) j rfl (at_lst hjl2)) ?_
    refine DRun.step ⟨49, rfl, .inl ⟨_, rfl, rfl⟩⟩ rfl rfl (AOp.call rfl (.cons (ArgOk.rfl' rfl) (.cons (ArgOk.rfl' rfl) .nil)) (c_before _ _)) ?_
    refine DRun.step rfl rfl rfl (AOp.pickF rfl rfl rfl) ?_
    refine DRun.step rfl rfl rfl (AOp.assignD rfl rfl) ?_
    refine DRun.nil ?_
    refine AWP.cond rfl (fun h10 => ?_) (fun h10 => ?_)
    · skip
      have HI := ins_uni la.rise lb.rise hlt hk.2 hj.2 (drop_mid hUr hjl2 h10)
      refine AWP.region ?_
      refine AOps.step rfl rfl rfl (AOp.moveO rfl rfl) ?_
      refine AOps.mD rfl rfl rfl rfl rfl ?_
      refine AOps.step rfl rfl rfl (AOp.loadAgg rfl hagRpt rfl rfl) ?_
      refine AOps.buildS 72 rfl rfl rfl rfl et_cpyI rfl rfl rfl rfl rfl ?_
      refine AOps.insertC (id := 71) (idx := 72) (k := j) [(71, Ob.row 48 5 ((uniK a (b.take (k + 1))).map Rpt.ds)), (72, Ob.row 48 5 [b[k].ds])] rfl rfl rfl rfl rfl rfl (.tail _ (.head _)) rfl rfl (by rw [List.length_map]; omega) rfl (.head _) (by decide) (by rw [List.length_map]; omega) (fun p hp => ?_) ?_
      · rcases List.mem_cons.1 hp with rfl | hp
        · exact .inl (by rw [HI.1, ins_ds]; rfl)
        obtain rfl := List.mem_singleton.1 hp
        exact .inr ⟨_, .head _, (by decide : (72 : Nat) ≠ 71), rfl⟩
      refine AOps.step rfl rfl rfl (AOp.assignO rfl rfl) (.nil ?_)
      refine AWP.region ?_
      refine AOps.step rfl rfl rfl (AOp.add64 rfl rfl rfl (by omega) (by omega)) ?_
      refine AOps.mD rfl rfl rfl rfl rfl (.nil ?_)
      refine ⟨k + 1, ⟨by omega, HI.2⟩, (by dsimp only; omega), Sub.less ⟨(SLe.of_eq rfl), SLe.refl _, SLe.refl _, SLe.refl _, trivial⟩ (row_sameM (by first | rfl | (rw [HI.1])))⟩
    have hS : sameK (uniK a (b.take k))[j] b[k] = true := ltR_tot (by first | exact hN | (exfalso; omega)) h10
    refine AWP.seq ?_
    refine AWP.draw (by kernel_rfl) (by kernel_rfl) ?_
    refine DRun.step rfl rfl rfl (AOp.moveO rfl rfl) ?_
    refine DRun.step rfl rfl rfl (AOp.moveD rfl rfl) ?_
    refine DRun.step rfl rfl rfl (AOp.indexOwn rfl et_40 rfl rfl (.head _) j rfl (by rw [List.length_map]; omega)) ?_
    refine DRun.step rfl rfl rfl (AOp.loadRowAgg rfl ag_48 rfl (.head _) j rfl (at_lst hjl2)) ?_
    refine DRun.step rfl rfl rfl (AOp.loadAgg rfl ag_48 rfl rfl) ?_
    refine DRun.step rfl rfl rfl (AOp.call rfl (.cons (ArgOk.rfl' rfl) (.cons (ArgOk.rfl' rfl) .nil)) (c_sameR _ _)) ?_
    refine DRun.step rfl rfl rfl (AOp.not rfl rfl) ?_
    refine DRun.step rfl rfl rfl (AOp.assignD rfl rfl) ?_
    refine DRun.nil ?_
    refine AWP.cond rfl (fun h11 => ?_) (fun h11 => ?_)
    · replace h11 := bnot_t h11; replace h11 := of_decide_eq_false h11
      obtain ⟨HF, HR⟩ := join_f2 hla hlb (uni_clash lb.rise hlt hk.2 hjl2 hS h11)
      rw [HF, HR]
      refine AWP.seq (AWP.region ?_)
      refine AOps.aD rfl rfl rfl rfl rfl ?_
      refine AOps.aD rfl rfl rfl rfl rfl (.nil ?_)
      refine AWP.ret ?_
      refine ⟨RetD.nil rfl, RetD.eq rfl ?_, trivial⟩
      all_goals (rfl)
    replace h11 := bnot_f h11; replace h11 := of_decide_eq_true h11
    have HI := uni_stay la.rise lb.rise hlt hk.2 hjl2 hS h11
    refine AWP.skip ?_
    refine AWP.region ?_
    refine AOps.step rfl rfl rfl (AOp.add64 rfl rfl rfl (by omega) (by omega)) ?_
    refine AOps.mD rfl rfl rfl rfl rfl (.nil ?_)
    refine ⟨k + 1, ⟨by omega, HI.2⟩, (by dsimp only; omega), Sub.less ⟨(SLe.of_eq rfl), SLe.refl _, SLe.refl _, SLe.refl _, trivial⟩ (row_sameM (by first | rfl | (rw [HI.1])))⟩
  replace h3 := of_decide_eq_false h3
  rw [List.length_map] at h3
  obtain rfl : k = b.length := by omega
  have hcl := hk.2
  rw [List.take_length] at hcl ⊢
  have hnl := newK_len a b
  have hUl := uni_len a b
  refine AWP.exit ?_
  refine AWP.seq ?_
  refine AWP.seq (AWP.region ?_)
  refine AOps.step rfl rfl rfl (AOp.moveO rfl rfl) ?_
  refine AOps.step rfl rfl rfl (AOp.lenOwn rfl et_40.ht rfl (.head _)) ?_
  refine AOps.step rfl rfl rfl (AOp.gtr rfl rfl rfl) (.nil ?_)
  refine AWP.cond rfl (fun h12 => ?_) (fun h12 => ?_)
  · replace h12 := of_decide_eq_true h12
    rw [List.length_map] at h12
    obtain ⟨HF, HR⟩ := join_f3 hla hlb hcl (by omega)
    rw [HF, HR]
    refine AWP.seq (AWP.region ?_)
    refine AOps.aD rfl rfl rfl rfl rfl ?_
    refine AOps.aD rfl rfl rfl rfl rfl (.nil ?_)
    refine AWP.ret ?_
    refine ⟨RetD.nil rfl, RetD.eq rfl ?_, trivial⟩
    all_goals (rfl)
  replace h12 := of_decide_eq_false h12
  rw [List.length_map] at h12
  obtain ⟨HF, HR⟩ := join_f4 hla hlb hcl (by omega)
  rw [HF, HR]
  refine AWP.skip ?_
  refine AWP.seq (AWP.region ?_)
  refine AOps.step rfl rfl rfl (AOp.moveO rfl rfl) ?_
  refine AOps.step rfl rfl rfl (AOp.assignO rfl rfl) ?_
  refine AOps.aD rfl rfl rfl rfl rfl (.nil ?_)
  refine AWP.ret ?_
  refine ⟨RetD.own rfl (.head _) ?_, RetD.eq rfl ?_, trivial⟩
  all_goals (rfl)

end Go.Proofs.YtfajemnegkfigaaDoor


namespace Go.Proofs.YtfajemnegkfigaaDoor
open Go.RowKit Go.MapKept
set_option linter.unusedVariables false
set_option linter.unusedSimpArgs false

/-- v, ok := m[key]. -/
def MGetOk (M : List (Value × D)) (key : Value) (z d : D) (ok : Bool) : Prop := (ok = true ∧ ∃ i, M[i]? = some (key, d) ∧ ∀ (j : Nat) (p : Value × D), M[j]? = some p → p.1 = key → j = i) ∨ (ok = false ∧ (∀ p ∈ M, p.1 ≠ key) ∧ d = z)
theorem rep_agg2 {F : Nat → Prop} {w : World} {v k1 k2 : Value} (h : Rep F w v (.agg [.v k1, .v k2])) : v = .agg #[k1, k2] := by
  cases h with
  | agg cs _ hl hone h =>
    obtain ⟨a, b, rfl⟩ : ∃ a b, cs = [a, b] := by
      match cs, hl with
      | [a, b], _ => exact ⟨a, b, rfl⟩
    have h1 := h 0 (by simp) (by simp)
    have h2 := h 1 (by simp) (by simp)
    simp only [List.getElem_cons_zero, List.getElem_cons_succ] at h1 h2
    rw [rep_v h1, rep_v h2]
section
variable {cx : Cx} {ops : Array Oper} {o : Oper} {rest : List Oper} {e : Env} {σ σ' : Obs} {Q : Post} {P : Program} {B : Nat}
theorem EOp.mapUpdateK {t k et : TypeId} {id : Nat} {m x v : Operand} {key k1 k2 : Value} {d : D} {M M' : List (Value × D)}  (hdst : o.dst = none) (ho : o.op = .mapUpdate t m x v) (ht : cx.P.underlying t = some (.map k et)) (K : Maps.Keyed cx.P k) (hm : e.ev m = .own id) (hmem : (id, Ob.map M) ∈ σ)
    (hx : e.ev x = .d (.agg [.v k1, .v k2])) (hke : key = .agg #[k1, k2]) (hv : e.ev v = .d d) (hg : ∃ l, keyOf cx.P k key = some l) (hgs : ∀ p ∈ M, ∃ l, keyOf cx.P k p.1 = some l) (hp : MPut M key d M') : EOp cx ops o e σ (Obs.upd id (.map M') σ) := by
  intro F ρ a w e0 hr ha
  have hop : ∀ y ∈ o.op.operands.toList, RepS F ρ w (a.eval y) (e.ev y) := fun y hy => ev_rep fun t ht => ha t (looks_op (by rw [← ht]; exact hy))
  have r1 := hop m (by rw [ho]; simp [Op.operands])
  have r2 := hop x (by rw [ho]; simp [Op.operands])
  have r3 := hop v (by rw [ho]; simp [Op.operands])
  rw [hm] at r1
  rw [hx] at r2
  rw [hv] at r3
  obtain ⟨b, es, clock, hρ, hB, hF, hh, hl, hall⟩ := hr.obs.ok _ hmem
  dsimp only at hρ
  have hmv : a.eval m = .map (some b) := by rw [← hρ]; generalize a.eval m = u at r1; cases r1; rfl
  have hxv := (rep_agg2 (repS_d r2)).trans hke.symm
  have r3' := repS_d r3
  have hks : ∀ en ∈ es.toList, ∃ l, keyOf cx.P k en.key = some l := fun en hen => by
    obtain ⟨j, hj⟩ := List.mem_iff_getElem?.1 hen
    obtain ⟨p, h1, h2, _⟩ := entries_get hl hall hj
    rw [h2]; exact hgs p (List.mem_of_getElem? h1)
  obtain ⟨kl, hkl⟩ := hg
  have hblk : blk (ρ id) = some b := by rw [hρ]; rfl
  unfold Oper.wp execOp
  simp only [ho, hmv, hxv]
  rcases K.find w hkl es.toList hks with ⟨h1, h2⟩ | ⟨j, en, h1, h2, h3⟩
  · have hrun : (Instr.mapUpdate t (.map (some b)) key (a.eval v)).run cx.P w = .ok () { w with heap := w.heap.setIfInBounds b (.map (es.push { key := key, val := a.eval v, born := clock }) (clock + 1)) } := by
      simp [Instr.mapUpdate, run_underlying ht, MapKept.run_getObj_map hh, K.check w _ hkl, h1, MapKept.run_setObj_map _ hh, Result.andThen]
    rw [Sem.run_bind, hrun]
    refine ⟨by rw [hdst]; rfl, fun e2 hr2 => ⟨F, ρ, hr2.writeOb hblk hmem hB hF setObj_turn ?_⟩⟩
    have hM' : M' = M ++ [(key, d)] := by
      rcases hp with ⟨i, d0, hi, _, _⟩ | ⟨_, hM'⟩
      · exfalso
        have hil : i < M.length := (List.getElem?_eq_some_iff.1 hi).1
        have h4 := (hall i (by omega) hil).1
        have h5 : M[i] = (key, d0) := (List.getElem?_eq_some_iff.1 hi).2
        rw [h5] at h4
        exact h2 es[i] (by simp) h4
      · exact hM'
    have hkeep : ∀ {u : Value} {y : D}, Rep F w u y → Rep F { w with heap := w.heap.setIfInBounds b (.map (es.push { key := key, val := a.eval v, born := clock }) (clock + 1)) } u y := fun h => h.mono (fun _ h => h) fun c hc => by
      have : b ≠ c := fun h => hF (by rw [h]; exact hc)
      simp [this]
    subst hM'
    refine ⟨b, _, _, hρ, hB, hF, (MapKept.heap_set hh).1, by simp [hl], fun i hi hi' => ?_⟩
    by_cases hc : i < es.size
    · have hc' : i < M.length := by omega
      rw [Array.getElem_push_lt hc, List.getElem_append_left hc']
      exact ⟨(hall i hc hc').1, hkeep (hall i hc hc').2⟩
    · have : i = es.size := by simp at hi; omega
      subst this
      rw [Array.getElem_push_eq, List.getElem_append_right (by omega)]
      simp only [hl, Nat.sub_self, List.getElem_cons_zero]
      exact ⟨trivial, hkeep r3'⟩
  · have hjs : j < es.size := by simpa using (List.getElem?_eq_some_iff.1 h2).1
    have hej : es[j] = en := by have := (List.getElem?_eq_some_iff.1 h2).2; simpa using this
    have hrun : (Instr.mapUpdate t (.map (some b)) key (a.eval v)).run cx.P w = .ok () { w with heap := w.heap.setIfInBounds b (.map (es.modify j fun e => { e with key := key, val := a.eval v }) clock) } := by
      have h0 : ((es[j]?).map (·.key)).getD key = key := by rw [Array.getElem?_eq_getElem hjs, hej]; simp [h3]
      simp only [Instr.mapUpdate, run_underlying ht, Sem.run_bind, Result.andThen_ok, MapKept.run_getObj_map hh, K.check w _ hkl, h1, h0, K.stays w hkl, MapKept.run_setObj_map _ hh]
    rw [Sem.run_bind, hrun]
    refine ⟨by rw [hdst]; rfl, fun e2 hr2 => ⟨F, ρ, hr2.writeOb hblk hmem hB hF setObj_turn ?_⟩⟩
    have hjl : j < M.length := by omega
    have hkj : M[j].1 = key := by rw [← (hall j hjs hjl).1, hej]; exact h3
    have hM' : M' = M.set j (key, d) := by
      rcases hp with ⟨i, d0, hi, hu, hM'⟩ | ⟨hno, _⟩
      · have := hu j M[j] (List.getElem?_eq_getElem hjl) hkj
        rw [this]; exact hM'
      · exact absurd hkj (hno _ (List.getElem_mem hjl))
    have hkeep : ∀ {u : Value} {y : D}, Rep F w u y → Rep F { w with heap := w.heap.setIfInBounds b (.map (es.modify j fun e => { e with key := key, val := a.eval v }) clock) } u y := fun h => h.mono (fun _ h => h) fun c hc => by
      have : b ≠ c := fun h => hF (by rw [h]; exact hc)
      simp [this]
    subst hM'
    refine ⟨b, _, _, hρ, hB, hF, (MapKept.heap_set hh).1, by simp [hl], fun i hi hi' => ?_⟩
    have hc : i < es.size := by simpa using hi
    have hc' : i < M.length := by omega
    rw [Array.getElem_modify, List.getElem_set]
    by_cases hij : j = i
    · rw [if_pos hij, if_pos hij]
      exact ⟨rfl, hkeep r3'⟩
    · rw [if_neg hij, if_neg hij]
      exact ⟨(hall i hc hc').1, hkeep (hall i hc hc').2⟩
/-- make(map[K]V) -/
theorem AOp.lookupK {x ix : Operand} {t k et : TypeId} {id : Nat} {M : List (Value × D)} {key z k1 k2 : Value} {d : D}  (ho : o.op = .lookup t x ix false) (ht : P.underlying t = some (.map k et)) (K : Maps.Keyed P k) (hz : (P.info? et).bind (·.zero) = some z) (hx : e.ev x = .own id) (hm : (id, Ob.map M) ∈ σ)
    (hi : e.ev ix = .d (.agg [.v k1, .v k2])) (hke : key = .agg #[k1, k2]) (hg : ∃ l, keyOf P k key = some l) (hgs : ∀ p ∈ M, ∃ l, keyOf P k p.1 = some l) (hd : MGet M key (.v z) d) : AOp P B ops o e σ (.d d) := .value fun F ρ w a hF hr hσ => by
  have h1 := hr x (by rw [ho]; simp [Op.operands])
  have h2 := hr ix (by rw [ho]; simp [Op.operands])
  rw [hx] at h1
  rw [hi] at h2
  have hxv := (rep_agg2 (repS_d h2)).trans hke.symm
  obtain ⟨b, es, clock, hρ, hB, hFb, hh, hl, hall⟩ := hσ.ok _ hm
  dsimp only at hρ
  have hv : a.eval x = .map (some b) := by rw [← hρ]; generalize a.eval x = u at h1; cases h1; rfl
  have hks : ∀ en ∈ es.toList, ∃ l, keyOf P k en.key = some l := fun en hen => by
    obtain ⟨j, hj⟩ := List.mem_iff_getElem?.1 hen
    obtain ⟨p, h1, h2, _⟩ := entries_get hl hall hj
    rw [h2]; exact hgs p (List.mem_of_getElem? h1)
  obtain ⟨kl, hkl⟩ := hg
  obtain ⟨ti, hti, hzz⟩ := Option.bind_eq_some_iff.1 hz
  have hprog : (program : Sem Program).run P w = .ok P w := rfl
  rcases K.find w hkl es.toList hks with ⟨h3, h4⟩ | ⟨j, en, h3, h4, h5⟩
  · refine ⟨z, F, w, ?_, ?_, Ext.refl hF⟩
    · unfold execOp
      simp only [ho, hv, hxv, Sem.run_bind]
      simp [Instr.lookup, run_underlying ht, MapKept.run_getObj_map hh, K.check w _ hkl, h3, zeroValue, typeInfo, hti, hzz, Result.andThen]
    · rcases hd with ⟨i, hi2, _⟩ | ⟨_, rfl⟩
      · exfalso
        have hil : i < M.length := (List.getElem?_eq_some_iff.1 hi2).1
        have h6 := (hall i (by omega) hil).1
        rw [(List.getElem?_eq_some_iff.1 hi2).2] at h6
        exact h4 es[i] (by simp) h6
      · exact .d (.v _)
  · have hjs : j < es.size := by simpa using (List.getElem?_eq_some_iff.1 h4).1
    have hej : es[j] = en := by have := (List.getElem?_eq_some_iff.1 h4).2; simpa using this
    have hjl : j < M.length := by omega
    refine ⟨en.val, F, w, ?_, ?_, Ext.refl hF⟩
    · unfold execOp
      simp only [ho, hv, hxv, Sem.run_bind]
      simp [Instr.lookup, run_underlying ht, MapKept.run_getObj_map hh, K.check w _ hkl, h3, Result.andThen]
    · have hkj : M[j].1 = key := by rw [← (hall j hjs hjl).1, hej]; exact h5
      rcases hd with ⟨i, hi2, hu⟩ | ⟨hno, _⟩
      · have := hu j M[j] (List.getElem?_eq_getElem hjl) hkj
        subst this
        have h6 := (hall j hjs hjl).2
        rw [(List.getElem?_eq_some_iff.1 hi2).2, hej] at h6
        exact .d h6
      · exact absurd hkj (hno _ (List.getElem_mem hjl))

theorem AOp.lookupOkK {x ix : Operand} {t k et : TypeId} {id : Nat} {M : List (Value × D)} {key z k1 k2 : Value} {d : D}  (ho : o.op = .lookup t x ix true) (ht : P.underlying t = some (.map k et)) (K : Maps.Keyed P k) (hz : (P.info? et).bind (·.zero) = some z) (hx : e.ev x = .own id) (hm : (id, Ob.map M) ∈ σ)
    (hi : e.ev ix = .d (.agg [.v k1, .v k2])) (hke : key = .agg #[k1, k2]) (hg : ∃ l, keyOf P k key = some l) (hgs : ∀ p ∈ M, ∃ l, keyOf P k p.1 = some l) (ok : Bool) (hd : MGetOk M key (.v z) d ok) : AOp P B ops o e σ (.d (.tup [d, .v (.bool ok)])) := .value fun F ρ w a hF hr hσ => by
  have h1 := hr x (by rw [ho]; simp [Op.operands])
  have h2 := hr ix (by rw [ho]; simp [Op.operands])
  rw [hx] at h1
  rw [hi] at h2
  have hxv := (rep_agg2 (repS_d h2)).trans hke.symm
  obtain ⟨b, es, clock, hρ, hB, hFb, hh, hl, hall⟩ := hσ.ok _ hm
  dsimp only at hρ
  have hv : a.eval x = .map (some b) := by rw [← hρ]; generalize a.eval x = u at h1; cases h1; rfl
  have hks : ∀ en ∈ es.toList, ∃ l, keyOf P k en.key = some l := fun en hen => by
    obtain ⟨j, hj⟩ := List.mem_iff_getElem?.1 hen
    obtain ⟨p, h1, h2, _⟩ := entries_get hl hall hj
    rw [h2]; exact hgs p (List.mem_of_getElem? h1)
  obtain ⟨kl, hkl⟩ := hg
  obtain ⟨ti, hti, hzz⟩ := Option.bind_eq_some_iff.1 hz
  have hprog : (program : Sem Program).run P w = .ok P w := rfl
  rcases K.find w hkl es.toList hks with ⟨h3, h4⟩ | ⟨j, en, h3, h4, h5⟩
  · refine ⟨.tuple #[z, .bool false], F, w, ?_, ?_, Ext.refl hF⟩
    · unfold execOp
      simp only [ho, hv, hxv, Sem.run_bind]
      simp [Instr.lookup, run_underlying ht, MapKept.run_getObj_map hh, K.check w _ hkl, h3, zeroValue, typeInfo, hti, hzz, Result.andThen]
    · rcases hd with ⟨_, i, hi2, _⟩ | ⟨hok, _, rfl⟩
      · exfalso
        have hil : i < M.length := (List.getElem?_eq_some_iff.1 hi2).1
        have h6 := (hall i (by omega) hil).1
        rw [(List.getElem?_eq_some_iff.1 hi2).2] at h6
        exact h4 es[i] (by simp) h6
      · subst hok
        exact .d (.tup [_, _] [_, _] rfl (fun i a b => by
          match i, a with
          | 0, _ => exact .v _
          | 1, _ => exact .v _))
  · have hjs : j < es.size := by simpa using (List.getElem?_eq_some_iff.1 h4).1
    have hej : es[j] = en := by have := (List.getElem?_eq_some_iff.1 h4).2; simpa using this
    have hjl : j < M.length := by omega
    refine ⟨.tuple #[en.val, .bool true], F, w, ?_, ?_, Ext.refl hF⟩
    · unfold execOp
      simp only [ho, hv, hxv, Sem.run_bind]
      simp [Instr.lookup, run_underlying ht, MapKept.run_getObj_map hh, K.check w _ hkl, h3, Result.andThen]
    · have hkj : M[j].1 = key := by rw [← (hall j hjs hjl).1, hej]; exact h5
      rcases hd with ⟨hok, i, hi2, hu⟩ | ⟨_, hno, _⟩
      · have := hu j M[j] (List.getElem?_eq_getElem hjl) hkj
        subst this
        have h6 := (hall j hjs hjl).2
        rw [(List.getElem?_eq_some_iff.1 hi2).2, hej] at h6
        subst hok
        exact .d (.tup [_, _] [_, _] rfl (fun i a b => by
          match i, a with
          | 0, _ => exact h6
          | 1, _ => exact .v _))
      · exact absurd hkj (hno _ (List.getElem_mem hjl))

end
end Go.Proofs.YtfajemnegkfigaaDoor


namespace Go.Proofs.YtfajemnegkfigaaDoor
open Go.RowKit
set_option linter.unusedVariables false

/-! Types. -/
namespace TyM7

end TyM7
open TyM7


theorem krow : (120 : TypeId) < Tryd.prog.types.size := of_decide_eq_true (by kernel_rfl)
theorem kwide : (match Tryd.prog.underlying 120 with | some (.array _ _) | some (.struct _) => true | _ => false) = true := by kernel_rfl
theorem klaid : laidOutB Tryd.prog = true := by kernel_rfl
set_option maxRecDepth 100000 in
theorem kroot : Maps.Keyed Tryd.prog 120 := Maps.Keyed.of_law (deep_law_laid klaid (m := 3) (by omega) krow (by kernel_rfl) kwide)
def keyV (k : ByteArray × Int) : Value := .agg #[.string k.1, .int .i64 k.2]
def isStrT (o : Option TypeDesc) : Bool := match o with
  | some .string => true
  | _ => false
def isI64T (o : Option TypeDesc) : Bool := match o with
  | some (.int .i64) => true
  | _ => false
theorem isStrT_eq {o : Option TypeDesc} (h : isStrT o = true) : o = some .string := by
  unfold isStrT at h
  split at h
  · rfl
  · cases h
theorem isI64T_eq {o : Option TypeDesc} (h : isI64T o = true) : o = some (.int .i64) := by
  unfold isI64T at h
  split at h
  · rfl
  · cases h
def keyB (P : Program) (k : TypeId) : Bool := match P.underlying k with
  | some (.struct fs) => (match fs.toList with
    | [f, g] => f.name != "_" && g.name != "_" && f.offset == 0 && g.offset == 1 && isStrT (P.underlying f.type) && isI64T (P.underlying g.type) && P.cellsOf f.type == 1 && P.cellsOf g.type == 1
    | _ => false) && P.cellsOf k == 2
  | _ => false
theorem keyB_ok {P : Program} {k : TypeId} (h : keyB P k = true) (hk : P.keyType k = true) (h0 : k < P.types.size) (s : ByteArray) (n : Int) (hs : s.size ≤ maxLen) (hn : (Lit.int .i64 n).wf = true) : ∃ l, keyOf P k (.agg #[.string s, .int .i64 n]) = some l := by
  unfold keyB at h
  cases hu : P.underlying k with
  | none => rw [hu] at h; cases h
  | some td =>
    rw [hu] at h
    cases td <;> try (cases h; done)
    rename_i fs
    simp only [Bool.and_eq_true] at h
    obtain ⟨h1, h2⟩ := h
    cases hf : fs.toList with
    | nil => rw [hf] at h1; cases h1
    | cons f r =>
      cases r with
      | nil => rw [hf] at h1; cases h1
      | cons g r =>
        cases r with
        | cons _ _ => rw [hf] at h1; cases h1
        | nil =>
          rw [hf] at h1
          simp only [Bool.and_eq_true, beq_iff_eq] at h1 h2
          obtain ⟨⟨⟨⟨⟨⟨⟨a1, a2⟩, a3⟩, a4⟩, a5⟩, a6⟩, a7⟩, a8⟩ := h1
          have a5' := isStrT_eq a5
          have a6' := isI64T_eq a6
          obtain ⟨m, hm⟩ : ∃ m, P.types.size = m + 1 := ⟨P.types.size - 1, (Nat.sub_add_cancel (Nat.lt_of_le_of_lt (Nat.zero_le k) h0)).symm⟩
          have hall : fs.all (·.name != "_") = true := by
            rw [← Array.all_toList, hf]
            simp only [List.all_cons, List.all_nil, a1, a2, Bool.and_self]
          unfold keyOf
          rw [hu]
          simp only [hk, Value.formed, hu, h2, Bool.true_and]
          refine ⟨.string (keyBytes [.string s.data.toList, .int .i64 n]), ?_⟩
          have kf : P.keyLits (m + 1) f.type [.string s] = some [.string s.data.toList] := by
            unfold Program.keyLits
            rw [a5']
            simp [hs]
          have kg : P.keyLits (m + 1) g.type [.int .i64 n] = some [.int .i64 n] := by
            unfold Program.keyLits
            rw [a6']
            simp [hn]
          have c1 : (([Value.string s, .int .i64 n] : List Value).drop f.offset).take (P.cellsOf f.type) = [.string s] := by rw [a3, a7]; rfl
          have c2 : (([Value.string s, .int .i64 n] : List Value).drop g.offset).take (P.cellsOf g.type) = [.int .i64 n] := by rw [a4, a8]; rfl
          have hk2 : P.keyLits (m + 1 + 1) k [.string s, .int .i64 n] = some [.string s.data.toList, .int .i64 n] := by
            unfold Program.keyLits
            rw [hu]
            simp only [List.length_cons, List.length_nil, h2, hall, and_self, if_true, hf, List.mapM_cons, List.mapM_nil, c1, c2, kf, kg]
            rfl
          simp [Value.cells, hm, hk2]
theorem keyV_ok (k : ByteArray × Int) (hs : k.1.size ≤ maxLen) (hn : -9223372036854775808 ≤ k.2 ∧ k.2 ≤ 9223372036854775807) : ∃ l, keyOf Tryd.prog 120 (keyV k) = some l :=
  keyB_ok (by kernel_rfl) (by kernel_rfl) krow k.1 k.2 hs (by
    have h1 : IntKind.i64.min = -9223372036854775808 := by decide
    have h2 : IntKind.i64.max = 9223372036854775807 := by decide
    simp only [Lit.wf, Bool.and_eq_true, decide_eq_true_eq, h1, h2]
    exact hn)
/-! ## A map by its keys -/
abbrev KL := List ((ByteArray × Int) × Int)
def encKL (L : KL) : List (Value × D) := L.map fun p => (keyV p.1, .v (.int .i64 p.2))
theorem keyV_inj {a b : ByteArray × Int} (h : keyV a = keyV b) : a = b := by
  unfold keyV at h
  simp only [Value.agg.injEq] at h
  have h2 : [Value.string a.1, .int .i64 a.2] = [.string b.1, .int .i64 b.2] := congrArg Array.toList h
  simp at h2
  exact Prod.ext h2.1 h2.2
def hasL (L : KL) (k : ByteArray × Int) : Bool := L.any fun p => decide (p.1 = k)
def getL (L : KL) (k : ByteArray × Int) : Int := ((L.find? fun p => decide (p.1 = k)).map (·.2)).getD 0
def putL (L : KL) (k : ByteArray × Int) (v : Int) : KL := if hasL L k = true then L.map (fun p => if p.1 = k then (k, v) else p) else L ++ [(k, v)]
def Nk (L : KL) : Prop := L.Pairwise fun p q => p.1 ≠ q.1
theorem hasL_iff {L : KL} {k : ByteArray × Int} : hasL L k = true ↔ ∃ p ∈ L, p.1 = k := by
  unfold hasL
  rw [List.any_eq_true]
  constructor
  · rintro ⟨p, h1, h2⟩; exact ⟨p, h1, of_decide_eq_true h2⟩
  · rintro ⟨p, h1, h2⟩; exact ⟨p, h1, decide_eq_true h2⟩
theorem putL_nk {L : KL} (h : Nk L) (k : ByteArray × Int) (v : Int) : Nk (putL L k v) := by
  unfold putL
  by_cases hh : hasL L k = true
  · rw [if_pos hh]
    unfold Nk
    rw [List.pairwise_map]
    refine h.imp fun {p q} hpq => ?_
    by_cases h1 : p.1 = k <;> by_cases h2 : q.1 = k
    · exact absurd (h1.trans h2.symm) hpq
    · rw [if_pos h1, if_neg h2]; exact fun e => h2 e.symm
    · rw [if_neg h1, if_pos h2]; exact h1
    · rw [if_neg h1, if_neg h2]; exact hpq
  · rw [if_neg hh]
    refine List.pairwise_append.2 ⟨h, by simp, fun p hp q hq => ?_⟩
    rw [List.mem_singleton] at hq
    subst hq
    exact fun e => hh (hasL_iff.2 ⟨p, hp, e⟩)
theorem find_map (L : KL) (k k' : ByteArray × Int) (v : Int) : ((L.map fun p => if p.1 = k then (k, v) else p).find? fun p => decide (p.1 = k')) = (L.find? fun p => decide (p.1 = k')).map fun p => if p.1 = k then (k, v) else p := by
  induction L with
  | nil => rfl
  | cons p L ih =>
    rw [List.map_cons, List.find?_cons, List.find?_cons]
    have e : (if p.1 = k then (k, v) else p).1 = p.1 := by
      by_cases h : p.1 = k
      · rw [if_pos h]; exact h.symm
      · rw [if_neg h]
    rw [e]
    by_cases h : p.1 = k'
    · simp [h]
    · simp only [h, decide_false]; exact ih
theorem get_put (L : KL) (k : ByteArray × Int) (v : Int) (k' : ByteArray × Int) : getL (putL L k v) k' = if k' = k then v else getL L k' := by
  unfold getL putL
  by_cases hh : hasL L k = true
  · rw [if_pos hh, find_map]
    obtain ⟨p, hp, hk⟩ := hasL_iff.1 hh
    by_cases h : k' = k
    · subst h
      rw [if_pos rfl]
      cases hf : L.find? fun p => decide (p.1 = k') with
      | none =>
        have := List.find?_eq_none.1 hf p hp
        simp [hk] at this
      | some q =>
        have := List.find?_some hf
        simp only [decide_eq_true_eq] at this
        simp [this]
    · rw [if_neg h]
      cases hf : L.find? fun p => decide (p.1 = k') with
      | none => rfl
      | some q =>
        have := List.find?_some hf
        simp only [decide_eq_true_eq] at this
        have h2 : ¬ q.1 = k := fun e => h (this.symm.trans e)
        simp [h2]
  · rw [if_neg hh, List.find?_append]
    by_cases h : k' = k
    · subst h
      rw [if_pos rfl]
      cases hf : L.find? fun p => decide (p.1 = k') with
      | none => simp
      | some q =>
        have h2 := List.find?_some hf
        simp only [decide_eq_true_eq] at h2
        exact absurd (hasL_iff.2 ⟨q, List.mem_of_find?_eq_some hf, h2⟩) hh
    · rw [if_neg h]
      cases hf : L.find? fun p => decide (p.1 = k') with
      | none => simp [Ne.symm h]
      | some q => simp
theorem has_put (L : KL) (k : ByteArray × Int) (v : Int) (k' : ByteArray × Int) : hasL (putL L k v) k' = (decide (k' = k) || hasL L k') := by
  rw [Bool.eq_iff_iff, hasL_iff, Bool.or_eq_true, decide_eq_true_eq, hasL_iff]
  unfold putL
  by_cases hh : hasL L k = true
  · rw [if_pos hh]
    obtain ⟨p0, hp0, hk0⟩ := hasL_iff.1 hh
    constructor
    · rintro ⟨p, hp, rfl⟩
      obtain ⟨q, hq, rfl⟩ := List.mem_map.1 hp
      by_cases h : q.1 = k
      · rw [if_pos h]; exact .inl rfl
      · rw [if_neg h]; exact .inr ⟨q, hq, rfl⟩
    · rintro (rfl | ⟨q, hq, rfl⟩)
      · exact ⟨(k', v), List.mem_map.2 ⟨p0, hp0, by rw [if_pos hk0]⟩, rfl⟩
      · by_cases h : q.1 = k
        · exact ⟨(k, v), List.mem_map.2 ⟨q, hq, by rw [if_pos h]⟩, h.symm⟩
        · exact ⟨q, List.mem_map.2 ⟨q, hq, by rw [if_neg h]⟩, rfl⟩
  · rw [if_neg hh]
    constructor
    · rintro ⟨p, hp, rfl⟩
      rw [List.mem_append, List.mem_singleton] at hp
      rcases hp with hp | rfl
      · exact .inr ⟨p, hp, rfl⟩
      · exact .inl rfl
    · rintro (rfl | ⟨q, hq, rfl⟩)
      · exact ⟨(k', v), List.mem_append.2 (.inr (by simp)), rfl⟩
      · exact ⟨q, List.mem_append.2 (.inl hq), rfl⟩
theorem nk_one {L : KL} (h : Nk L) {i j : Nat} (hi : i < L.length) (hj : j < L.length) (he : L[j].1 = L[i].1) : j = i := by
  rcases Nat.lt_trichotomy i j with h1 | h1 | h1
  · exact absurd he.symm (List.pairwise_iff_getElem.1 h i j hi hj h1)
  · exact h1.symm
  · exact absurd he (List.pairwise_iff_getElem.1 h j i hj hi h1)
theorem enc_at {L : KL} {j : Nat} {p : Value × D} (h : (encKL L)[j]? = some p) : ∃ hj : j < L.length, p = (keyV L[j].1, .v (.int .i64 L[j].2)) := by
  unfold encKL at h
  rw [List.getElem?_map] at h
  cases h2 : L[j]? with
  | none => rw [h2] at h; cases h
  | some q =>
    rw [h2] at h
    obtain ⟨hj, rfl⟩ := List.getElem?_eq_some_iff.1 h2
    exact ⟨hj, (Option.some.inj h).symm⟩
theorem enc_one {L : KL} (h : Nk L) {i : Nat} (hi : i < L.length) : ∀ (j : Nat) (p : Value × D), (encKL L)[j]? = some p → p.1 = keyV L[i].1 → j = i := fun j p hp he => by
  obtain ⟨hj, rfl⟩ := enc_at hp
  exact nk_one h hi hj (keyV_inj he)
theorem enc_no {L : KL} {k : ByteArray × Int} (h : ¬ hasL L k = true) : ∀ p ∈ encKL L, p.1 ≠ keyV k := fun p hp e => by
  unfold encKL at hp
  obtain ⟨q, hq, rfl⟩ := List.mem_map.1 hp
  exact h (hasL_iff.2 ⟨q, hq, keyV_inj e⟩)
theorem getL_at {L : KL} (h : Nk L) {i : Nat} (hi : i < L.length) : getL L L[i].1 = L[i].2 := by
  unfold getL
  cases hf : L.find? fun p => decide (p.1 = L[i].1) with
  | none =>
    have := List.find?_eq_none.1 hf _ (List.getElem_mem hi)
    simp at this
  | some q =>
    have h2 := List.find?_some hf
    simp only [decide_eq_true_eq] at h2
    obtain ⟨j, hj, rfl⟩ := List.mem_iff_getElem.1 (List.mem_of_find?_eq_some hf)
    have := nk_one h hi hj h2
    subst this
    rfl
theorem getL_no {L : KL} {k : ByteArray × Int} (h : ¬ hasL L k = true) : getL L k = 0 := by
  unfold getL
  cases hf : L.find? fun p => decide (p.1 = k) with
  | none => rfl
  | some q =>
    have h2 := List.find?_some hf
    simp only [decide_eq_true_eq] at h2
    exact absurd (hasL_iff.2 ⟨q, List.mem_of_find?_eq_some hf, h2⟩) h
theorem mput_enc {L : KL} (h : Nk L) (k : ByteArray × Int) (v : Int) : MPut (encKL L) (keyV k) (.v (.int .i64 v)) (encKL (putL L k v)) := by
  by_cases hh : hasL L k = true
  · obtain ⟨p, hp, rfl⟩ := hasL_iff.1 hh
    obtain ⟨i, hi, rfl⟩ := List.mem_iff_getElem.1 hp
    refine .inl ⟨i, .v (.int .i64 L[i].2), ?_, enc_one h hi, ?_⟩
    · unfold encKL; rw [List.getElem?_map, List.getElem?_eq_getElem hi]; rfl
    · unfold putL
      rw [if_pos hh]
      apply List.ext_getElem
      · simp [encKL]
      · intro j h1 h2
        have hj : j < L.length := by simpa [encKL] using h1
        rw [List.getElem_set]
        simp only [encKL, List.getElem_map]
        by_cases he : i = j
        · subst he; simp
        · have : ¬ L[j].1 = L[i].1 := fun e => he (nk_one h hi hj e).symm
          rw [if_neg he, if_neg this]
  · refine .inr ⟨enc_no hh, ?_⟩
    unfold putL
    rw [if_neg hh]
    simp [encKL]
theorem mget_enc {L : KL} (h : Nk L) (k : ByteArray × Int) : MGet (encKL L) (keyV k) (.v (.int .i64 0)) (.v (.int .i64 (getL L k))) := by
  by_cases hh : hasL L k = true
  · obtain ⟨p, hp, rfl⟩ := hasL_iff.1 hh
    obtain ⟨i, hi, rfl⟩ := List.mem_iff_getElem.1 hp
    refine .inl ⟨i, ?_, enc_one h hi⟩
    unfold encKL; rw [List.getElem?_map, List.getElem?_eq_getElem hi, getL_at h hi]; rfl
  · exact .inr ⟨enc_no hh, by rw [getL_no hh]⟩
theorem mgetok_enc {L : KL} (h : Nk L) (k : ByteArray × Int) : MGetOk (encKL L) (keyV k) (.v (.int .i64 0)) (.v (.int .i64 (getL L k))) (hasL L k) := by
  by_cases hh : hasL L k = true
  · obtain ⟨p, hp, hk⟩ := hasL_iff.1 hh
    obtain ⟨i, hi, rfl⟩ := List.mem_iff_getElem.1 hp
    subst hk
    refine .inl ⟨hh, i, ?_, enc_one h hi⟩
    unfold encKL; rw [List.getElem?_map, List.getElem?_eq_getElem hi, getL_at h hi]; rfl
  · exact .inr ⟨by simpa using hh, enc_no hh, by rw [getL_no hh]⟩


end Go.Proofs.YtfajemnegkfigaaDoor


namespace Go.Proofs.YtfajemnegkfigaaDoor
open Go.RowKit
set_option linter.unusedVariables false

/-! Types. -/
namespace TyM8
theorem ag_48 : AggT Tryd.prog 48 5 := .of (by kernel_rfl)
theorem bu_120 : StructT Tryd.prog 120 (fun i => (#[(0, 1), (1, 1)] : Array (Nat × Nat))[i]?) [(.string ⟨#[]⟩), (.int .i64 0)] := .of (by kernel_rfl) (by kernel_rfl) (by decide)
theorem et_40 : ElemTy Tryd.prog 40 48 5 64 (.agg #[(.string ⟨#[]⟩), (.int .i64 0), (.int .i64 0), (.int .i64 0), (.slice none 0 0)]) := ⟨by kernel_rfl, by kernel_rfl, by kernel_rfl, by decide⟩
theorem fo_48_0 : fieldOff Tryd.prog 48 0 = some 0 := by kernel_rfl
theorem fo_48_1 : fieldOff Tryd.prog 48 1 = some 1 := by kernel_rfl
theorem fo_48_3 : fieldOff Tryd.prog 48 3 = some 3 := by kernel_rfl
theorem sc_3 : Scal Tryd.prog 3 := .of (by kernel_rfl)
theorem sc_9 : Scal Tryd.prog 9 := .of (by kernel_rfl)
theorem sz_48 : ∀ w, (sizeOf 48).run Tryd.prog w = .ok 5 w := SizeT.of (by kernel_rfl)
theorem zt_48 : (Tryd.prog.info? 48).bind (·.zero) = some (.agg #[(.string ⟨#[]⟩), (.int .i64 0), (.int .i64 0), (.int .i64 0), (.slice none 0 0)]) := by kernel_rfl
end TyM8
open TyM8


def rk (R : KL) (x : Rpt) : Int := if 0 < x.corrects then (if hasL R (x.source, x.corrects) = true then getL R (x.source, x.corrects) else x.corrects) else x.no
def stepV (s : KL × KL) (x : Rpt) : KL × KL := (putL s.1 (x.source, x.no) (rk s.1 x), putL s.2 (x.source, rk s.1 x) x.no)
def stV (l : List Rpt) (k : Nat) : KL × KL := (l.take k).foldl stepV ([], [])
theorem stV_next {l : List Rpt} {k : Nat} (hk : k < l.length) : stV l (k + 1) = stepV (stV l k) l[k] := by
  unfold stV
  rw [List.take_add_one, List.getElem?_eq_getElem hk, Option.toList_some, List.foldl_append]; rfl
def rootR (l : List Rpt) (x : Rpt) : Int := getL (stV l l.length).1 (x.source, x.no)
def cntB (l : List Rpt) (x : Rpt) : Bool := decide (getL (stV l l.length).2 (x.source, rootR l x) = x.no)
/-- The reports that count. -/
def validR (l : List Rpt) : List Rpt := l.filter (cntB l)
def valR (l : List Rpt) : List Rpt := if logF l = 0 then validR l else []
/-- What may be a key. -/
def KyO (k : ByteArray × Int) : Prop := k.1.size ≤ maxLen ∧ -9223372036854775808 ≤ k.2 ∧ k.2 ≤ 9223372036854775807
structure InvV (s : KL × KL) : Prop where
  n1 : Nk s.1
  n2 : Nk s.2
  k1 : ∀ p ∈ s.1, KyO p.1 ∧ 0 ≤ p.2 ∧ p.2 ≤ 1000000
  k2 : ∀ p ∈ s.2, KyO p.1
theorem putL_mem {L : KL} {k : ByteArray × Int} {v : Int} {p : (ByteArray × Int) × Int} (h : p ∈ putL L k v) : p = (k, v) ∨ p ∈ L := by
  unfold putL at h
  by_cases hh : hasL L k = true
  · rw [if_pos hh] at h
    obtain ⟨q, hq, rfl⟩ := List.mem_map.1 h
    by_cases h2 : q.1 = k
    · rw [if_pos h2]; exact .inl rfl
    · rw [if_neg h2]; exact .inr hq
  · rw [if_neg hh, List.mem_append, List.mem_singleton] at h
    exact h.elim .inr .inl
theorem getL_bound {L : KL} (h : ∀ p ∈ L, KyO p.1 ∧ 0 ≤ p.2 ∧ p.2 ≤ 1000000) (k : ByteArray × Int) : 0 ≤ getL L k ∧ getL L k ≤ 1000000 := by
  unfold getL
  cases hf : L.find? fun p => decide (p.1 = k) with
  | none => simp
  | some q => have := h q (List.mem_of_find?_eq_some hf); exact this.2
theorem rpt_rng {x : Rpt} (h : rptF x = 0) : (1 ≤ x.no ∧ x.no ≤ 1000000) ∧ 0 ≤ x.corrects ∧ x.corrects ≤ x.no - 1 := by
  unfold rptF at h
  split at h
  · omega
  · split at h
    · omega
    · rename_i h2
      have := Decidable.not_not.1 h2
      exact ⟨this.1, this.2.2⟩
theorem rk_bound {s : KL × KL} (hI : InvV s) {x : Rpt} (h : rptF x = 0) : 0 ≤ rk s.1 x ∧ rk s.1 x ≤ 1000000 := by
  have h1 := rpt_rng h
  unfold rk
  split
  · split
    · exact getL_bound hI.k1 _
    · omega
  · omega
theorem kyo {x : Rpt} (ho : okRpt x) {n : Int} (h : 0 ≤ n ∧ n ≤ 1000000) : KyO (x.source, n) := ⟨ho.1, show -9223372036854775808 ≤ n by omega, show n ≤ 9223372036854775807 by omega⟩
theorem InvV.step {s : KL × KL} (hI : InvV s) {x : Rpt} (h : rptF x = 0) (ho : okRpt x) : InvV (stepV s x) := by
  have h1 := rpt_rng h
  have h2 := rk_bound hI h
  refine ⟨putL_nk hI.n1 _ _, putL_nk hI.n2 _ _, fun p hp => ?_, fun p hp => ?_⟩
  · rcases putL_mem hp with rfl | hp
    · exact ⟨kyo ho (by omega), h2⟩
    · exact hI.k1 p hp
  · rcases putL_mem hp with rfl | hp
    · exact kyo ho h2
    · exact hI.k2 p hp
theorem inv_st {l : List Rpt} (hl : Log l) (ho : ∀ x ∈ l, okRpt x) : ∀ k, k ≤ l.length → InvV (stV l k)
  | 0, _ => ⟨List.Pairwise.nil, List.Pairwise.nil, fun p hp => absurd hp List.not_mem_nil, fun p hp => absurd hp List.not_mem_nil⟩
  | k + 1, hk => by
    rw [stV_next (by omega)]
    exact (inv_st hl ho k (by omega)).step (hl.ok _ (List.getElem_mem _)) (ho _ (List.getElem_mem _))
theorem enc_ok {L : KL} (h : ∀ p ∈ L, KyO p.1) : ∀ p ∈ encKL L, ∃ l, keyOf Tryd.prog 120 p.1 = some l := fun p hp => by
  unfold encKL at hp
  obtain ⟨q, hq, rfl⟩ := List.mem_map.1 hp
  exact keyV_ok q.1 (h q hq).1 (h q hq).2
theorem InvV.e1 {s : KL × KL} (h : InvV s) : ∀ p ∈ encKL s.1, ∃ l, keyOf Tryd.prog 120 p.1 = some l := enc_ok fun p hp => (h.k1 p hp).1
theorem InvV.e2 {s : KL × KL} (h : InvV s) : ∀ p ∈ encKL s.2, ∃ l, keyOf Tryd.prog 120 p.1 = some l := enc_ok h.k2
theorem mtV : Tryd.prog.underlying 118 = some (.map 120 3) := by kernel_rfl
theorem ztV : (Tryd.prog.info? 3).bind (·.zero) = some (.int .i64 0) := by kernel_rfl
theorem maps_2 {i j : Nat} {a b c d : List (Value × D)} {τ : Obs} (h1 : a = b) (h2 : c = d) : ∀ p ∈ [(i, Ob.map b), (j, Ob.map d)], p ∈ (i, Ob.map a) :: (j, Ob.map c) :: τ := fun p hp => by
  subst h1; subst h2
  rcases List.mem_cons.1 hp with rfl | hp
  · exact .head _
  · rw [List.mem_singleton] at hp; subst hp; exact .tail _ (.head _)
theorem row_maps {i j m e s : Nat} {r r' : List (List D)} {a b : Ob} {τ : Obs} (h : r = r') : ∀ p ∈ [(m, Ob.row e s r'), (i, a), (j, b)], p ∈ (m, Ob.row e s r) :: (i, a) :: (j, b) :: τ := fun p hp => by
  subst h
  rcases List.mem_cons.1 hp with rfl | hp
  · exact .head _
  · rcases List.mem_cons.1 hp with rfl | hp
    · exact .tail _ (.head _)
    · rw [List.mem_singleton] at hp; subst hp; exact .tail _ (.tail _ (.head _))
theorem fil_yes {l : List Rpt} {p : Rpt → Bool} {k : Nat} (hk : k < l.length) (h : p l[k] = true) : ((l.take (k + 1)).filter p).map Rpt.ds = ((l.take k).filter p).map Rpt.ds ++ [l[k].ds] := by
  rw [List.take_add_one, List.getElem?_eq_getElem hk, Option.toList_some, List.filter_append, List.filter_cons, List.filter_nil, if_pos h, List.map_append]; rfl
theorem fil_no {l : List Rpt} {p : Rpt → Bool} {k : Nat} (hk : k < l.length) (h : p l[k] = false) : (l.take (k + 1)).filter p = (l.take k).filter p := by
  rw [List.take_add_one, List.getElem?_eq_getElem hk, Option.toList_some, List.filter_append, List.filter_cons, List.filter_nil, if_neg (by rw [h]; simp), List.append_nil]
theorem fil_len (l : List Rpt) (p : Rpt → Bool) (k : Nat) : ((l.take k).filter p).length ≤ k := Nat.le_trans (List.length_filter_le _ _) (by rw [List.length_take]; omega)


set_option maxRecDepth 100000 in
set_option maxHeartbeats 4000000 in
theorem c_pVal (l : List Rpt) (hl : Log l) (ho : ∀ x ∈ l, okRpt x) : ACall Tryd.prog 57 [.sl (l.map Rpt.ds)] (.sl ((validR l).map Rpt.ds)) := by
  refine acall_of (n := 82) (ds' := [.sl ((validR l).map Rpt.ds)]) Tryd.func57 rfl (by kernel_rfl) rfl [2] rfl rfl ?_
  intro B w0 F0 fr
  have hll := hl.len
  refine AWP.seq (AWP.region ?_)
  refine AOps.aD rfl rfl rfl rfl rfl (.nil ?_)
  refine AWP.seq (AWP.region ?_)
  refine AOps.makeMap 91 rfl rfl rfl rfl rfl ?_
  refine AOps.step rfl rfl rfl (AOp.assignO rfl rfl) (.nil ?_)
  refine AWP.seq (AWP.region ?_)
  refine AOps.makeMap 92 rfl rfl rfl rfl rfl ?_
  refine AOps.step rfl rfl rfl (AOp.assignO rfl rfl) (.nil ?_)
  refine AWP.seq ?_
  refine AWP.seq (AWP.region ?_)
  refine AOps.mD rfl rfl rfl rfl rfl ?_
  refine AOps.step rfl rfl rfl (AOp.lenSl rfl et_40.ht rfl) ?_
  refine AOps.mD rfl rfl rfl rfl rfl (.nil ?_)
  refine AWP.block ?_
  refine AWP.loop (G := Nat) (fun k => Env.of [(17, .d (.v (.int .i64 (k : Int)))), (15, .d (.sl (l.map Rpt.ds))), (16, .d (.v (.int .i64 ((l.map Rpt.ds).length : Int)))), (0, .d (.sl (l.map Rpt.ds))), (3, .own 91), (4, .own 92)]) (fun k => [(92, .map (encKL (stV l k).2)), (91, .map (encKL (stV l k).1))]) (fun k => k ≤ l.length) (fun k => l.length - k) 0 (Nat.zero_le _) (Sub.less ⟨(SLe.of_eq rfl), SLe.refl _, SLe.refl _, SLe.refl _, SLe.refl _, SLe.refl _, trivial⟩ (maps_2 rfl rfl)) ?_
  intro k hk
  refine AWP.seq (AWP.region ?_)
  refine AOps.step rfl rfl rfl (AOp.lss rfl rfl rfl) (.nil ?_)
  refine AWP.seq ?_
  refine AWP.cond rfl (fun h1 => ?_) (fun h1 => ?_)
  · replace h1 := of_decide_eq_true h1
    rw [List.length_map] at h1
    have hlt : k < l.length := by omega
    have hI := inv_st hl ho k (by omega)
    have hrp := hl.ok _ (List.getElem_mem hlt)
    have hok := ho _ (List.getElem_mem hlt)
    have hrg := rpt_rng hrp
    have hrb := rk_bound hI hrp
    have hk1 := keyV_ok (l[k].source, l[k].no) (kyo hok (by omega)).1 (kyo hok (by omega)).2
    have hk2 := keyV_ok (l[k].source, rk (stV l k).1 l[k]) (kyo hok hrb).1 (kyo hok hrb).2
    have hk3 := keyV_ok (l[k].source, l[k].corrects) (kyo hok (by omega)).1 (kyo hok (by omega)).2
    have HS := stV_next hlt
    refine AWP.skip ?_
    refine AWP.seq ?_
    refine AWP.block ?_
    refine AWP.seq (AWP.region ?_)
    refine AOps.step rfl rfl rfl (AOp.indexAddr rfl et_40 rfl rfl k rfl (at_lst hlt) rfl) ?_
    refine AOps.step rfl rfl rfl (AOp.loadAgg rfl ag_48 rfl rfl) ?_
    refine AOps.alloc 103 rfl rfl rfl rfl zt_48 rfl rfl rfl ?_
    refine AOps.store rfl rfl rfl sz_48 rfl (.head _) rfl rfl rfl (Nat.le_of_ble_eq_true rfl) ?_
    refine AOps.freezeCells 6 (ds := l[k].ds) rfl (.head _) (.nil ?_)
    refine AWP.seq (AWP.region ?_)
    refine AOps.step rfl rfl rfl (AOp.fieldAddr rfl fo_48_1 rfl) ?_
    refine AOps.step rfl rfl rfl (AOp.load rfl sc_3 rfl) ?_
    refine AOps.aD rfl rfl rfl rfl rfl (.nil ?_)
    refine AWP.seq ?_
    refine AWP.seq (AWP.region ?_)
    refine AOps.step rfl rfl rfl (AOp.fieldAddr rfl fo_48_3 rfl) ?_
    refine AOps.step rfl rfl rfl (AOp.load rfl sc_3 rfl) ?_
    refine AOps.step rfl rfl rfl (AOp.gtr rfl rfl rfl) (.nil ?_)
    refine AWP.cond rfl (fun h2 => ?_) (fun h2 => ?_)
    · replace h2 := of_decide_eq_true h2
      have hcp : 0 < l[k].corrects := by omega
      refine AWP.seq (AWP.region ?_)
      refine AOps.step rfl rfl rfl (AOp.fieldAddr rfl fo_48_3 rfl) ?_
      refine AOps.step rfl rfl rfl (AOp.load rfl sc_3 rfl) ?_
      refine AOps.aD rfl rfl rfl rfl rfl (.nil ?_)
      refine AWP.seq (AWP.region ?_)
      refine AOps.step rfl rfl rfl (AOp.moveO rfl rfl) ?_
      refine AOps.step rfl rfl rfl (AOp.fieldAddr rfl fo_48_0 rfl) ?_
      refine AOps.step rfl rfl rfl (AOp.load rfl sc_9 rfl) ?_
      refine AOps.step rfl rfl rfl (AOp.fieldAddr rfl fo_48_3 rfl) ?_
      refine AOps.step rfl rfl rfl (AOp.load rfl sc_3 rfl) ?_
      refine AOps.step rfl rfl rfl (AOp.build rfl bu_120 (.cons rfl rfl (.cons rfl rfl .nil)) rfl) ?_
      refine AOps.step rfl rfl rfl (AOp.lookupOkK (key := keyV (l[k].source, l[k].corrects)) (k1 := .string (l[k].source)) (k2 := .int .i64 (l[k].corrects)) rfl mtV kroot ztV rfl (.tail _ (.head _)) rfl rfl hk3 hI.e1 _ (mgetok_enc hI.n1 _)) ?_
      refine AOps.mD rfl rfl rfl rfl rfl ?_
      refine AOps.step rfl rfl rfl (AOp.extract rfl rfl rfl) ?_
      refine AOps.step rfl rfl rfl (AOp.extract rfl rfl rfl) ?_
      refine AOps.aD rfl rfl rfl rfl rfl ?_
      refine AOps.aD rfl rfl rfl rfl rfl (.nil ?_)
      refine AWP.seq (AWP.region ?_)
      refine AOps.mD rfl rfl rfl rfl rfl (.nil ?_)
      refine AWP.cond rfl (fun h3 => ?_) (fun h3 => ?_)
      · skip
        have HK : getL (stV l k).1 (l[k].source, l[k].corrects) = rk (stV l k).1 l[k] := by unfold rk; rw [if_pos hcp, if_pos h3]
        refine AWP.region ?_
        refine AOps.mD rfl rfl rfl rfl rfl ?_
        refine AOps.aD rfl rfl rfl rfl rfl (.nil ?_)
        refine AWP.seq (AWP.region ?_)
        refine AOps.step rfl rfl rfl (AOp.moveO rfl rfl) ?_
        refine AOps.step rfl rfl rfl (AOp.fieldAddr rfl fo_48_0 rfl) ?_
        refine AOps.step rfl rfl rfl (AOp.load rfl sc_9 rfl) ?_
        refine AOps.step rfl rfl rfl (AOp.fieldAddr rfl fo_48_1 rfl) ?_
        refine AOps.step rfl rfl rfl (AOp.load rfl sc_3 rfl) ?_
        refine AOps.step rfl rfl rfl (AOp.build rfl bu_120 (.cons rfl rfl (.cons rfl rfl .nil)) rfl) ?_
        refine AOps.mD rfl rfl rfl rfl rfl ?_
        refine AOps.le 46 (s' := .d (.v (.int .i64 (rk (stV l k).1 l[k])))) rfl (SLe.i64 HK) ?_
        refine AOps.eff rfl rfl (EOp.mapUpdateK (key := keyV (l[k].source, l[k].no)) (k1 := .string (l[k].source)) (k2 := .int .i64 (l[k].no)) rfl rfl mtV kroot rfl (.tail _ (.head _)) rfl rfl rfl hk1 hI.e1 (mput_enc hI.n1 _ _)) (.nil ?_)
        refine AWP.region ?_
        refine AOps.step rfl rfl rfl (AOp.moveO rfl rfl) ?_
        refine AOps.step rfl rfl rfl (AOp.fieldAddr rfl fo_48_0 rfl) ?_
        refine AOps.step rfl rfl rfl (AOp.load rfl sc_9 rfl) ?_
        refine AOps.mD rfl rfl rfl rfl rfl ?_
        refine AOps.le 50 (s' := .d (.v (.int .i64 (rk (stV l k).1 l[k])))) rfl (SLe.i64 HK) ?_
        refine AOps.step rfl rfl rfl (AOp.build rfl bu_120 (.cons rfl rfl (.cons rfl rfl .nil)) rfl) ?_
        refine AOps.step rfl rfl rfl (AOp.fieldAddr rfl fo_48_1 rfl) ?_
        refine AOps.step rfl rfl rfl (AOp.load rfl sc_3 rfl) ?_
        refine AOps.eff rfl rfl (EOp.mapUpdateK (key := keyV (l[k].source, rk (stV l k).1 l[k])) (k1 := .string (l[k].source)) (k2 := .int .i64 (rk (stV l k).1 l[k])) rfl rfl mtV kroot rfl (.head _) rfl rfl rfl hk2 hI.e2 (mput_enc hI.n2 _ _)) (.nil ?_)
        refine AWP.region ?_
        refine AOps.step rfl rfl rfl (AOp.add64 rfl rfl rfl (by omega) (by omega)) ?_
        refine AOps.mD rfl rfl rfl rfl rfl (.nil ?_)
        refine ⟨k + 1, (by omega), (by dsimp only; omega), Sub.less ⟨(SLe.of_eq rfl), SLe.refl _, SLe.refl _, SLe.refl _, SLe.refl _, SLe.refl _, trivial⟩ (maps_2 (by rw [HS]; rfl) (by rw [HS]; rfl))⟩
      have HK : l[k].corrects = rk (stV l k).1 l[k] := by unfold rk; rw [if_pos hcp, if_neg (by rw [h3]; simp)]
      refine AWP.skip ?_
      refine AWP.seq (AWP.region ?_)
      refine AOps.step rfl rfl rfl (AOp.moveO rfl rfl) ?_
      refine AOps.step rfl rfl rfl (AOp.fieldAddr rfl fo_48_0 rfl) ?_
      refine AOps.step rfl rfl rfl (AOp.load rfl sc_9 rfl) ?_
      refine AOps.step rfl rfl rfl (AOp.fieldAddr rfl fo_48_1 rfl) ?_
      refine AOps.step rfl rfl rfl (AOp.load rfl sc_3 rfl) ?_
      refine AOps.step rfl rfl rfl (AOp.build rfl bu_120 (.cons rfl rfl (.cons rfl rfl .nil)) rfl) ?_
      refine AOps.mD rfl rfl rfl rfl rfl ?_
      refine AOps.le 46 (s' := .d (.v (.int .i64 (rk (stV l k).1 l[k])))) rfl (SLe.i64 HK) ?_
      refine AOps.eff rfl rfl (EOp.mapUpdateK (key := keyV (l[k].source, l[k].no)) (k1 := .string (l[k].source)) (k2 := .int .i64 (l[k].no)) rfl rfl mtV kroot rfl (.tail _ (.head _)) rfl rfl rfl hk1 hI.e1 (mput_enc hI.n1 _ _)) (.nil ?_)
      refine AWP.region ?_
      refine AOps.step rfl rfl rfl (AOp.moveO rfl rfl) ?_
      refine AOps.step rfl rfl rfl (AOp.fieldAddr rfl fo_48_0 rfl) ?_
      refine AOps.step rfl rfl rfl (AOp.load rfl sc_9 rfl) ?_
      refine AOps.mD rfl rfl rfl rfl rfl ?_
      refine AOps.le 50 (s' := .d (.v (.int .i64 (rk (stV l k).1 l[k])))) rfl (SLe.i64 HK) ?_
      refine AOps.step rfl rfl rfl (AOp.build rfl bu_120 (.cons rfl rfl (.cons rfl rfl .nil)) rfl) ?_
      refine AOps.step rfl rfl rfl (AOp.fieldAddr rfl fo_48_1 rfl) ?_
      refine AOps.step rfl rfl rfl (AOp.load rfl sc_3 rfl) ?_
      refine AOps.eff rfl rfl (EOp.mapUpdateK (key := keyV (l[k].source, rk (stV l k).1 l[k])) (k1 := .string (l[k].source)) (k2 := .int .i64 (rk (stV l k).1 l[k])) rfl rfl mtV kroot rfl (.head _) rfl rfl rfl hk2 hI.e2 (mput_enc hI.n2 _ _)) (.nil ?_)
      refine AWP.region ?_
      refine AOps.step rfl rfl rfl (AOp.add64 rfl rfl rfl (by omega) (by omega)) ?_
      refine AOps.mD rfl rfl rfl rfl rfl (.nil ?_)
      refine ⟨k + 1, (by omega), (by dsimp only; omega), Sub.less ⟨(SLe.of_eq rfl), SLe.refl _, SLe.refl _, SLe.refl _, SLe.refl _, SLe.refl _, trivial⟩ (maps_2 (by rw [HS]; rfl) (by rw [HS]; rfl))⟩
    replace h2 := of_decide_eq_false h2
    have HK : l[k].no = rk (stV l k).1 l[k] := by unfold rk; rw [if_neg (by omega)]
    refine AWP.skip ?_
    refine AWP.seq (AWP.region ?_)
    refine AOps.step rfl rfl rfl (AOp.moveO rfl rfl) ?_
    refine AOps.step rfl rfl rfl (AOp.fieldAddr rfl fo_48_0 rfl) ?_
    refine AOps.step rfl rfl rfl (AOp.load rfl sc_9 rfl) ?_
    refine AOps.step rfl rfl rfl (AOp.fieldAddr rfl fo_48_1 rfl) ?_
    refine AOps.step rfl rfl rfl (AOp.load rfl sc_3 rfl) ?_
    refine AOps.step rfl rfl rfl (AOp.build rfl bu_120 (.cons rfl rfl (.cons rfl rfl .nil)) rfl) ?_
    refine AOps.mD rfl rfl rfl rfl rfl ?_
    refine AOps.le 46 (s' := .d (.v (.int .i64 (rk (stV l k).1 l[k])))) rfl (SLe.i64 HK) ?_
    refine AOps.eff rfl rfl (EOp.mapUpdateK (key := keyV (l[k].source, l[k].no)) (k1 := .string (l[k].source)) (k2 := .int .i64 (l[k].no)) rfl rfl mtV kroot rfl (.tail _ (.head _)) rfl rfl rfl hk1 hI.e1 (mput_enc hI.n1 _ _)) (.nil ?_)
    refine AWP.region ?_
    refine AOps.step rfl rfl rfl (AOp.moveO rfl rfl) ?_
    refine AOps.step rfl rfl rfl (AOp.fieldAddr rfl fo_48_0 rfl) ?_
    refine AOps.step rfl rfl rfl (AOp.load rfl sc_9 rfl) ?_
    refine AOps.mD rfl rfl rfl rfl rfl ?_
    refine AOps.le 50 (s' := .d (.v (.int .i64 (rk (stV l k).1 l[k])))) rfl (SLe.i64 HK) ?_
    refine AOps.step rfl rfl rfl (AOp.build rfl bu_120 (.cons rfl rfl (.cons rfl rfl .nil)) rfl) ?_
    refine AOps.step rfl rfl rfl (AOp.fieldAddr rfl fo_48_1 rfl) ?_
    refine AOps.step rfl rfl rfl (AOp.load rfl sc_3 rfl) ?_
    refine AOps.eff rfl rfl (EOp.mapUpdateK (key := keyV (l[k].source, rk (stV l k).1 l[k])) (k1 := .string (l[k].source)) (k2 := .int .i64 (rk (stV l k).1 l[k])) rfl rfl mtV kroot rfl (.head _) rfl rfl rfl hk2 hI.e2 (mput_enc hI.n2 _ _)) (.nil ?_)
    refine AWP.region ?_
    refine AOps.step rfl rfl rfl (AOp.add64 rfl rfl rfl (by omega) (by omega)) ?_
    refine AOps.mD rfl rfl rfl rfl rfl (.nil ?_)
    refine ⟨k + 1, (by omega), (by dsimp only; omega), Sub.less ⟨(SLe.of_eq rfl), SLe.refl _, SLe.refl _, SLe.refl _, SLe.refl _, SLe.refl _, trivial⟩ (maps_2 (by rw [HS]; rfl) (by rw [HS]; rfl))⟩
  replace h1 := of_decide_eq_false h1
  rw [List.length_map] at h1
  obtain rfl : k = l.length := by omega
  have hI := inv_st hl ho l.length (Nat.le_refl _)
  refine AWP.exit ?_
  refine AWP.seq (AWP.region ?_)
  refine AOps.aD rfl rfl rfl rfl rfl (.nil ?_)
  refine AWP.seq ?_
  refine AWP.seq (AWP.region ?_)
  refine AOps.mD rfl rfl rfl rfl rfl ?_
  refine AOps.step rfl rfl rfl (AOp.lenSl rfl et_40.ht rfl) ?_
  refine AOps.mD rfl rfl rfl rfl rfl (.nil ?_)
  refine AWP.block ?_
  refine AWP.adopt 10 61 48 5 rfl rfl ?_
  refine AWP.loop (G := Nat) (fun j => Env.of [(57, .d (.v (.int .i64 (j : Int)))), (55, .d (.sl (l.map Rpt.ds))), (56, .d (.v (.int .i64 ((l.map Rpt.ds).length : Int)))), (3, .own 91), (4, .own 92), (10, .own 61)]) (fun j => [(61, .row 48 5 (((l.take j).filter (cntB l)).map Rpt.ds)), (92, .map (encKL (stV l l.length).2)), (91, .map (encKL (stV l l.length).1))]) (fun j => j ≤ l.length) (fun j => l.length - j) 0 (Nat.zero_le _) (Sub.less ⟨(SLe.of_eq rfl), SLe.refl _, SLe.refl _, SLe.refl _, SLe.refl _, SLe.refl _, trivial⟩ (row_maps rfl)) ?_
  intro j hj
  refine AWP.seq (AWP.region ?_)
  refine AOps.step rfl rfl rfl (AOp.lss rfl rfl rfl) (.nil ?_)
  refine AWP.seq ?_
  refine AWP.cond rfl (fun h4 => ?_) (fun h4 => ?_)
  · replace h4 := of_decide_eq_true h4
    rw [List.length_map] at h4
    have hjl : j < l.length := by omega
    have hrp := hl.ok _ (List.getElem_mem hjl)
    have hok := ho _ (List.getElem_mem hjl)
    have hrg := rpt_rng hrp
    have hk1 := keyV_ok (l[j].source, l[j].no) (kyo hok (by omega)).1 (kyo hok (by omega)).2
    have hgb := getL_bound hI.k1 (l[j].source, l[j].no)
    have hk2 := keyV_ok (l[j].source, getL (stV l l.length).1 (l[j].source, l[j].no)) (kyo hok hgb).1 (kyo hok hgb).2
    have hfl := fil_len l (cntB l) j
    refine AWP.skip ?_
    refine AWP.seq ?_
    refine AWP.block ?_
    refine AWP.seq (AWP.region ?_)
    refine AOps.step rfl rfl rfl (AOp.indexAddr rfl et_40 rfl rfl j rfl (at_lst hjl) rfl) ?_
    refine AOps.step rfl rfl rfl (AOp.loadAgg rfl ag_48 rfl rfl) ?_
    refine AOps.alloc 104 rfl rfl rfl rfl zt_48 rfl rfl rfl ?_
    refine AOps.store rfl rfl rfl sz_48 rfl (.head _) rfl rfl rfl (Nat.le_of_ble_eq_true rfl) ?_
    refine AOps.freezeCells 12 (ds := l[j].ds) rfl (.head _) (.nil ?_)
    refine AWP.seq ?_
    refine AWP.draw (by kernel_rfl) (by kernel_rfl) ?_
    refine DRun.step rfl rfl rfl (AOp.moveO rfl rfl) ?_
    refine DRun.step rfl rfl rfl (AOp.fieldAddr rfl fo_48_0 rfl) ?_
    refine DRun.step rfl rfl rfl (AOp.load rfl sc_9 rfl) ?_
    refine DRun.step rfl rfl rfl (AOp.moveO rfl rfl) ?_
    refine DRun.step rfl rfl rfl (AOp.fieldAddr rfl fo_48_0 rfl) ?_
    refine DRun.step rfl rfl rfl (AOp.load rfl sc_9 rfl) ?_
    refine DRun.step rfl rfl rfl (AOp.fieldAddr rfl fo_48_1 rfl) ?_
    refine DRun.step rfl rfl rfl (AOp.load rfl sc_3 rfl) ?_
    refine DRun.step rfl rfl rfl (AOp.build rfl bu_120 (.cons rfl rfl (.cons rfl rfl .nil)) rfl) ?_
    refine DRun.step rfl rfl rfl (AOp.lookupK (key := keyV (l[j].source, l[j].no)) (k1 := .string (l[j].source)) (k2 := .int .i64 (l[j].no)) rfl mtV kroot ztV rfl (.tail _ (.tail _ (.head _))) rfl rfl hk1 hI.e1 (mget_enc hI.n1 _)) ?_
    refine DRun.step rfl rfl rfl (AOp.build rfl bu_120 (.cons rfl rfl (.cons rfl rfl .nil)) rfl) ?_
    refine DRun.step rfl rfl rfl (AOp.lookupK (key := keyV (l[j].source, getL (stV l l.length).1 (l[j].source, l[j].no))) (k1 := .string (l[j].source)) (k2 := .int .i64 (getL (stV l l.length).1 (l[j].source, l[j].no))) rfl mtV kroot ztV rfl (.tail _ (.head _)) rfl rfl hk2 hI.e2 (mget_enc hI.n2 _)) ?_
    refine DRun.step rfl rfl rfl (AOp.fieldAddr rfl fo_48_1 rfl) ?_
    refine DRun.step rfl rfl rfl (AOp.load rfl sc_3 rfl) ?_
    refine DRun.step rfl rfl rfl (AOp.eql rfl rfl rfl) ?_
    refine DRun.nil ?_
    refine AWP.cond rfl (fun h5 => ?_) (fun h5 => ?_)
    · replace h5 := of_decide_eq_true h5
      have HN := fil_yes hjl (show cntB l l[j] = true from decide_eq_true h5)
      refine AWP.region ?_
      refine AOps.step rfl rfl rfl (AOp.moveO rfl rfl) ?_
      refine AOps.step rfl rfl rfl (AOp.loadAgg rfl ag_48 rfl rfl) ?_
      refine AOps.step rfl rfl rfl (AOp.buildSlice rfl et_40 (.cons rfl rfl rfl .nil) rfl (by decide)) ?_
      -- append 79
      refine AOps.append rfl rfl rfl rfl et_40 rfl (.head _) rfl (fun y hy => by obtain rfl := List.mem_singleton.1 hy; rfl) (by simp; omega) (by simp; omega) ?_
      refine AOps.step rfl rfl rfl (AOp.assignO rfl rfl) (.nil ?_)
      refine AWP.region ?_
      refine AOps.step rfl rfl rfl (AOp.add64 rfl rfl rfl (by omega) (by omega)) ?_
      refine AOps.mD rfl rfl rfl rfl rfl (.nil ?_)
      refine ⟨j + 1, (by dsimp only; omega), (by dsimp only; omega), Sub.less ⟨(SLe.of_eq rfl), SLe.refl _, SLe.refl _, SLe.refl _, SLe.refl _, SLe.refl _, trivial⟩ (row_maps (by rw [HN]; first | done | rfl))⟩
    replace h5 := of_decide_eq_false h5
    have HN := fil_no hjl (show cntB l l[j] = false from decide_eq_false h5)
    refine AWP.skip ?_
    refine AWP.region ?_
    refine AOps.step rfl rfl rfl (AOp.add64 rfl rfl rfl (by omega) (by omega)) ?_
    refine AOps.mD rfl rfl rfl rfl rfl (.nil ?_)
    refine ⟨j + 1, (by dsimp only; omega), (by dsimp only; omega), Sub.less ⟨(SLe.of_eq rfl), SLe.refl _, SLe.refl _, SLe.refl _, SLe.refl _, SLe.refl _, trivial⟩ (row_maps (by rw [HN]; first | done | rfl))⟩
  replace h4 := of_decide_eq_false h4
  rw [List.length_map] at h4
  obtain rfl : j = l.length := by omega
  rw [List.take_length]
  refine AWP.exit ?_
  refine AWP.seq (AWP.region ?_)
  refine AOps.step rfl rfl rfl (AOp.moveO rfl rfl) ?_
  refine AOps.step rfl rfl rfl (AOp.assignO rfl rfl) (.nil ?_)
  refine AWP.ret ?_
  refine ⟨RetD.own rfl (.head _) ?_, trivial⟩
  all_goals (rfl)

end Go.Proofs.YtfajemnegkfigaaDoor


namespace Go.Proofs.YtfajemnegkfigaaDoor
open Go.RowKit
set_option linter.unusedVariables false

/-! Types. -/
namespace TyM9

end TyM9
open TyM9


theorem gd {l : List Rpt} {j : Nat} (h : j < l.length) : l.getD j default = l[j] := by rw [List.getD_eq_getElem?_getD, List.getElem?_eq_getElem h]; rfl
/-- Does x correct y? -/
def mtB (x y : Rpt) : Bool := decide (y.source = x.source) && decide (y.no = x.corrects)
def upTo (l : List Rpt) (x : Rpt) : Nat → Int
  | 0 => -1
  | k + 1 => if mtB x (l.getD k default) = true then (k : Int) else upTo l x k
def upX (l : List Rpt) (x : Rpt) : Int := upTo l x l.length
def rootA (l : List Rpt) : Nat → Rpt → Int
  | 0, x => x.no
  | n + 1, x => if x.corrects = 0 then x.no else if upX l x < 0 then x.corrects else rootA l n (l.getD (upX l x).toNat default)
def rootQ (l : List Rpt) (x : Rpt) : Int := rootA l (l.length + 1) x
theorem upTo_some {l : List Rpt} {x : Rpt} : ∀ k, (upTo l x k = -1 ∧ ∀ j, j < k → mtB x (l.getD j default) = false) ∨ ∃ j, j < k ∧ upTo l x k = j ∧ mtB x (l.getD j default) = true
  | 0 => .inl ⟨rfl, fun j h => by omega⟩
  | k + 1 => by
    unfold upTo
    by_cases h : mtB x (l.getD k default) = true
    · rw [if_pos h]; exact .inr ⟨k, by omega, rfl, h⟩
    · rw [if_neg h]
      rcases upTo_some k with ⟨h1, h2⟩ | ⟨j, h1, h2, h3⟩
      · refine .inl ⟨h1, fun j hj => ?_⟩
        by_cases e : j = k
        · subst e; simpa using h
        · exact h2 j (by omega)
      · exact .inr ⟨j, by omega, h2, h3⟩
theorem up_cases {l : List Rpt} (x : Rpt) : (upX l x < 0 ∧ ∀ j, (h : j < l.length) → mtB x l[j] = false) ∨ ∃ j, ∃ h : j < l.length, upX l x = j ∧ mtB x l[j] = true := by
  unfold upX
  rcases upTo_some (l := l) (x := x) l.length with ⟨h1, h2⟩ | ⟨j, h1, h2, h3⟩
  · exact .inl ⟨by omega, fun j h => by rw [← gd h]; exact h2 j h⟩
  · exact .inr ⟨j, h1, h2, by rw [← gd h1]; exact h3⟩
theorem mt_key {x y : Rpt} (h : mtB x y = true) : y.source = x.source ∧ y.no = x.corrects := by unfold mtB at h; simpa using h
theorem corr_lt {l : List Rpt} (hl : Log l) {i j : Nat} (hi : i < l.length) (hj : j < l.length) (hm : mtB l[i] l[j] = true) : j < i := by
  have h1 := mt_key hm
  have h2 := rpt_rng (hl.ok _ (List.getElem_mem hi))
  have h3 : ltR l[j] l[i] = true := (ltR_iff _ _).2 (.inr ⟨h1.1, by omega⟩)
  rcases Nat.lt_trichotomy j i with h | h | h
  · exact h
  · subst h; rw [ltR_irr] at h3; cases h3
  · have := ltR_trans h3 (List.pairwise_iff_getElem.1 hl.rise i j hi hj h)
    rw [ltR_irr] at this; cases this
theorem root_fuel {l : List Rpt} (hl : Log l) : ∀ m i, i ≤ m → (hi : i < l.length) → ∀ n, i + 1 ≤ n → rootA l n l[i] = rootA l (i + 1) l[i] := by
  intro m
  induction m with
  | zero =>
    intro i him hi n hn
    obtain ⟨n, rfl⟩ : ∃ k, n = k + 1 := ⟨n - 1, by omega⟩
    unfold rootA
    by_cases h0 : l[i].corrects = 0
    · rw [if_pos h0, if_pos h0]
    · rw [if_neg h0, if_neg h0]
      rcases up_cases (l := l) l[i] with ⟨h1, _⟩ | ⟨j, hj, h1, h2⟩
      · rw [if_pos h1, if_pos h1]
      · have := corr_lt hl hi hj h2
        omega
  | succ m ih =>
    intro i him hi n hn
    obtain ⟨n, rfl⟩ : ∃ k, n = k + 1 := ⟨n - 1, by omega⟩
    rw [rootA, rootA]
    by_cases h0 : l[i].corrects = 0
    · rw [if_pos h0, if_pos h0]
    · rw [if_neg h0, if_neg h0]
      rcases up_cases (l := l) l[i] with ⟨h1, _⟩ | ⟨j, hj, h1, h2⟩
      · rw [if_pos h1, if_pos h1]
      · have hlt := corr_lt hl hi hj h2
        rw [if_neg (by omega), if_neg (by omega), h1, Int.toNat_natCast, gd hj, ih j (by omega) hj n (by omega), ih j (by omega) hj i (by omega)]
theorem root_rec {l : List Rpt} (hl : Log l) {i : Nat} (hi : i < l.length) : (l[i].corrects = 0 ∧ rootQ l l[i] = l[i].no) ∨ (l[i].corrects ≠ 0 ∧ (∀ j, (h : j < l.length) → mtB l[i] l[j] = false) ∧ rootQ l l[i] = l[i].corrects) ∨ (l[i].corrects ≠ 0 ∧ ∃ j, ∃ h : j < l.length, j < i ∧ mtB l[i] l[j] = true ∧ rootQ l l[i] = rootQ l l[j]) := by
  by_cases h0 : l[i].corrects = 0
  · exact .inl ⟨h0, by unfold rootQ rootA; exact if_pos h0⟩
  · rcases up_cases (l := l) l[i] with ⟨h1, h2⟩ | ⟨j, hj, h1, h2⟩
    · exact .inr (.inl ⟨h0, h2, by unfold rootQ rootA; rw [if_neg h0, if_pos h1]⟩)
    · have hlt := corr_lt hl hi hj h2
      refine .inr (.inr ⟨h0, j, hj, hlt, h2, ?_⟩)
      unfold rootQ
      rw [rootA, if_neg h0, if_neg (by omega), h1, Int.toNat_natCast, gd hj, root_fuel hl j j (Nat.le_refl _) hj l.length (by omega), ← root_fuel hl j j (Nat.le_refl _) hj (l.length + 1) (by omega)]
structure StI (l : List Rpt) (k : Nat) : Prop where
  has : ∀ s n, hasL (stV l k).1 (s, n) = true ↔ ∃ j, ∃ h : j < l.length, j < k ∧ l[j].source = s ∧ l[j].no = n
  get : ∀ j, (h : j < l.length) → j < k → getL (stV l k).1 (l[j].source, l[j].no) = rootQ l l[j]
theorem rk_root {l : List Rpt} (hl : Log l) {k : Nat} (hk : k < l.length) (h : StI l k) : rk (stV l k).1 l[k] = rootQ l l[k] := by
  have hr := rpt_rng (hl.ok _ (List.getElem_mem hk))
  unfold rk
  rcases root_rec hl hk with ⟨h0, h1⟩ | ⟨h0, h1, h2⟩ | ⟨h0, j, hj, hjk, hm, h2⟩
  · rw [if_neg (by omega), h1]
  · rw [if_pos (by omega), if_neg, h2]
    intro hh
    obtain ⟨j, hj, hjk, e1, e2⟩ := (h.has _ _).1 hh
    have := h1 j hj
    unfold mtB at this
    rw [decide_eq_true e1, decide_eq_true e2] at this
    cases this
  · have hkey := mt_key hm
    rw [if_pos (by omega), if_pos ((h.has _ _).2 ⟨j, hj, hjk, hkey.1, hkey.2⟩), h2, ← h.get j hj hjk, hkey.1, hkey.2]
theorem key_one {l : List Rpt} (hl : Log l) {i j : Nat} (hi : i < l.length) (hj : j < l.length) (h1 : l[j].source = l[i].source) (h2 : l[j].no = l[i].no) : j = i := by
  have hs : sameK l[j] l[i] = true := sameK_iff.2 ⟨h1, h2⟩
  rcases Nat.lt_trichotomy i j with h | h | h
  · have := List.pairwise_iff_getElem.1 (rise_dist hl.rise) i j hi hj h
    rw [sameK_symm hs] at this; cases this
  · exact h.symm
  · have := List.pairwise_iff_getElem.1 (rise_dist hl.rise) j i hj hi h
    rw [hs] at this; cases this
theorem st_inv {l : List Rpt} (hl : Log l) : ∀ k, k ≤ l.length → StI l k
  | 0, _ => ⟨fun s n => ⟨fun h => by unfold stV hasL at h; simp at h, fun ⟨j, _, h, _⟩ => by omega⟩, fun j _ h => by omega⟩
  | k + 1, hk => by
    have ih := st_inv hl k (by omega)
    have hr := rk_root hl (show k < l.length by omega) ih
    have hs := stV_next (l := l) (k := k) (by omega)
    constructor
    · intro s n
      rw [hs]
      show hasL (putL _ _ _) _ = true ↔ _
      rw [has_put, Bool.or_eq_true, decide_eq_true_eq, ih.has]
      constructor
      · rintro (h | ⟨j, hj, h1, h2⟩)
        · have e1 := congrArg Prod.fst h
          have e2 := congrArg Prod.snd h
          exact ⟨k, by omega, by omega, e1.symm, e2.symm⟩
        · exact ⟨j, hj, by omega, h2⟩
      · rintro ⟨j, hj, h1, h2, h3⟩
        by_cases e : j = k
        · subst e; exact .inl (Prod.ext h2.symm h3.symm)
        · exact .inr ⟨j, hj, by omega, h2, h3⟩
    · intro j hj hjk
      rw [hs]
      show getL (putL _ _ _) _ = _
      rw [get_put]
      by_cases e : j = k
      · subst e; rw [if_pos rfl, hr]
      · rw [if_neg, ih.get j hj (by omega)]
        intro h
        have e1 := congrArg Prod.fst h
        have e2 := congrArg Prod.snd h
        exact e (key_one hl (show k < l.length by omega) hj e1 e2)
def sameG (l : List Rpt) (i j : Nat) : Bool := decide ((l.getD j default).source = (l.getD i default).source) && decide (rootQ l (l.getD j default) = rootQ l (l.getD i default))
theorem root_at {l : List Rpt} (hl : Log l) {i : Nat} (hi : i < l.length) : rootR l l[i] = rootQ l l[i] := (st_inv hl l.length (Nat.le_refl _)).get i hi hi
theorem last_iff {l : List Rpt} (hl : Log l) {i : Nat} (hi : i < l.length) : ∀ n, i < n → n ≤ l.length → (getL (stV l n).2 (l[i].source, rootQ l l[i]) = l[i].no ↔ ∀ j, i < j → j < n → sameG l i j = false)
  | 0, h, _ => by omega
  | n + 1, h, hn => by
    have hr := rk_root hl (show n < l.length by omega) (st_inv hl n (by omega))
    rw [stV_next (show n < l.length by omega)]
    show getL (putL _ _ _) _ = _ ↔ _
    rw [get_put, hr]
    by_cases e : i = n
    · subst e
      rw [if_pos rfl]
      exact ⟨fun _ j h1 h2 => by omega, fun _ => rfl⟩
    · have ih := last_iff hl hi n (by omega) (by omega)
      have hg : sameG l i n = (decide (l[n].source = l[i].source) && decide (rootQ l l[n] = rootQ l l[i])) := by unfold sameG; rw [gd (show n < l.length by omega), gd hi]
      by_cases h2 : (l[i].source, rootQ l l[i]) = (l[n].source, rootQ l l[n])
      · have e1 := congrArg Prod.fst h2
        have e2 := congrArg Prod.snd h2
        dsimp only at e1 e2
        rw [if_pos h2]
        constructor
        · intro h3
          exact absurd (key_one hl hi (show n < l.length by omega) e1.symm h3) (fun hh => e hh.symm)
        · intro h3
          have := h3 n (by omega) (by omega)
          rw [hg, decide_eq_true e1.symm, decide_eq_true e2.symm] at this
          cases this
      · rw [if_neg h2, ih]
        constructor
        · intro h3 j hj1 hj2
          by_cases hj : j = n
          · subst hj
            rw [hg]
            cases hb : decide (l[j].source = l[i].source) with
            | false => rfl
            | true =>
              rw [Bool.true_and]
              exact decide_eq_false fun hh => h2 (Prod.ext (of_decide_eq_true hb).symm hh.symm)
          · exact h3 j hj1 (by omega)
        · exact fun h3 j hj1 hj2 => h3 j hj1 (by omega)
def okI (l : List Rpt) (i m : Nat) : Bool := (List.range m).all fun t => !(sameG l i (i + 1 + t))
theorem cnt_ok {l : List Rpt} (hl : Log l) {i : Nat} (hi : i < l.length) : cntB l l[i] = okI l i (l.length - (i + 1)) := by
  rw [Bool.eq_iff_iff]
  unfold cntB okI
  rw [decide_eq_true_eq, root_at hl hi, last_iff hl hi l.length hi (Nat.le_refl _), List.all_eq_true]
  constructor
  · intro h t ht
    rw [h (i + 1 + t) (by omega) (by have := List.mem_range.1 ht; omega)]; rfl
  · intro h j h1 h2
    have := h (j - (i + 1)) (List.mem_range.2 (by omega))
    rw [show i + 1 + (j - (i + 1)) = j by omega] at this
    simpa using this
def outV (l : List Rpt) (k : Nat) : List Rpt := ((List.range k).filter fun i => okI l i (l.length - (i + 1))).map fun i => l.getD i default
theorem outV_yes {l : List Rpt} {k : Nat} (hk : k < l.length) (h : okI l k (l.length - (k + 1)) = true) : (outV l (k + 1)).map Rpt.ds = (outV l k).map Rpt.ds ++ [l[k].ds] := by
  unfold outV
  rw [List.range_succ, List.filter_append, List.filter_cons, List.filter_nil, if_pos h, List.map_append, List.map_append]
  show _ ++ [(l.getD k default).ds] = _
  rw [gd hk]
theorem outV_no {l : List Rpt} {k : Nat} (h : okI l k (l.length - (k + 1)) = false) : outV l (k + 1) = outV l k := by
  unfold outV
  rw [List.range_succ, List.filter_append, List.filter_cons, List.filter_nil, if_neg (by rw [h]; simp), List.append_nil]
theorem outV_len (l : List Rpt) (k : Nat) : (outV l k).length ≤ k := by
  unfold outV
  rw [List.length_map]
  refine Nat.le_trans (List.length_filter_le _ _) ?_
  simp
theorem out_to {l : List Rpt} (hl : Log l) : ∀ k, k ≤ l.length → outV l k = (l.take k).filter (cntB l)
  | 0, _ => by simp [outV]
  | k + 1, hk => by
    have ih := out_to hl k (by omega)
    have hc := cnt_ok hl (show k < l.length by omega)
    rw [List.take_add_one, List.getElem?_eq_getElem (show k < l.length by omega), Option.toList_some, List.filter_append, List.filter_cons, List.filter_nil, hc, ← ih]
    unfold outV
    rw [List.range_succ, List.filter_append, List.filter_cons, List.filter_nil, List.map_append]
    cases okI l k (l.length - (k + 1)) with
    | true => simp only [if_true, List.map_cons, List.map_nil]; rw [gd (show k < l.length by omega)]
    | false => simp
theorem out_eq {l : List Rpt} (hl : Log l) : outV l l.length = validR l := by
  rw [out_to hl _ (Nat.le_refl _), List.take_length]; rfl
theorem okI_next (l : List Rpt) (i m : Nat) : okI l i (m + 1) = (okI l i m && !(sameG l i (i + 1 + m))) := by
  unfold okI
  rw [List.range_succ, List.all_append]
  simp
theorem at_drop {l : List Rpt} {m j : Nat} (h : m + j < l.length) : ((l.drop m).map Rpt.ds)[j]? = some l[m + j].ds := by
  rw [List.getElem?_map, List.getElem?_drop, List.getElem?_eq_getElem h]; rfl


end Go.Proofs.YtfajemnegkfigaaDoor
