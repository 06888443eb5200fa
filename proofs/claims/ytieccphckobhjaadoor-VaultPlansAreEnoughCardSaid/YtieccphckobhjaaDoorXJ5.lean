/- Walks and laws over abstract values, merged by tools/merge.py. No statement of the seat. -/
import Derived.Test.YtieccphckobhjaaDoorXJ4

namespace Go.Proofs.YtieccphckobhjaaDoor
open Go.RowKit
set_option linter.unusedVariables false

/-! Types. -/
namespace TyP5

end TyP5
open TyP5


structure Hrm where
  day : Int
  item : ByteArray
  carrier : ByteArray
  block : Int
def Hrm.ds (h : Hrm) : List D := [.v (.int .i64 h.day), .v (.string h.item), .v (.string h.carrier), .v (.int .i64 h.block)]
def insI (l : List Int) (x : Int) : List Int := if hasI l x = true then l else l.take (posI l x) ++ [x] ++ l.drop (posI l x)
def harmC (l : List Cpy) (h : Hrm) : List Cpy := if hasC l (keyC h.item h.carrier) = true then l.modify (posC l (keyC h.item h.carrier)) (fun c => { c with bad := insI c.bad h.block }) else l
theorem hfo_v2 : fieldOff Tryd.prog 26 2 = some 2 := by kernel_rfl
theorem hfo_c6 : fieldOff Tryd.prog 77 6 = some 6 := by kernel_rfl
theorem hag_v : AggT Tryd.prog 26 3 := .of (by kernel_rfl)
theorem hsc_s : Scal Tryd.prog 9 := .of (by kernel_rfl)
theorem hsc_i : Scal Tryd.prog 3 := .of (by kernel_rfl)
theorem hsc_24 : Scal Tryd.prog 24 := .of (by kernel_rfl)
theorem hsc_75 : Scal Tryd.prog 75 := .of (by kernel_rfl)
theorem het_24 : ElemTy Tryd.prog 24 77 7 96 (.agg #[(.string ⟨#[]⟩), (.string ⟨#[]⟩), (.string ⟨#[]⟩), (.int .i64 0), (.int .i64 0), (.int .i64 0), (.slice none 0 0)]) := ⟨by kernel_rfl, by kernel_rfl, by kernel_rfl, by decide⟩
theorem hsz_75 : ∀ w, (sizeOf 75).run Tryd.prog w = .ok 1 w := SizeT.of (by kernel_rfl)
theorem vObs_fresh {i : Nat} {l : List Cpy} (h : i < 101) : Obs.fresh i (vObs l) = true := by
  unfold vObs Obs.fresh
  have h1 : Nat.beq 101 i = false := by rw [Bool.eq_false_iff]; intro hh; have := Nat.eq_of_beq_eq_true hh; omega
  simp [h1, famC, fam_fresh (show i < 1000 by omega)]
theorem vObs_kill {i : Nat} {l : List Cpy} (h : i < 1000) : Obs.kill i (vObs l) = vObs l := by
  unfold vObs Obs.kill
  simp only [Ob.kill, cpysS_kill h, famC, fam_kill]
def harm0 (v : Vlt) : Obs := (100, .val (vaultS v)) :: vObs v.copies
end Go.Proofs.YtieccphckobhjaaDoor


namespace Go.Proofs.YtieccphckobhjaaDoor
open Go.RowKit
set_option linter.unusedVariables false

/-! Types. -/
namespace TyP6

end TyP6
open TyP6


/-- Is block n of copy c right in another copy of the same item? -/
def fixB (l : List Cpy) (c : Cpy) (n : Int) : Bool := l.any (whole1 c n)
def stillI (l : List Cpy) (c : Cpy) : List Int := c.bad.filter fun n => !fixB l c n
structure Dn where
  day : Int
  item : ByteArray
  carrier : ByteArray
  fixed : Int
  lost : Int
def Dn.ds (d : Dn) : List D := [.v (.int .i64 d.day), .v (.string d.item), .v (.string d.carrier), .v (.int .i64 d.fixed), .v (.int .i64 d.lost)]
def doneC (l : List Cpy) (c : Cpy) (day : Int) : Dn := ⟨day, c.item, c.carrier, ((c.bad.filter (fixB l c)).length : Int), ((stillI l c).length : Int)⟩
def checkedC (l : List Cpy) (k : Nat) (day : Int) : List Cpy := l.modify k fun c => { c with bad := stillI l c, last := day }
/-- The first j damaged blocks. -/
def stillTo (l : List Cpy) (c : Cpy) (j : Nat) : List Int := (c.bad.take j).filter fun n => !fixB l c n
def fixTo (l : List Cpy) (c : Cpy) (j : Nat) : Nat := ((c.bad.take j).filter (fixB l c)).length
end Go.Proofs.YtieccphckobhjaaDoor


namespace Go.Proofs.YtieccphckobhjaaDoor
open Go.RowKit
set_option linter.unusedVariables false

/-- f returns a struct whose parts are as ss', some of them own objects; the object vid is that struct. -/
def XSCall (P : Program) (f : FuncId) (ss : List S) (σ σ' : Obs) (chg : Nat → Bool) (s : S) : Prop := Enters P f ∧
  ∀ (F : Nat → Prop) (ρ : Nat → Value) (B : Nat) (w : World) (vs : List Value), (∀ b, F b → b < w.heap.size) → B ≤ w.heap.size → ObsOk B F ρ w σ → RepSL F ρ w vs ss →
    Calls P f vs.toArray w fun e w' => ∃ v F' ρ', e = .returned v ∧ RepS F' ρ' w' v s ∧ XEnd B F ρ w σ F' ρ' w' σ' chg

theorem args_R {P : Program} {n : Nat} {ss : List S} {σ : Obs} {chg : Nat → Bool} {F : Nat → Prop} {ρ : Nat → Value} {B : Nat} {w : World} {vs : List Value} {m : Nat} (hN : m = n) (hle : ss.length ≤ n) (hF : ∀ b, F b → b < w.heap.size) (hB : B ≤ w.heap.size) (hσ : ObsOk B F ρ w σ) (hv : RepSL F ρ w vs ss) :
    R ⟨P, n, B, w, F, (fun b => w.heap.size ≤ b ∨ ownB σ ρ b), fun i => !(chg i), ρ⟩ (Env.argsS 0 ss) σ { tmps := vs.toArray ++ Array.replicate (m - vs.toArray.size) undef, defers := [] } w := by
  refine ⟨F, ρ, ?_, rfl, hF, fun b hb => hb, fun b hb => .inl hb, Kept.refl _ _, hB, fun t => ?_, hσ, fun b hb => .inl hb, fun p hp g hg => .inr ⟨p, hp, hg⟩, fun i _ => rfl⟩
  · simp [hN, hv.1]; omega
  · by_cases ht : t < ss.length
    · have := Env.argsS_get ss 0 t ht
      rw [Nat.zero_add] at this
      rw [this]
      have hvt : t < vs.length := by rw [hv.1]; exact ht
      have : (vs.toArray ++ Array.replicate (m - vs.toArray.size) undef).getD t undef = vs[t] := by
        rw [Array.getD_eq_getD_getElem?, Array.getElem?_append_left (by simpa using hvt)]
        simp [hvt]
      rw [this]
      exact hv.2 t hvt ht
    · have := Env.argsS_out ss 0 t (by omega)
      rw [Nat.zero_add] at this
      rw [this]
      exact .d (.any _)
/-- What a result in a cell comes to. -/
theorem res_cell {cx : Cx} {F : Nat → Prop} {ρ : Nat → Value} {e : Env} {σ : Obs} {a : Act} {w : World} {fn : Func} {b t size cid : Nat} {ss : List S} (h : R0 cx F ρ e σ a w) (hr : fn.results = #[.cell b t]) (hT : AggT cx.P t size) (he : e b = .ptr cid 0) (hm : (cid, Ob.cells ss) ∈ σ) (hl : ss.length = size) :
    ∃ cs : List Value, (results fn a.tmps).run cx.P w = .ok (.agg cs.toArray) w ∧ cs.length = ss.length ∧ ∀ j (h1 : j < cs.length) (h2 : j < ss.length), cs[j].oneCell' = true ∧ RepS F ρ w cs[j] ss[j] := by
  obtain ⟨g, ty, cs, k1, k2, k3, k4, k5, k6⟩ := h.obs.ok _ hm
  dsimp only at k1
  have hv : a.tmps.getD b undef = .pointer (some ⟨g, 0, none⟩) := by
    have := h.env b
    rw [he] at this
    exact ptr_at this (by rw [k1]; rfl)
  have hcells : (loadCells ⟨g, 0, none⟩ cs.length).run cx.P w = .ok cs.toArray w := run_loadCells_list w _ cs (fun j v hj => by
    rw [addr_add, cell_of_row w g (0 + j) cs.toArray ty (0, 0) k4]
    simpa using hj)
  have hn : cs.length = size := by omega
  rw [hn] at hcells
  refine ⟨cs, ?_, k5, k6⟩
  have h1 : (List.mapM (resSem a.tmps) [ResultVar.cell b t] : Sem (List Value)).run cx.P w = .ok [.agg cs.toArray] w := by
    rw [List.mapM_cons, Sem.run_bind]
    have h2 : (resSem a.tmps (.cell b t)).run cx.P w = .ok (.agg cs.toArray) w := by
      simp only [resSem, hv, asAddr, Sem.run_bind, Sem.run_pure, Result.andThen_ok, loadVar, hT.agg w, if_true, hT.size w, hcells]
    rw [h2]
    rfl
  unfold results
  rw [hr, Sem.run_bind]
  have h2 : (Array.mapM (fun r => match r with | ResultVar.tmp t => pure (a.tmps.getD t undef) | ResultVar.cell b t => do loadVar t (← asAddr (a.tmps.getD b undef))) [ResultVar.cell b t].toArray : Sem (Array Value)).run cx.P w = .ok [Value.agg cs.toArray].toArray w := by
    rw [List.mapM_toArray, Sem.run_map]
    have h4 : (List.mapM (fun r => match r with | ResultVar.tmp t => pure (a.tmps.getD t undef) | ResultVar.cell b t => do loadVar t (← asAddr (a.tmps.getD b undef))) [ResultVar.cell b t] : Sem (List Value)).run cx.P w = .ok [.agg cs.toArray] w := h1
    rw [h4]
    rfl
  exact (congrArg (fun r => Result.andThen r _) h2).trans rfl
def RetXC (b : Nat) (ds : List D) (σ' : Obs) : Post := fun ex e σ => match ex with
  | .ret => (∃ cid, e b = .ptr cid 0 ∧ (cid, Ob.cells (ds.map S.d)) ∈ σ) ∧ AllIn σ σ'
  | .normal => (∃ cid, e b = .ptr cid 0 ∧ (cid, Ob.cells (ds.map S.d)) ∈ σ) ∧ AllIn σ σ'
  | _ => False
def RetXV (b vid : Nat) (ss' : List S) (σr : Obs) : Post := fun ex e σ => match ex with
  | .ret => (∃ cid ssr, e b = .ptr cid 0 ∧ (cid, Ob.cells ssr) ∈ σ ∧ ssr.map (S.kill vid) = ss' ∧ Obs.fresh vid σr = true ∧ Obs.kill vid σr = σr) ∧ AllIn σ σr
  | .normal => (∃ cid ssr, e b = .ptr cid 0 ∧ (cid, Ob.cells ssr) ∈ σ ∧ ssr.map (S.kill vid) = ss' ∧ Obs.fresh vid σr = true ∧ Obs.kill vid σr = σr) ∧ AllIn σ σr
  | _ => False
/-- Its result: a struct with own parts, out of a cell. -/
theorem xval_of {P : Program} {f : FuncId} {fn : Func} {c : Code} {n b t size vid : Nat} {ss ss' : List S} {σ σr : Obs} {chg : Nat → Bool} (hf : P.funcs[f]? = some fn) (hb : fn.body = some c) (hn : (fn.name == "runtime.NumGoroutine") = false) (hN : fn.ntmps = n)
    (hr : fn.results = #[.cell b t]) (hT : AggT P t size) (hl : ss'.length = size) (hle' : Nat.ble ss.length n = true) (hvid : chg vid = true)
    (h : ∀ B w0 F0 fr ρ0, AWP ⟨P, n, B, w0, F0, fr, fun i => !(chg i), ρ0⟩ c (Env.argsS 0 ss) σ (RetXV b vid ss' σr)) : XSCall P f ss σ ((vid, .val ss') :: σr) chg (.own vid) := by
  have hle : ss.length ≤ n := Nat.le_of_ble_eq_true hle'
  refine ⟨Enters.of hf hn (by rw [hb]; rfl), fun F ρ B w vs hF hB hσ hv => ?_⟩
  refine calls_of_wp hf hb ?_
  refine wp_mono (h _ _ _ _ _ _ _ (args_R hN hle hF hB hσ hv)) ?_
  rintro ex a w' ⟨e', σe, hq, F', ρ', hr'⟩
  have hends : (∃ cid ssr, e' b = .ptr cid 0 ∧ (cid, Ob.cells ssr) ∈ σe ∧ ssr.map (S.kill vid) = ss' ∧ Obs.fresh vid σr = true ∧ Obs.kill vid σr = σr) ∧ AllIn σe σr →
      bodyPost P fn (fun e w' => ∃ v F' ρ', e = .returned v ∧ RepS F' ρ' w' v (.own vid) ∧ XEnd B F ρ w σ F' ρ' w' ((vid, .val ss') :: σr) chg) .ret a w' := by
    rintro ⟨⟨cid, ssr, h1, h2, h3, h4, h5⟩, hin⟩
    have hin := hin.mem
    have hls : ssr.length = size := by rw [← hl, ← h3]; simp
    obtain ⟨cs, k1, k2, k3⟩ := res_cell hr' hr hT h1 h2 hls
    have hT := hr'.turn (ρ' := fun j => if j = vid then .agg cs.toArray else ρ' j) (id := vid) (ob := .val ss') (row := none) (w' := w') (F' := F') (fun j hj => by simp [hj])
      ⟨rfl, rfl, rfl, Nat.le_refl _, fun _ _ _ => rfl⟩ (by unfold Cx.free; dsimp only; rw [hvid]; rfl) (fun g hg => by simp at hg) (fun b hb => hb) (fun b hb => .inl hb) hr'.lt
      ⟨cs, by simp, by rw [← h3]; simpa using k2, fun j hj hj' => by
        subst h3
        rw [List.getElem_map]
        have hj2 : j < ssr.length := by simpa using hj'
        exact ⟨(k3 j hj hj2).1, (k3 j hj hj2).2.kill vid (fun i hi => by simp [hi])⟩⟩ (fun g hg => by simp [blk] at hg) ((vid, .val ss') :: σr) (fun p hp => by
        rcases List.mem_cons.1 hp with rfl | hp
        · exact .inl rfl
        · rw [← h5] at hp
          obtain ⟨q, hq, rfl⟩ := Obs.mem_kill hp
          exact .inr ⟨q, hin q hq, Obs.fresh_spec h4 q hq, rfl⟩)
    refine ⟨hr'.defers, _, k1, _, F', _, rfl, ?_, hT.base, hT.new, hT.lt, hT.below, hT.obs, hT.kown, fun i hi => hT.fixed i (by show (!(chg i)) = true; rw [hi]; rfl)⟩
    have := RepS.own (F := F') (ρ := fun j => if j = vid then Value.agg cs.toArray else ρ' j) (w := w') vid
    simpa using this
  cases ex with
  | ret => exact hends hq
  | normal => exact hends hq
  | exit id => exact hq.elim
  | goto l => exact hq.elim
  | panic c => exact hq.elim
  | outgrown => exact hq.elim
section
variable {cx : Cx} {ops : Array Oper} {o : Oper} {rest : List Oper} {e : Env} {σ : Obs} {Q : Post}
theorem AOps.callXS {f : FuncId} {xs : List Operand} {ts : Array TypeId} {ss : List S} {σc σ' : Obs} {chg : Nat → Bool} {s : S} (hg : o.guard = none) (hd : DstOk cx.N o)
    (ho : o.op = .call { callee := .value (.func f), args := xs.toArray, argTypes := ts }) (ha : ArgsS e xs ss) (h : XSCall cx.P f ss σc σ' chg s) (hin : AllIn σ σc)
    (h1 : Obs.allIds (fun i => !(chg i)) (Obs.dels σc σ) = true) (h2 : Obs.allIds (fun i => Obs.allIds (fun j => !(Nat.beq i j)) (Obs.dels σc σ)) σ' = true) (h3 : ∀ i, chg i = true → cx.fixp i = false)
    (k : AOps cx ops rest ((e.killP chg).put o.dst s) (Obs.join σ' (Obs.killP chg (Obs.dels σc σ))) Q) : AOps cx ops (o :: rest) e σ Q := by
  intro a w ⟨F, ρ, hr⟩
  have h4 := h.2 F ρ cx.B w _ hr.lt hr.hB (hr.obs.sub hin.mem) (ArgsS.rep hr.env ha)
  have h5 := h.1 (xs.map a.eval).toArray w
  have hx : (execOp a.eval o).run cx.P w = .ok (.enter f (xs.map a.eval).toArray) w := by
    unfold execOp
    simp only [ho, resolve, Deferred.ofValue, Act.eval, invoke, Sem.run_bind, Sem.run_pure, Result.andThen_ok]
    simpa using h5
  refine wpList_plain hg fun K hK => ?_
  unfold Oper.wp
  rw [hx]
  refine h4.mono fun _ w' ⟨v, F', ρ', he, hv, hE⟩ => ?_
  subst he
  exact hK _ _ (k _ _ ⟨F', ρ', (hr.after hin.mem hE h1 h2 h3).put (Ext.refl hE.lt) hv hd⟩)
end
end Go.Proofs.YtieccphckobhjaaDoor


namespace Go.Proofs.YtieccphckobhjaaDoor
open Go.RowKit
set_option linter.unusedVariables false

/-- One step; sl: who reads objects, ef: who writes them. -/
def HStep (cx : Cx) (ops : Array Oper) (sl ef : Nat → Bool) (I : Obs → Prop) (k : Nat) (o : Oper) (e : Env) (σ : Obs) (e' : Env) (σ' : Obs) : Prop :=
  (GW ops o e true ∧ ∃ s, ((sl k = true ∧ AOp cx.P cx.B ops o e σ s) ∨ (I σ ∧ ∀ τ, I τ → AOp cx.P cx.B ops o e τ s)) ∧ e' = e.put o.dst s ∧ σ' = σ) ∨
  (GW ops o e false ∧ e' = e.put o.dst (.d (.v undef)) ∧ σ' = σ) ∨
  (GW ops o e true ∧ ef k = true ∧ o.dst = none ∧ EOp cx ops o e σ σ' ∧ e' = e ∧ I σ ∧ I σ')

def HRun (cx : Cx) (ops : Array Oper) (sl ef : Nat → Bool) (I : Obs → Prop) : Nat → List Oper → Env → Obs → (Env → Obs → Prop) → Prop
  | _, [], e, σ, Q => Q e σ
  | k, o :: l, e, σ, Q => DstOk cx.N o ∧ ∃ e' σ', HStep cx ops sl ef I k o e σ e' σ' ∧ HRun cx ops sl ef I (k + 1) l e' σ' Q

def anyH (cx : Cx) (ops : Array Oper) (sl ef : Nat → Bool) (I : Obs → Prop) (Q : Env → Obs → Prop) : Nat → Array Bool → Env → Obs → Prop
  | 0, listed, e, σ => Region.ready .any ops listed = [] ∧ Q e σ
  | fuel + 1, listed, e, σ => (Region.ready .any ops listed = [] → Q e σ) ∧
      ∀ i ∈ Region.ready .any ops listed, ∀ o, ops[i]? = some o → ∃ e' σ', HStep cx ops sl ef I i o e σ e' σ' ∧ anyH cx ops sl ef I Q fuel (listed.setIfInBounds i true) e' σ'

section
variable {cx : Cx} {ops : Array Oper} {o : Oper} {rest : List Oper} {e : Env} {σ : Obs} {sl ef : Nat → Bool} {I : Obs → Prop} {n : Nat} {l : List Oper} {Q : Env → Obs → Prop}
end
end Go.Proofs.YtieccphckobhjaaDoor


namespace Go.Proofs.YtieccphckobhjaaDoor
open Go.RowKit
set_option linter.unusedVariables false

/-! Types. -/
namespace TyQ5

end TyQ5
open TyQ5


def vId (i : Nat) : Bool := Nat.blt i 1000 && !(Nat.beq i 101)
theorem vId_lt {i : Nat} (h : vId i = true) : i < 1000 ∧ Nat.beq 101 i = false := by
  unfold vId at h
  simp only [Bool.and_eq_true, Nat.blt_eq, Bool.not_eq_true'] at h
  refine ⟨h.1, ?_⟩
  rw [Bool.eq_false_iff]
  intro hh
  have := Nat.eq_of_beq_eq_true hh
  subst this
  simp at h
section
variable {l : List Cpy} {i : Nat} {o : Ob} {pre : Obs}
theorem vk (h : vId i = true) : Obs.kill i (vObs l) = vObs l := vObs_kill (vId_lt h).1
theorem vu (h : vId i = true) : Obs.upd i o (vObs l) = vObs l := by
  unfold vObs Obs.upd
  dsimp only
  rw [(vId_lt h).2]
  unfold famC
  rw [fam_upd_low (vId_lt h).1]
theorem vf (h : vId i = true) : Obs.fresh i (vObs l) = true := by
  unfold vObs Obs.fresh
  rw [(vId_lt h).2]
  simp [famC, fam_fresh (vId_lt h).1]
theorem kill_app : ∀ (a b : Obs), Obs.kill i (a ++ b) = Obs.kill i a ++ Obs.kill i b
  | [], _ => rfl
  | p :: a, b => by
    show (p.1, p.2.kill i) :: Obs.kill i (a ++ b) = _
    rw [kill_app a b]; rfl
theorem upd_t {p : Nat × Ob} {l : Obs} (h : Nat.beq p.1 i = true) : Obs.upd i o (p :: l) = (i, o) :: Obs.upd i o l := by
  show (match Nat.beq p.1 i with | true => (i, o) :: Obs.upd i o l | false => p :: Obs.upd i o l) = _
  rw [h]
theorem upd_f {p : Nat × Ob} {l : Obs} (h : Nat.beq p.1 i = false) : Obs.upd i o (p :: l) = p :: Obs.upd i o l := by
  show (match Nat.beq p.1 i with | true => (i, o) :: Obs.upd i o l | false => p :: Obs.upd i o l) = _
  rw [h]
theorem upd_app : ∀ (a b : Obs), Obs.upd i o (a ++ b) = Obs.upd i o a ++ Obs.upd i o b
  | [], _ => rfl
  | p :: a, b => by
    rw [List.cons_append]
    cases hb : Nat.beq p.1 i with
    | true => rw [upd_t hb, upd_t hb, upd_app a b]; rfl
    | false => rw [upd_f hb, upd_f hb, upd_app a b]; rfl
theorem fresh_app : ∀ (a b : Obs), Obs.fresh i (a ++ b) = (Obs.fresh i a && Obs.fresh i b)
  | [], _ => by simp [Obs.fresh]
  | p :: a, b => by
    show (!(Nat.beq p.1 i) && Obs.fresh i (a ++ b)) = ((!(Nat.beq p.1 i) && Obs.fresh i a) && Obs.fresh i b)
    rw [fresh_app a b, Bool.and_assoc]
theorem fK (h : vId i = true) (hp : Obs.fresh i pre = true) : Obs.fresh i (pre ++ vObs l) = true := by rw [fresh_app, hp, vf h]; rfl
end
section
variable {cx : Cx} {ops : Array Oper} {rest : List Oper} {e : Env} {Q : Post} {l : List Cpy} {i : Nat} {ob : Ob} {pre : Obs} {Φ : List Fr} {c : Code}
theorem AOps.nK (h : vId i = true) (k : AOps cx ops rest e (((i, ob) :: Obs.kill i pre) ++ vObs l) Q) : AOps cx ops rest e ((i, ob) :: Obs.kill i (pre ++ vObs l)) Q := by rw [kill_app, vk h]; exact k
theorem AOps.nU (h : vId i = true) (k : AOps cx ops rest e (Obs.upd i ob pre ++ vObs l) Q) : AOps cx ops rest e (Obs.upd i ob (pre ++ vObs l)) Q := by rw [upd_app, vu h]; exact k
end
theorem beqF {a b : Nat} (h : a ≠ b) : Nat.beq a b = false := by rw [Bool.eq_false_iff]; exact fun hh => h (Nat.eq_of_beq_eq_true hh)
section
variable {cx : Cx} {ops : Array Oper} {rest : List Oper} {e : Env} {Q : Post} {l : List Cpy} {o x : Ob} {pre : Obs}
end
end Go.Proofs.YtieccphckobhjaaDoor


namespace Go.Proofs.YtieccphckobhjaaDoor
open Go.RowKit
set_option linter.unusedVariables false

/-! Types. -/
namespace TyQ6
theorem et_24 : ElemTy Tryd.prog 24 77 7 96 (.agg #[(.string ⟨#[]⟩), (.string ⟨#[]⟩), (.string ⟨#[]⟩), (.int .i64 0), (.int .i64 0), (.int .i64 0), (.slice none 0 0)]) := ⟨by kernel_rfl, by kernel_rfl, by kernel_rfl, by decide⟩
theorem et_75 : ElemTy Tryd.prog 75 3 1 8 (.int .i64 0) := ⟨by kernel_rfl, by kernel_rfl, by kernel_rfl, by decide⟩
theorem fo_26_2 : fieldOff Tryd.prog 26 2 = some 2 := by kernel_rfl
theorem fo_77_0 : fieldOff Tryd.prog 77 0 = some 0 := by kernel_rfl
theorem fo_77_1 : fieldOff Tryd.prog 77 1 = some 1 := by kernel_rfl
theorem fo_77_4 : fieldOff Tryd.prog 77 4 = some 4 := by kernel_rfl
theorem fo_77_6 : fieldOff Tryd.prog 77 6 = some 6 := by kernel_rfl
theorem sc_24 : Scal Tryd.prog 24 := .of (by kernel_rfl)
theorem sc_3 : Scal Tryd.prog 3 := .of (by kernel_rfl)
theorem sc_75 : Scal Tryd.prog 75 := .of (by kernel_rfl)
theorem sc_9 : Scal Tryd.prog 9 := .of (by kernel_rfl)
theorem sz_3 : ∀ w, (sizeOf 3).run Tryd.prog w = .ok 1 w := SizeT.of (by kernel_rfl)
theorem zt_3 : (Tryd.prog.info? 3).bind (·.zero) = some (.int .i64 0) := by kernel_rfl
end TyQ6
open TyQ6


end Go.Proofs.YtieccphckobhjaaDoor


namespace Go.Proofs.YtieccphckobhjaaDoor
open Go.RowKit
set_option linter.unusedVariables false

/-! Types. -/
namespace TyE0

end TyE0
open TyE0


instance memDec (s : ByteArray) (l : List ByteArray) : Decidable (s ∈ l) := @List.instDecidableMemOfLawfulBEq ByteArray instBEqOfDecidableEq inferInstance s l
structure CpyOk (v : Vlt) (c : Cpy) : Prop where
  item : 0 ≤ itemIdx v c.item
  carr : 0 ≤ carrIdx v c.carrier
  frm : c.frm = ⟨#[]⟩ ∨ 0 ≤ carrIdx v c.frm
  ne : c.frm ≠ c.carrier
  day : 0 ≤ c.day ∧ c.day ≤ 200000
  last : c.day ≤ c.last ∧ c.last ≤ 200000
  gen : 1 ≤ c.gen ∧ c.gen ≤ 100
  form : decide (c.gen = 1) = decide (c.frm = ⟨#[]⟩)
  bad : ffst (badFault (itemBlocks v c.item) c.bad) c.bad.length = 0
theorem cpyOk_of {v : Vlt} {c : Cpy} {b : Option Cpy} (h : cpyFault v c b = 0) : CpyOk v c ∧ ∀ d, b = some d → cpyCmp d c < 0 := by
  unfold cpyFault at h
  by_cases h1 : itemIdx v c.item < 0 ∨ carrIdx v c.carrier < 0
  · rw [if_pos h1] at h; simp at h
  rw [if_neg h1] at h
  by_cases h2 : ∃ d, b = some d ∧ 0 ≤ cpyCmp d c
  · rw [if_pos h2] at h; simp at h
  rw [if_neg h2] at h
  by_cases h3 : c.frm ≠ ⟨#[]⟩ ∧ carrIdx v c.frm < 0
  · rw [if_pos h3] at h; simp at h
  rw [if_neg h3] at h
  by_cases h4 : c.frm = c.carrier
  · rw [if_pos h4] at h; simp at h
  rw [if_neg h4] at h
  by_cases h5 : ¬ (0 ≤ c.day ∧ c.day ≤ 200000) ∨ ¬ (c.day ≤ c.last ∧ c.last ≤ 200000) ∨ ¬ (1 ≤ c.gen ∧ c.gen ≤ 100)
  · rw [if_pos h5] at h; simp at h
  rw [if_neg h5] at h
  by_cases h6 : decide (c.gen = 1) ≠ decide (c.frm = ⟨#[]⟩)
  · rw [if_pos h6] at h; simp at h
  rw [if_neg h6] at h
  refine ⟨⟨by omega, by omega, ?_, h4, by omega, by omega, by omega, Decidable.not_not.1 h6, h⟩, fun d hd => by
    by_cases hh : cpyCmp d c < 0
    · exact hh
    · exact absurd ⟨d, hd, by omega⟩ h2⟩
  by_cases h7 : c.frm = ⟨#[]⟩
  · exact .inl h7
  · right
    by_cases h8 : carrIdx v c.frm < 0
    · exact absurd ⟨h7, h8⟩ h3
    · omega
structure VOk (v : Vlt) : Prop where
  ni : v.items.length ≤ 30
  nc : v.carrs.length ≤ 16
  np : v.copies.length ≤ 200
  items : ffst (itemFault v.items) v.items.length = 0
  carrs : ffst (carrFault v.carrs) v.carrs.length = 0
  cps : ffst (cpyFaultAt v) v.copies.length = 0
  cpy : ∀ c ∈ v.copies, CpyOk v c
  order : ∀ k (h : k + 1 < v.copies.length), cpyCmp v.copies[k] v.copies[k + 1] < 0
  room : ∀ x ∈ v.carrs, usedOn v x.name ≤ x.room
theorem vok_of {v : Vlt} (h : checkV v = 0) : VOk v := by
  unfold checkV at h
  by_cases h1 : largeV v
  · rw [if_pos h1] at h; simp at h
  rw [if_neg h1] at h
  by_cases h2 : ffst (itemFault v.items) v.items.length ≠ 0
  · rw [if_pos h2] at h; exact absurd h h2
  rw [if_neg h2] at h
  by_cases h3 : ffst (carrFault v.carrs) v.carrs.length ≠ 0
  · rw [if_pos h3] at h; exact absurd h h3
  rw [if_neg h3] at h
  by_cases h4 : ffst (cpyFaultAt v) v.copies.length ≠ 0
  · rw [if_pos h4] at h; exact absurd h h4
  rw [if_neg h4] at h
  by_cases h5 : overFull v = true
  · rw [if_pos h5] at h; simp at h
  have h4' := Decidable.not_not.1 h4
  unfold largeV at h1
  refine ⟨by omega, by omega, by omega, Decidable.not_not.1 h2, Decidable.not_not.1 h3, h4', fun c hc => ?_, fun k hk => ?_, fun x hx => ?_⟩
  · obtain ⟨k, hk, rfl⟩ := List.mem_iff_getElem.1 hc
    have h6 := ffst_all _ h4' k hk
    by_cases h0 : 0 < k
    · rw [cpyFaultAt_some hk h0] at h6; exact (cpyOk_of h6).1
    · rw [cpyFaultAt_none hk h0] at h6; exact (cpyOk_of h6).1
  · have h6 := ffst_all _ h4' (k + 1) hk
    rw [cpyFaultAt_some hk (Nat.succ_pos k)] at h6
    exact (cpyOk_of h6).2 _ rfl
  · refine Int.not_lt.1 fun hh => h5 ?_
    unfold overFull
    exact List.any_eq_true.2 ⟨x, hx, decide_eq_true hh⟩
structure POk (p : Pol) : Prop where
  copies : 1 ≤ p.copies ∧ p.copies ≤ 16
  places : 1 ≤ p.places ∧ p.places ≤ p.copies
  kinds : 1 ≤ p.kinds ∧ p.kinds ≤ p.copies
  every : 1 ≤ p.every ∧ p.every ≤ 200000
  old : 1 ≤ p.old ∧ p.old ≤ 200000
  gens : 1 ≤ p.gens ∧ p.gens ≤ 100
theorem pok_of {p : Pol} (h : polFault p = 0) : POk p := by
  unfold polFault at h
  split at h
  · simp at h
  · exact ⟨by omega, by omega, by omega, by omega, by omega, by omega⟩
/-- The error of a vault and a policy. -/
def bothFault (v : Vlt) (p : Pol) : Int := if checkV v ≠ 0 then checkV v else polFault p
theorem both_v {v : Vlt} {p : Pol} (h : checkV v ≠ 0) : bothFault v p = checkV v := if_pos h
theorem both_p {v : Vlt} {p : Pol} (h : checkV v = 0) : bothFault v p = polFault p := if_neg (fun hh => hh h)
theorem both_ok {v : Vlt} {p : Pol} (h : bothFault v p = 0) : VOk v ∧ POk p := by
  unfold bothFault at h
  by_cases h1 : checkV v ≠ 0
  · rw [if_pos h1] at h; exact absurd h h1
  · rw [if_neg h1] at h; exact ⟨vok_of (Decidable.not_not.1 h1), pok_of h⟩
def dayFault (v : Vlt) (p : Pol) (day : Int) : Int := if bothFault v p ≠ 0 then bothFault v p else if 0 ≤ day ∧ day ≤ 200000 then 0 else 1


end Go.Proofs.YtieccphckobhjaaDoor


namespace Go.Proofs.YtieccphckobhjaaDoor
open Go.RowKit
set_option linter.unusedVariables false

/-! Types. -/
namespace TyQ1

end TyQ1
open TyQ1


theorem ffst_zero {f : Nat → Int} : ∀ n, (∀ k, k < n → f k = 0) → ffst f n = 0
  | 0, _ => rfl
  | n + 1, h => ffst_next (ffst_zero n fun k hk => h k (by omega)) (h n (by omega))
/-- Damaged blocks as they must be. -/
def SBad (n : Int) (l : List Int) : Prop := l.Pairwise (· < ·) ∧ ∀ x ∈ l, 0 ≤ x ∧ x ≤ n - 1
theorem pw_of_adj {l : List Int} (h : ∀ k (hk : k + 1 < l.length), l[k] < l[k + 1]) : l.Pairwise (· < ·) := by
  rw [List.pairwise_iff_getElem]
  intro i j hi hj hij
  obtain ⟨d, rfl⟩ : ∃ d, j = i + d + 1 := ⟨j - i - 1, by omega⟩
  clear hij
  induction d with
  | zero => exact h i hj
  | succ d ih => exact Int.lt_trans (ih (by omega)) (h (i + d + 1) hj)
theorem badFault_ok {n : Int} {l : List Int} {k : Nat} (hk : k < l.length) (h : badFault n l k = 0) : (0 ≤ l[k] ∧ l[k] ≤ n - 1) ∧ (0 < k → l[k - 1]'(by omega) < l[k]) := by
  unfold badFault at h
  rw [dif_pos hk] at h
  by_cases h1 : ¬ (0 ≤ l[k] ∧ l[k] ≤ n - 1)
  · rw [if_pos h1] at h; simp at h
  · rw [if_neg h1] at h
    refine ⟨Decidable.not_not.1 h1, fun h0 => ?_⟩
    by_cases h2 : 0 < k ∧ l[k] ≤ l[k - 1]'(by omega)
    · rw [if_pos h2] at h; simp at h
    · exact Int.not_le.1 fun hh => h2 ⟨h0, hh⟩
theorem sbad_of {n : Int} {l : List Int} (h : ffst (badFault n l) l.length = 0) : SBad n l := by
  have h1 := ffst_all _ h
  refine ⟨pw_of_adj fun k hk => ?_, fun x hx => ?_⟩
  · have := (badFault_ok hk (h1 (k + 1) hk)).2 (Nat.succ_pos k)
    simpa using this
  · obtain ⟨k, hk, rfl⟩ := List.mem_iff_getElem.1 hx
    exact (badFault_ok hk (h1 k hk)).1
theorem SBad.ge {n : Int} {l : List Int} (h : SBad n l) : ∀ k (hk : k < l.length), (k : Int) ≤ l[k]
  | 0, hk => (h.2 _ (List.getElem_mem hk)).1
  | k + 1, hk => by
    have h1 := h.ge k (by omega)
    have h2 := List.pairwise_iff_getElem.1 h.1 k (k + 1) (by omega) hk (by omega)
    omega
theorem SBad.len {n : Int} {l : List Int} (h : SBad n l) (hn : 0 ≤ n) : (l.length : Int) ≤ n := by
  by_cases h0 : 0 < l.length
  · have h1 := h.ge (l.length - 1) (by omega)
    have h2 := (h.2 _ (List.getElem_mem (show l.length - 1 < l.length by omega))).2
    omega
  · omega
theorem bsr_spec2 {lt : Nat → Bool} {N : Nat} (hm : ∀ a b, a ≤ b → b < N → lt b = true → lt a = true) : ∀ (n i j : Nat), j - i ≤ n → i ≤ j → j ≤ N → (∀ k, k < i → lt k = true) → (∀ k, k < bsr lt i j → lt k = true) ∧ (∀ k, bsr lt i j ≤ k → k < j → lt k = false)
  | 0, i, j, h, hij, _, h0 => by rw [bsr_end (by omega)]; exact ⟨h0, fun k h1 h2 => by omega⟩
  | n + 1, i, j, h, hij, hN, h0 => by
    by_cases hlt : i < j
    · by_cases hb : lt ((i + j) / 2) = true
      · rw [bsr_up hlt hb]
        exact bsr_spec2 hm n ((i + j) / 2 + 1) j (by omega) (by omega) hN (fun k hk => hm k _ (by omega) (by omega) hb)
      · have hb' : lt ((i + j) / 2) = false := by simpa using hb
        rw [bsr_dn hlt hb']
        have h1 := bsr_spec2 hm n i ((i + j) / 2) (by omega) (by omega) (by omega) h0
        refine ⟨h1.1, fun k h2 h3 => ?_⟩
        by_cases hk : k < (i + j) / 2
        · exact h1.2 k h2 hk
        · cases hlk : lt k with
          | false => rfl
          | true => rw [hm _ k (by omega) (by omega) hlk] at hb'; simp at hb'
    · rw [bsr_end hlt]; exact ⟨h0, fun k h1 h2 => by omega⟩
/-! What is right of a vault stays right. -/
theorem cpyFault_zero {v : Vlt} {c : Cpy} {b : Option Cpy} (h : CpyOk v c) (hb : ∀ d, b = some d → cpyCmp d c < 0) : cpyFault v c b = 0 := by
  have h1 := h.item
  have h2 := h.carr
  have h3 := h.day
  have h4 := h.last
  have h5 := h.gen
  unfold cpyFault
  rw [if_neg (by omega), if_neg (fun ⟨d, hd, hd2⟩ => by have := hb d hd; omega), if_neg (fun ⟨ha, hc⟩ => by
    rcases h.frm with hf | hf
    · exact ha hf
    · omega), if_neg h.ne, if_neg (by omega), if_neg (fun hh => hh h.form)]
  exact h.bad
theorem vok_mk {v : Vlt} (ni : v.items.length ≤ 30) (nc : v.carrs.length ≤ 16) (np : v.copies.length ≤ 200) (items : ffst (itemFault v.items) v.items.length = 0) (carrs : ffst (carrFault v.carrs) v.carrs.length = 0)
    (cpy : ∀ c ∈ v.copies, CpyOk v c) (order : ∀ k (h : k + 1 < v.copies.length), cpyCmp v.copies[k] v.copies[k + 1] < 0) (room : ∀ x ∈ v.carrs, usedOn v x.name ≤ x.room) : VOk v :=
  ⟨ni, nc, np, items, carrs, ffst_zero _ fun k hk => by
    by_cases h0 : 0 < k
    · rw [cpyFaultAt_some hk h0]
      refine cpyFault_zero (cpy _ (List.getElem_mem hk)) fun d hd => ?_
      obtain ⟨j, rfl⟩ : ∃ j, k = j + 1 := ⟨k - 1, by omega⟩
      have h1 := order j hk
      rw [← Option.some.inj hd]
      simpa using h1
    · rw [cpyFaultAt_none hk h0]
      exact cpyFault_zero (cpy _ (List.getElem_mem hk)) fun d hd => by simp at hd, cpy, order, room⟩
theorem check_vok {v : Vlt} (h : VOk v) : checkV v = 0 := by
  have h1 := h.ni
  have h2 := h.nc
  have h3 := h.np
  unfold checkV
  rw [if_neg (by unfold largeV; omega), if_neg (fun hh => hh h.items), if_neg (fun hh => hh h.carrs), if_neg (fun hh => hh h.cps), if_neg]
  intro hh
  unfold overFull at hh
  obtain ⟨x, hx, hx2⟩ := List.any_eq_true.1 hh
  have := h.room x hx
  have := of_decide_eq_true hx2
  omega
theorem cpyCmp_same {a b c d : Cpy} (h1 : a.item = c.item) (h2 : a.carrier = c.carrier) (h3 : b.item = d.item) (h4 : b.carrier = d.carrier) : cpyCmp a b = cpyCmp c d := by unfold cpyCmp; rw [h1, h2, h3, h4]
/-- The vault with other copies. -/
def withC (v : Vlt) (l : List Cpy) : Vlt := { v with copies := l }
/-- A harm that may come. -/
structure HrmOk (v : Vlt) (h : Hrm) : Prop where
  item : 0 ≤ itemIdx v h.item
  carr : 0 ≤ carrIdx v h.carrier
  blk : 0 ≤ h.block ∧ h.block ≤ itemBlocks v h.item - 1
theorem strCmp_eq {a b : ByteArray} (h : strCmp a b = 0) : a = b := strCmp_zero.1 h
theorem cpyCmp_zero {a b : Cpy} (h : cpyCmp a b = 0) : a.item = b.item ∧ a.carrier = b.carrier := by
  unfold cpyCmp at h
  by_cases e : a.item = b.item
  · rw [if_pos e] at h; exact ⟨e, strCmp_eq h⟩
  · rw [if_neg e] at h; exact absurd (strCmp_eq h) e
theorem hasC_spec {l : List Cpy} {it ca : ByteArray} (h : hasC l (keyC it ca) = true) : ∃ hk : posC l (keyC it ca) < l.length, l[posC l (keyC it ca)].item = it ∧ l[posC l (keyC it ca)].carrier = ca := by
  unfold hasC at h
  simp only [Bool.and_eq_true, decide_eq_true_eq] at h
  refine ⟨h.1, ?_⟩
  have h2 := h.2
  rw [List.getD_eq_getElem?_getD, List.getElem?_eq_getElem h.1, Option.getD_some] at h2
  exact cpyCmp_zero h2
/-! A day. -/
def chk1 (every day : Int) (s : List Cpy × List Dn) (k : Nat) : List Cpy × List Dn :=
  match s.1[k]? with
  | none => s
  | some c => if c.last + every > day then s else (checkedC s.1 k day, s.2 ++ [doneC s.1 c day])
def chkTo (every day : Int) (s : List Cpy × List Dn) : Nat → List Cpy × List Dn
  | 0 => s
  | k + 1 => chk1 every day (chkTo every day s k) k
def dayH (hs : List Hrm) (day : Int) : List Hrm := hs.takeWhile fun h => decide (h.day = day)
structure St where
  l : List Cpy
  hs : List Hrm
  o : List Dn
def day1 (every : Int) (s : St) (day : Int) : St :=
  ⟨(chkTo every day ((dayH s.hs day).foldl harmC s.l, s.o) s.l.length).1, s.hs.drop (dayH s.hs day).length, (chkTo every day ((dayH s.hs day).foldl harmC s.l, s.o) s.l.length).2⟩
def liveTo (every frm : Int) (s : St) : Nat → St
  | 0 => s
  | n + 1 => day1 every (liveTo every frm s n) (frm + n)
theorem vok_bad {v : Vlt} {l : List Cpy} (hv : VOk (withC v l)) : ∀ c ∈ l, c.bad.length ≤ 1000 := fun c hc => by
  have h1 := hv.cpy c hc
  have h2 := itemBlocks_bound (okItems_of hv.items) c.item
  have h3 := (sbad_of h1.bad).len h2.1
  omega
/-! All of Live. -/
def harmFault (v : Vlt) (frm to : Int) (hs : List Hrm) (k : Nat) : Int :=
  if h : k < hs.length then
    if ¬ (frm ≤ hs[k].day ∧ hs[k].day ≤ to - 1) then 1
    else if itemIdx v hs[k].item < 0 ∨ carrIdx v hs[k].carrier < 0 then 9
    else if ¬ (0 ≤ hs[k].block ∧ hs[k].block ≤ itemBlocks v hs[k].item - 1) then 1
    else if 0 < k ∧ hs[k].day < (hs[k - 1]'(by omega)).day then 8 else 0
  else 0
def harmsFault (v : Vlt) (frm to : Int) (hs : List Hrm) : Int := if 1000 < (hs.length : Int) then 2 else ffst (harmFault v frm to hs) hs.length
def liveS (v : Vlt) (p : Pol) (frm to : Int) (hs : List Hrm) : St := liveTo p.every frm ⟨v.copies, hs, []⟩ (to - frm).toNat
def liveFault (v : Vlt) (p : Pol) (frm to : Int) (hs : List Hrm) : Int :=
  if bothFault v p ≠ 0 then bothFault v p
  else if ¬ (0 ≤ frm ∧ frm ≤ 200000) ∨ ¬ (frm ≤ to ∧ to ≤ 200001) then 1
  else if harmsFault v frm to hs ≠ 0 then harmsFault v frm to hs
  else if 20000 < (liveS v p frm to hs).o.length then 2 else 0
def liveV (v : Vlt) (p : Pol) (frm to : Int) (hs : List Hrm) : Vlt := if liveFault v p frm to hs = 0 then withC v (liveS v p frm to hs).l else ⟨[], [], []⟩
def liveO (v : Vlt) (p : Pol) (frm to : Int) (hs : List Hrm) : List Dn := if liveFault v p frm to hs = 0 then (liveS v p frm to hs).o else []
/-- Harms that are right. -/
structure HsOk (v : Vlt) (frm to : Int) (hs : List Hrm) : Prop where
  len : hs.length ≤ 1000
  ok : ∀ h ∈ hs, HrmOk v h
  day : ∀ h ∈ hs, frm ≤ h.day ∧ h.day ≤ to - 1
  sorted : hs.Pairwise fun a b => a.day ≤ b.day
end Go.Proofs.YtieccphckobhjaaDoor


namespace Go.Proofs.YtieccphckobhjaaDoor
open Go.RowKit
set_option linter.unusedVariables false

/-! Types. -/
namespace TyQ7
theorem et_22 : ElemTy Tryd.prog 22 69 2 24 (.agg #[(.string ⟨#[]⟩), (.int .i64 0)]) := ⟨by kernel_rfl, by kernel_rfl, by kernel_rfl, by decide⟩
theorem et_23 : ElemTy Tryd.prog 23 73 5 64 (.agg #[(.string ⟨#[]⟩), (.string ⟨#[]⟩), (.string ⟨#[]⟩), (.int .i64 0), (.int .i64 0)]) := ⟨by kernel_rfl, by kernel_rfl, by kernel_rfl, by decide⟩
theorem et_24 : ElemTy Tryd.prog 24 77 7 96 (.agg #[(.string ⟨#[]⟩), (.string ⟨#[]⟩), (.string ⟨#[]⟩), (.int .i64 0), (.int .i64 0), (.int .i64 0), (.slice none 0 0)]) := ⟨by kernel_rfl, by kernel_rfl, by kernel_rfl, by decide⟩
theorem et_75 : ElemTy Tryd.prog 75 3 1 8 (.int .i64 0) := ⟨by kernel_rfl, by kernel_rfl, by kernel_rfl, by decide⟩
theorem fo_26_0 : fieldOff Tryd.prog 26 0 = some 0 := by kernel_rfl
theorem fo_26_1 : fieldOff Tryd.prog 26 1 = some 1 := by kernel_rfl
theorem fo_26_2 : fieldOff Tryd.prog 26 2 = some 2 := by kernel_rfl
theorem sc_22 : Scal Tryd.prog 22 := .of (by kernel_rfl)
theorem sc_23 : Scal Tryd.prog 23 := .of (by kernel_rfl)
theorem sc_24 : Scal Tryd.prog 24 := .of (by kernel_rfl)
theorem sz_22 : ∀ w, (sizeOf 22).run Tryd.prog w = .ok 1 w := SizeT.of (by kernel_rfl)
theorem sz_23 : ∀ w, (sizeOf 23).run Tryd.prog w = .ok 1 w := SizeT.of (by kernel_rfl)
theorem sz_24 : ∀ w, (sizeOf 24).run Tryd.prog w = .ok 1 w := SizeT.of (by kernel_rfl)
theorem zt_26 : (Tryd.prog.info? 26).bind (·.zero) = some (.agg #[(.slice none 0 0), (.slice none 0 0), (.slice none 0 0)]) := by kernel_rfl
end TyQ7
open TyQ7

set_option maxRecDepth 100000 in
set_option maxHeartbeats 1000000 in
theorem c_clItem (l : List Item) (hl : l.length ≤ 1000000) : OCall Tryd.prog 87 [.sl (l.map Item.ds)] 69 2 (l.map Item.ds) := by
  refine ocall_of (n := 8) Tryd.func87 rfl (by kernel_rfl) rfl 2 rfl rfl ?_
  intro B w0 F0 fr
  refine (Classical.em (l = [])).elim (fun hn => ?_) (fun hn => ?_)
  subst hn
  refine AWP.nilOr 0 rfl ?_ (fun ad cap hcap => ?_)
  · skip
    refine AWP.seq (AWP.region ?_)
    refine AOps.aD rfl rfl rfl rfl rfl (.nil ?_)
    refine AWP.seq ?_
    refine AWP.seq (AWP.region ?_)
    refine AOps.mD rfl rfl rfl rfl rfl ?_
    refine AOps.step rfl rfl rfl (AOp.eqNilV rfl Tryd.underlying22 rfl rfl) (.nil ?_)
    refine AWP.cond rfl (fun _ => ?_) (fun h => nomatch h)
    refine AWP.seq (AWP.region ?_)
    refine AOps.aD rfl rfl rfl rfl rfl (.nil ?_)
    refine AWP.adopt 2 51 69 2 rfl rfl ?_
    refine AWP.ret ?_
    refine ⟨51, rfl, mem_row_eq (.head _) ?_⟩
    first | rfl | simp
  · skip
    refine AWP.seq (AWP.region ?_)
    refine AOps.aD rfl rfl rfl rfl rfl (.nil ?_)
    refine AWP.seq ?_
    refine AWP.seq (AWP.region ?_)
    refine AOps.mD rfl rfl rfl rfl rfl ?_
    refine AOps.step rfl rfl rfl (AOp.eqNilV rfl Tryd.underlying22 rfl rfl) (.nil ?_)
    refine AWP.cond rfl (fun h => nomatch h) (fun _ => ?_)
    refine AWP.skip ?_
    refine AWP.seq (AWP.region ?_)
    refine AOps.build0 102 rfl rfl rfl rfl et_22 rfl ?_
    refine AOps.mD rfl rfl rfl rfl rfl ?_
    refine AOps.le 6 rfl (SLe.d (Le.empty hcap)) ?_
    -- append 7
    refine AOps.append rfl rfl rfl rfl et_22 rfl (.head _) rfl (fun y hy => by first | exact absurd hy List.not_mem_nil | (obtain ⟨x, _, rfl⟩ := List.mem_map.1 hy; rfl)) (by simp; try omega) (by simp; try omega) ?_
    refine AOps.step rfl rfl rfl (AOp.assignO rfl rfl) (.nil ?_)
    refine AWP.ret ?_
    refine ⟨102, rfl, mem_row_eq (.head _) ?_⟩
    first | rfl | simp
  refine AWP.seq (AWP.region ?_)
  refine AOps.aD rfl rfl rfl rfl rfl (.nil ?_)
  refine AWP.seq ?_
  refine AWP.seq (AWP.region ?_)
  refine AOps.mD rfl rfl rfl rfl rfl ?_
  refine AOps.step rfl rfl rfl (AOp.eqNilS rfl Tryd.underlying22 rfl rfl (fun h => hn (List.map_eq_nil_iff.1 h))) (.nil ?_)
  refine AWP.cond rfl (fun h => nomatch h) (fun _ => ?_)
  refine AWP.skip ?_
  refine AWP.seq (AWP.region ?_)
  refine AOps.build0 103 rfl rfl rfl rfl et_22 rfl ?_
  refine AOps.mD rfl rfl rfl rfl rfl ?_
  -- append 7
  refine AOps.append rfl rfl rfl rfl et_22 rfl (.head _) rfl (fun y hy => by first | exact absurd hy List.not_mem_nil | (obtain ⟨x, _, rfl⟩ := List.mem_map.1 hy; rfl)) (by simp; try omega) (by simp; try omega) ?_
  refine AOps.step rfl rfl rfl (AOp.assignO rfl rfl) (.nil ?_)
  refine AWP.ret ?_
  refine ⟨103, rfl, mem_row_eq (.head _) ?_⟩
  first | rfl | simp

set_option maxRecDepth 100000 in
set_option maxHeartbeats 1000000 in
theorem c_clCarr (l : List Carr) (hl : l.length ≤ 1000000) : OCall Tryd.prog 74 [.sl (l.map Carr.ds)] 73 5 (l.map Carr.ds) := by
  refine ocall_of (n := 8) Tryd.func74 rfl (by kernel_rfl) rfl 2 rfl rfl ?_
  intro B w0 F0 fr
  refine (Classical.em (l = [])).elim (fun hn => ?_) (fun hn => ?_)
  subst hn
  refine AWP.nilOr 0 rfl ?_ (fun ad cap hcap => ?_)
  · skip
    refine AWP.seq (AWP.region ?_)
    refine AOps.aD rfl rfl rfl rfl rfl (.nil ?_)
    refine AWP.seq ?_
    refine AWP.seq (AWP.region ?_)
    refine AOps.mD rfl rfl rfl rfl rfl ?_
    refine AOps.step rfl rfl rfl (AOp.eqNilV rfl Tryd.underlying23 rfl rfl) (.nil ?_)
    refine AWP.cond rfl (fun _ => ?_) (fun h => nomatch h)
    refine AWP.seq (AWP.region ?_)
    refine AOps.aD rfl rfl rfl rfl rfl (.nil ?_)
    refine AWP.adopt 2 51 73 5 rfl rfl ?_
    refine AWP.ret ?_
    refine ⟨51, rfl, mem_row_eq (.head _) ?_⟩
    first | rfl | simp
  · skip
    refine AWP.seq (AWP.region ?_)
    refine AOps.aD rfl rfl rfl rfl rfl (.nil ?_)
    refine AWP.seq ?_
    refine AWP.seq (AWP.region ?_)
    refine AOps.mD rfl rfl rfl rfl rfl ?_
    refine AOps.step rfl rfl rfl (AOp.eqNilV rfl Tryd.underlying23 rfl rfl) (.nil ?_)
    refine AWP.cond rfl (fun h => nomatch h) (fun _ => ?_)
    refine AWP.skip ?_
    refine AWP.seq (AWP.region ?_)
    refine AOps.build0 102 rfl rfl rfl rfl et_23 rfl ?_
    refine AOps.mD rfl rfl rfl rfl rfl ?_
    refine AOps.le 6 rfl (SLe.d (Le.empty hcap)) ?_
    -- append 7
    refine AOps.append rfl rfl rfl rfl et_23 rfl (.head _) rfl (fun y hy => by first | exact absurd hy List.not_mem_nil | (obtain ⟨x, _, rfl⟩ := List.mem_map.1 hy; rfl)) (by simp; try omega) (by simp; try omega) ?_
    refine AOps.step rfl rfl rfl (AOp.assignO rfl rfl) (.nil ?_)
    refine AWP.ret ?_
    refine ⟨102, rfl, mem_row_eq (.head _) ?_⟩
    first | rfl | simp
  refine AWP.seq (AWP.region ?_)
  refine AOps.aD rfl rfl rfl rfl rfl (.nil ?_)
  refine AWP.seq ?_
  refine AWP.seq (AWP.region ?_)
  refine AOps.mD rfl rfl rfl rfl rfl ?_
  refine AOps.step rfl rfl rfl (AOp.eqNilS rfl Tryd.underlying23 rfl rfl (fun h => hn (List.map_eq_nil_iff.1 h))) (.nil ?_)
  refine AWP.cond rfl (fun h => nomatch h) (fun _ => ?_)
  refine AWP.skip ?_
  refine AWP.seq (AWP.region ?_)
  refine AOps.build0 103 rfl rfl rfl rfl et_23 rfl ?_
  refine AOps.mD rfl rfl rfl rfl rfl ?_
  -- append 7
  refine AOps.append rfl rfl rfl rfl et_23 rfl (.head _) rfl (fun y hy => by first | exact absurd hy List.not_mem_nil | (obtain ⟨x, _, rfl⟩ := List.mem_map.1 hy; rfl)) (by simp; try omega) (by simp; try omega) ?_
  refine AOps.step rfl rfl rfl (AOp.assignO rfl rfl) (.nil ?_)
  refine AWP.ret ?_
  refine ⟨103, rfl, mem_row_eq (.head _) ?_⟩
  first | rfl | simp

set_option maxRecDepth 100000 in
set_option maxHeartbeats 1000000 in
theorem c_clCpy (l : List Cpy) (hl : l.length ≤ 1000000) : OCall Tryd.prog 88 [.sl (l.map Cpy.ds)] 77 7 (l.map Cpy.ds) := by
  refine ocall_of (n := 8) Tryd.func88 rfl (by kernel_rfl) rfl 2 rfl rfl ?_
  intro B w0 F0 fr
  refine (Classical.em (l = [])).elim (fun hn => ?_) (fun hn => ?_)
  subst hn
  refine AWP.nilOr 0 rfl ?_ (fun ad cap hcap => ?_)
  · skip
    refine AWP.seq (AWP.region ?_)
    refine AOps.aD rfl rfl rfl rfl rfl (.nil ?_)
    refine AWP.seq ?_
    refine AWP.seq (AWP.region ?_)
    refine AOps.mD rfl rfl rfl rfl rfl ?_
    refine AOps.step rfl rfl rfl (AOp.eqNilV rfl Tryd.underlying24 rfl rfl) (.nil ?_)
    refine AWP.cond rfl (fun _ => ?_) (fun h => nomatch h)
    refine AWP.seq (AWP.region ?_)
    refine AOps.aD rfl rfl rfl rfl rfl (.nil ?_)
    refine AWP.adopt 2 51 77 7 rfl rfl ?_
    refine AWP.ret ?_
    refine ⟨51, rfl, mem_row_eq (.head _) ?_⟩
    first | rfl | simp
  · skip
    refine AWP.seq (AWP.region ?_)
    refine AOps.aD rfl rfl rfl rfl rfl (.nil ?_)
    refine AWP.seq ?_
    refine AWP.seq (AWP.region ?_)
    refine AOps.mD rfl rfl rfl rfl rfl ?_
    refine AOps.step rfl rfl rfl (AOp.eqNilV rfl Tryd.underlying24 rfl rfl) (.nil ?_)
    refine AWP.cond rfl (fun h => nomatch h) (fun _ => ?_)
    refine AWP.skip ?_
    refine AWP.seq (AWP.region ?_)
    refine AOps.build0 102 rfl rfl rfl rfl et_24 rfl ?_
    refine AOps.mD rfl rfl rfl rfl rfl ?_
    refine AOps.le 6 rfl (SLe.d (Le.empty hcap)) ?_
    -- append 7
    refine AOps.append rfl rfl rfl rfl et_24 rfl (.head _) rfl (fun y hy => by first | exact absurd hy List.not_mem_nil | (obtain ⟨x, _, rfl⟩ := List.mem_map.1 hy; rfl)) (by simp; try omega) (by simp; try omega) ?_
    refine AOps.step rfl rfl rfl (AOp.assignO rfl rfl) (.nil ?_)
    refine AWP.ret ?_
    refine ⟨102, rfl, mem_row_eq (.head _) ?_⟩
    first | rfl | simp
  refine AWP.seq (AWP.region ?_)
  refine AOps.aD rfl rfl rfl rfl rfl (.nil ?_)
  refine AWP.seq ?_
  refine AWP.seq (AWP.region ?_)
  refine AOps.mD rfl rfl rfl rfl rfl ?_
  refine AOps.step rfl rfl rfl (AOp.eqNilS rfl Tryd.underlying24 rfl rfl (fun h => hn (List.map_eq_nil_iff.1 h))) (.nil ?_)
  refine AWP.cond rfl (fun h => nomatch h) (fun _ => ?_)
  refine AWP.skip ?_
  refine AWP.seq (AWP.region ?_)
  refine AOps.build0 103 rfl rfl rfl rfl et_24 rfl ?_
  refine AOps.mD rfl rfl rfl rfl rfl ?_
  -- append 7
  refine AOps.append rfl rfl rfl rfl et_24 rfl (.head _) rfl (fun y hy => by first | exact absurd hy List.not_mem_nil | (obtain ⟨x, _, rfl⟩ := List.mem_map.1 hy; rfl)) (by simp; try omega) (by simp; try omega) ?_
  refine AOps.step rfl rfl rfl (AOp.assignO rfl rfl) (.nil ?_)
  refine AWP.ret ?_
  refine ⟨103, rfl, mem_row_eq (.head _) ?_⟩
  first | rfl | simp

set_option maxRecDepth 100000 in
set_option maxHeartbeats 1000000 in
theorem c_clInt (l : List Int) (hl : l.length ≤ 1000000) : OCall Tryd.prog 89 [.sl (l.map intD)] 3 1 (l.map intD) := by
  refine ocall_of (n := 8) Tryd.func89 rfl (by kernel_rfl) rfl 2 rfl rfl ?_
  intro B w0 F0 fr
  refine (Classical.em (l = [])).elim (fun hn => ?_) (fun hn => ?_)
  subst hn
  refine AWP.nilOr 0 rfl ?_ (fun ad cap hcap => ?_)
  · skip
    refine AWP.seq (AWP.region ?_)
    refine AOps.aD rfl rfl rfl rfl rfl (.nil ?_)
    refine AWP.seq ?_
    refine AWP.seq (AWP.region ?_)
    refine AOps.mD rfl rfl rfl rfl rfl ?_
    refine AOps.step rfl rfl rfl (AOp.eqNilV rfl Tryd.underlying75 rfl rfl) (.nil ?_)
    refine AWP.cond rfl (fun _ => ?_) (fun h => nomatch h)
    refine AWP.seq (AWP.region ?_)
    refine AOps.aD rfl rfl rfl rfl rfl (.nil ?_)
    refine AWP.adopt 2 51 3 1 rfl rfl ?_
    refine AWP.ret ?_
    refine ⟨51, rfl, mem_row_eq (.head _) ?_⟩
    first | rfl | simp
  · skip
    refine AWP.seq (AWP.region ?_)
    refine AOps.aD rfl rfl rfl rfl rfl (.nil ?_)
    refine AWP.seq ?_
    refine AWP.seq (AWP.region ?_)
    refine AOps.mD rfl rfl rfl rfl rfl ?_
    refine AOps.step rfl rfl rfl (AOp.eqNilV rfl Tryd.underlying75 rfl rfl) (.nil ?_)
    refine AWP.cond rfl (fun h => nomatch h) (fun _ => ?_)
    refine AWP.skip ?_
    refine AWP.seq (AWP.region ?_)
    refine AOps.build0 102 rfl rfl rfl rfl et_75 rfl ?_
    refine AOps.mD rfl rfl rfl rfl rfl ?_
    refine AOps.le 6 rfl (SLe.d (Le.empty hcap)) ?_
    -- append 7
    refine AOps.append rfl rfl rfl rfl et_75 rfl (.head _) rfl (fun y hy => by first | exact absurd hy List.not_mem_nil | (obtain ⟨x, _, rfl⟩ := List.mem_map.1 hy; rfl)) (by simp; try omega) (by simp; try omega) ?_
    refine AOps.step rfl rfl rfl (AOp.assignO rfl rfl) (.nil ?_)
    refine AWP.ret ?_
    refine ⟨102, rfl, mem_row_eq (.head _) ?_⟩
    first | rfl | simp
  refine AWP.seq (AWP.region ?_)
  refine AOps.aD rfl rfl rfl rfl rfl (.nil ?_)
  refine AWP.seq ?_
  refine AWP.seq (AWP.region ?_)
  refine AOps.mD rfl rfl rfl rfl rfl ?_
  refine AOps.step rfl rfl rfl (AOp.eqNilS rfl Tryd.underlying75 rfl rfl (fun h => hn (List.map_eq_nil_iff.1 h))) (.nil ?_)
  refine AWP.cond rfl (fun h => nomatch h) (fun _ => ?_)
  refine AWP.skip ?_
  refine AWP.seq (AWP.region ?_)
  refine AOps.build0 103 rfl rfl rfl rfl et_75 rfl ?_
  refine AOps.mD rfl rfl rfl rfl rfl ?_
  -- append 7
  refine AOps.append rfl rfl rfl rfl et_75 rfl (.head _) rfl (fun y hy => by first | exact absurd hy List.not_mem_nil | (obtain ⟨x, _, rfl⟩ := List.mem_map.1 hy; rfl)) (by simp; try omega) (by simp; try omega) ?_
  refine AOps.step rfl rfl rfl (AOp.assignO rfl rfl) (.nil ?_)
  refine AWP.ret ?_
  refine ⟨103, rfl, mem_row_eq (.head _) ?_⟩
  first | rfl | simp


theorem killSelf (i : Nat) : S.kill i (.own i) = .d .any := by simp [S.kill]
theorem killP' {i t off : Nat} (h : t ≠ i) : S.kill i (.ptr t off) = .ptr t off := by simp only [S.kill, beqF h]
theorem killO' {i t : Nat} (h : t ≠ i) : S.kill i (.own t) = .own t := by simp only [S.kill, beqF h]
theorem mem_upd_ne {i : Nat} {o : Ob} : ∀ {σ : Obs} {p : Nat × Ob}, p ∈ σ → p.1 ≠ i → p ∈ Obs.upd i o σ
  | [], _, h, _ => by cases h
  | q :: l, p, h, hn => by
    cases hb : Nat.beq q.1 i with
    | true =>
      rw [upd_t hb]
      rcases List.mem_cons.1 h with rfl | h
      · exact absurd (Nat.eq_of_beq_eq_true hb) hn
      · exact .tail _ (mem_upd_ne h hn)
    | false =>
      rw [upd_f hb]
      rcases List.mem_cons.1 h with rfl | h
      · exact .head _
      · exact .tail _ (mem_upd_ne h hn)
theorem mem_upd_eq {i : Nat} {o x : Ob} : ∀ {σ : Obs}, (i, x) ∈ σ → (i, o) ∈ Obs.upd i o σ
  | [], h => by cases h
  | q :: l, h => by
    cases hb : Nat.beq q.1 i with
    | true => rw [upd_t hb]; exact .head _
    | false =>
      rw [upd_f hb]
      rcases List.mem_cons.1 h with rfl | h
      · simp at hb
      · exact .tail _ (mem_upd_eq h)
theorem XRun.set {cx : Cx} {ops : Array Oper} {σ : Obs} {Φ : List Fr} {l : List Oper} {e : Env} {Qe : Env → Prop} (t : Nat) {s : S} (ht : e t = s) (k : XRun cx ops σ Φ l (e.put (some t) s) Qe) : XRun cx ops σ Φ l e Qe := by
  have : e.put (some t) s = e := by
    funext u
    by_cases hu : u = t
    · subst hu; rw [Env.put_same, ht]
    · rw [Env.put_other _ _ _ _ hu]
  rw [this] at k
  exact k
/-- The copies as cells, where the first k have their own damaged blocks. -/
def mixS : Nat → Nat → List Cpy → List (List S)
  | _, 0, l => l.map fun c => c.ds.map S.d
  | _, _ + 1, [] => []
  | b, k + 1, c :: l => cpyS b c :: mixS (b + 1) k l
theorem mixS_len : ∀ (b k : Nat) (l : List Cpy), (mixS b k l).length = l.length
  | _, 0, l => by simp [mixS]
  | _, _ + 1, [] => rfl
  | b, k + 1, c :: l => by simp [mixS, mixS_len (b + 1) k l]
theorem mixS_at : ∀ {b k : Nat} {l : List Cpy} (h : k < l.length), (mixS b k l)[k]? = some (l[k].ds.map S.d)
  | b, 0, l, h => by simp [mixS, h]
  | b, k + 1, c :: l, h => by
    have := mixS_at (b := b + 1) (k := k) (l := l) (by simpa using h)
    simpa [mixS] using this
theorem mixS_set : ∀ {b k : Nat} {l : List Cpy} (h : k < l.length), (mixS b k l).set k ((l[k].ds.map S.d).set 6 (.own (b + k))) = mixS b (k + 1) l
  | b, 0, c :: l, h => by simp [mixS, Cpy.ds, cpyS]
  | b, k + 1, c :: l, h => by
    have := mixS_set (b := b + 1) (k := k) (l := l) (by simpa using h)
    rw [show b + 1 + k = b + (k + 1) by omega] at this
    simp only [mixS, List.set_cons_succ, List.getElem_cons_succ]
    rw [this]
theorem mixS_all : ∀ (b : Nat) (l : List Cpy), mixS b l.length l = cpysS b l
  | _, [] => rfl
  | b, c :: l => by simp [mixS, cpysS, mixS_all (b + 1) l]
theorem data_kill (i : Nat) (l : List Cpy) : (l.map fun c => c.ds.map S.d).map (fun ss => ss.map (S.kill i)) = l.map fun c => c.ds.map S.d := by
  rw [List.map_map]
  congr 1
theorem mixS_kill : ∀ {b k i : Nat} {l : List Cpy}, b + k ≤ i → (mixS b k l).map (fun ss => ss.map (S.kill i)) = mixS b k l
  | b, 0, i, l, _ => data_kill i l
  | b, k + 1, i, [], _ => rfl
  | b, k + 1, i, c :: l, h => by
    have ih := mixS_kill (b := b + 1) (k := k) (i := i) (l := l) (by omega)
    have h1 : Nat.beq b i = false := beqF (by omega)
    simp only [mixS, List.map_cons, ih]
    simp [cpyS, S.kill, h1]
theorem fam_snoc {e size : Nat} : ∀ {b : Nat} {l : List (List (List D))} {x : List (List D)}, fam e size b (l ++ [x]) = fam e size b l ++ [(b + l.length, .row e size x)]
  | b, [], x => rfl
  | b, y :: l, x => by
    have := fam_snoc (e := e) (size := size) (b := b + 1) (l := l) (x := x)
    rw [List.cons_append]
    unfold fam
    rw [this, List.length_cons, show b + 1 + l.length = b + (l.length + 1) by omega]
    rfl
theorem badsD_take {l : List Cpy} {k : Nat} (h : k < l.length) : badsD (l.take (k + 1)) = badsD (l.take k) ++ [l[k].bad.map intD] := by
  unfold badsD
  rw [List.take_add_one, List.getElem?_eq_getElem h, Option.toList_some, List.map_append]
  rfl
theorem badsD_len (l : List Cpy) : (badsD l).length = l.length := by simp [badsD]
def ZV : List S := [.d (.v (.slice none 0 0)), .d (.v (.slice none 0 0)), .d (.v (.slice none 0 0))]
/-- The objects while the k-th copy is being cloned. -/
def ownObs (v : Vlt) (k : Nat) : Obs := [(12, .cells ZV), (11, .cells (vaultS v)), (101, .rowS 77 7 (mixS 1000 k v.copies))] ++ fam 3 1 1000 (badsD (v.copies.take k))
theorem fam_fresh2 {e size : Nat} : ∀ {b : Nat} {l : List (List (List D))} {i : Nat}, b + l.length ≤ i → Obs.fresh i (fam e size b l) = true
  | _, [], _, _ => rfl
  | b, y :: l, i, h => by
    have h1 : Nat.beq b i = false := beqF (by simp at h; omega)
    unfold fam Obs.fresh
    rw [h1, fam_fresh2 (b := b + 1) (by simp at h; omega)]
    rfl
theorem own_fresh {v : Vlt} {k : Nat} (h : k < v.copies.length) : Obs.fresh (1000 + k) (ownObs v k) = true := by
  unfold ownObs
  rw [fresh_app, fam_fresh2 (by rw [badsD_len, List.length_take]; omega)]
  simp [Obs.fresh, beqF (show 12 ≠ 1000 + k by omega), beqF (show 11 ≠ 1000 + k by omega), beqF (show 101 ≠ 1000 + k by omega)]
theorem own_kill {v : Vlt} {k : Nat} : Obs.kill (1000 + k) (ownObs v k) = ownObs v k := by
  unfold ownObs
  rw [kill_app, fam_kill]
  have h1 : S.kill (1000 + k) (.own 101) = .own 101 := killO' (by omega)
  show [(12, Ob.cells ((ZV).map (S.kill (1000 + k)))), (11, Ob.cells ((vaultS v).map (S.kill (1000 + k)))), (101, Ob.rowS _ 7 ((mixS 1000 k v.copies).map fun ss => ss.map (S.kill (1000 + k))))] ++ _ = _
  rw [mixS_kill (Nat.le_refl _)]
  have h2 : (vaultS v).map (S.kill (1000 + k)) = vaultS v := by
    show [_, _, S.kill (1000 + k) (.own 101)] = _
    rw [h1]; rfl
  rw [h2]
  rfl
/-- .. and behind it. -/
theorem own_next {v : Vlt} {k : Nat} (h : k < v.copies.length) : ∀ p ∈ ownObs v (k + 1), p ∈ Obs.upd 101 (.rowS 77 7 ((mixS 1000 k v.copies).set k ((v.copies[k].ds.map S.d).set 6 (.own (1000 + k))))) ([(1000 + k, .row 3 1 (v.copies[k].bad.map intD))] ++ ownObs v k) := by
  intro p hp
  rw [mixS_set h]
  unfold ownObs at hp
  rw [badsD_take h, fam_snoc, badsD_len, List.length_take, Nat.min_eq_left (by omega)] at hp
  rcases List.mem_append.1 hp with hp | hp
  · rcases List.mem_cons.1 hp with rfl | hp
    · exact mem_upd_ne (List.mem_append_right _ (List.mem_append_left _ (.head _))) (by show 12 ≠ 101; decide)
    · rcases List.mem_cons.1 hp with rfl | hp
      · exact mem_upd_ne (List.mem_append_right _ (List.mem_append_left _ (.tail _ (.head _)))) (by show 11 ≠ 101; decide)
      · have hp : p = _ := List.mem_singleton.1 hp
        subst hp
        exact mem_upd_eq (List.mem_append_right _ (List.mem_append_left _ (.tail _ (.tail _ (.head _)))))
  · rcases List.mem_append.1 hp with hp | hp
    · refine mem_upd_ne (List.mem_append_right _ (List.mem_append_right _ hp)) ?_
      obtain ⟨m, x, _, rfl⟩ := fam_mem hp
      show 1000 + m ≠ 101
      omega
    · have hp : p = _ := List.mem_singleton.1 hp
      subst hp
      exact mem_upd_ne (List.mem_append_left _ (.head _)) (by show 1000 + k ≠ 101; omega)
theorem own_end {v : Vlt} : ownObs v v.copies.length = [(12, .cells ZV), (11, .cells (vaultS v))] ++ vObs v.copies := by
  unfold ownObs vObs famC
  rw [mixS_all, List.take_length]
  rfl
theorem hsz_26 : ∀ w, (sizeOf 26).run Tryd.prog w = .ok 3 w := SizeT.of (by kernel_rfl)



set_option maxRecDepth 100000 in
set_option maxHeartbeats 1000000 in
set_option maxRecDepth 20000 in
set_option maxHeartbeats 2000000 in
theorem c_own (v : Vlt) (vo : VOk v) : XSCall Tryd.prog 60 [.d (.agg v.ds)] [] ((100, .val (vaultS v)) :: vObs v.copies) (fun i => Nat.ble 1000 i || Nat.blt i 102) (.own 100) := by
  have hni := vo.ni
  have hnc := vo.nc
  have hnp := vo.np
  have hfx : ∀ k, (!(!(Nat.ble 1000 (1000 + k) || Nat.blt (1000 + k) 102))) = true := fun k => by
    have : Nat.ble 1000 (1000 + k) = true := Nat.ble_eq_true_of_le (by omega)
    rw [this]; rfl
  refine xval_of (n := 36) (b := 2) (t := 26) (size := 3) (vid := 100) (ss' := vaultS v) Tryd.func60 rfl (by kernel_rfl) rfl rfl hag_v rfl rfl rfl ?_
  intro B w0 F0 fr ρ0
  refine AWP.seq (AWP.region ?_)
  refine AOps.boxOwn 11 rfl rfl rfl rfl rfl rfl rfl ?_
  refine AOps.alloc 12 rfl rfl rfl rfl zt_26 rfl rfl rfl (.nil ?_)
  refine AWP.seq ?_
  refine AWP.drawFresh 10 [⟨12, 101, .own 101, .row 77 7 (v.copies.map Cpy.ds)⟩] (FrOk.one rfl (by simp) rfl rfl rfl) (by kernel_rfl) (by kernel_rfl) (by kernel_rfl) (by kernel_rfl) ?_
  refine XRun.step rfl rfl rfl (AOp.fieldAddrP rfl fo_26_0 rfl) ?_
  refine XRun.step rfl rfl rfl (AOp.loadP rfl sc_22 rfl (.tail _ (.head _)) rfl) ?_
  refine XRun.step rfl rfl rfl (AOp.call rfl (.cons (ArgOk.rfl' rfl) .nil) ((c_clItem v.items (by omega)).toA)) ?_
  refine XRun.step rfl rfl rfl (AOp.fieldAddrP rfl fo_26_1 rfl) ?_
  refine XRun.step rfl rfl rfl (AOp.loadP rfl sc_23 rfl (.tail _ (.head _)) rfl) ?_
  refine XRun.step rfl rfl rfl (AOp.call rfl (.cons (ArgOk.rfl' rfl) .nil) ((c_clCarr v.carrs (by omega)).toA)) ?_
  refine XRun.step rfl rfl rfl (AOp.fieldAddrP rfl fo_26_2 rfl) ?_
  refine XRun.step rfl rfl rfl (AOp.loadP rfl sc_24 rfl (.tail _ (.head _)) rfl) ?_
  refine XRun.callO _ (.head _) rfl rfl rfl rfl rfl (.cons (ArgOk.rfl' rfl) .nil) (c_clCpy v.copies (by omega)) rfl rfl ?_
  refine XRun.step rfl rfl rfl (AOp.fieldAddrP rfl fo_26_0 rfl) ?_
  refine XRun.nil ⟨rfl, trivial⟩ ?_
  refine AOps.store rfl rfl rfl sz_22 rfl (.tail _ (.tail _ (.head _))) rfl rfl rfl (Nat.le_of_ble_eq_true rfl) ?_
  refine AOps.step rfl rfl rfl (AOp.fieldAddrP rfl fo_26_1 rfl) ?_
  refine AOps.store rfl rfl rfl sz_23 rfl (.tail _ (.tail _ (.head _))) rfl rfl rfl (Nat.le_of_ble_eq_true rfl) ?_
  refine AOps.step rfl rfl rfl (AOp.fieldAddrP rfl fo_26_2 rfl) ?_
  refine AOps.storeS rfl rfl rfl sz_24 rfl (.tail _ (.tail _ (.head _))) rfl (.head _) (Nat.le_of_ble_eq_true rfl) (.nil ?_)
  refine AWP.seq ?_
  refine AWP.seq ?_
  refine AWP.rowToS 101 (ee := 77) (size := 7) (els := v.copies.map Cpy.ds) (by first | exact .head _ | exact .tail _ (.head _) | exact .tail _ (.tail _ (.head _))) ?_
  refine AWP.obs (σ' := ownObs v 0) (fun p hp => ?_) ?_
  · have hr : (v.copies.map Cpy.ds).map (fun ds => ds.map S.d) = mixS 1000 0 v.copies := by simp [mixS]
    rw [hr]
    rcases List.mem_cons.1 hp with rfl | hp
    · first | exact .head _ | exact .tail _ (.head _) | exact .tail _ (.tail _ (.head _))
    rcases List.mem_cons.1 hp with rfl | hp
    · first | exact .head _ | exact .tail _ (.head _) | exact .tail _ (.tail _ (.head _))
    have hp : p = _ := List.mem_singleton.1 hp
    subst hp
    first | exact .head _ | exact .tail _ (.head _) | exact .tail _ (.tail _ (.head _))
  refine AWP.region ?_
  refine AOps.step rfl rfl rfl (AOp.fieldAddrP rfl fo_26_2 rfl) ?_
  refine AOps.step rfl rfl rfl (AOp.loadP rfl sc_24 rfl (.tail _ (.head _)) rfl) ?_
  refine AOps.step rfl rfl rfl (AOp.weak (AOp.lenOwn rfl het_24.ht rfl (Obs.weak_mem (p := (101, _)) (.tail _ (.tail _ (.head _)))))) ?_
  refine AOps.mD rfl rfl rfl rfl rfl (.nil ?_)
  refine AWP.block ?_
  refine AWP.loop (G := Nat) (fun k => Env.of [(19, .d (.v (.int .i64 (k : Int)))), (18, .d (.v (.int .i64 (((mixS 1000 0 v.copies).map fun ss => ss.map S.weak).length : Int)))), (1, .ptr 11 0), (2, .ptr 12 0)]) (fun k => ownObs v k) (fun k => k ≤ v.copies.length) (fun k => v.copies.length - k) 0 (Nat.zero_le _) (Sub.less ⟨(SLe.of_eq rfl), SLe.refl _, SLe.refl _, SLe.refl _, trivial⟩ (fun _ h => h)) ?_
  intro k hk
  refine AWP.seq (AWP.region ?_)
  refine AOps.step rfl rfl rfl (AOp.lss rfl rfl rfl) (.nil ?_)
  refine AWP.seq ?_
  refine AWP.cond rfl (fun h1 => ?_) (fun h1 => ?_)
  · replace h1 := of_decide_eq_true h1
    rw [List.length_map, mixS_len] at h1
    have hlt : k < v.copies.length := by omega
    have hbk := vok_bad (v := v) vo _ (List.getElem_mem hlt)
    refine AWP.skip ?_
    refine AWP.seq ?_
    refine AWP.block ?_
    refine AWP.seq (AWP.region ?_)
    refine AOps.mD rfl rfl rfl rfl rfl ?_
    refine AOps.aD rfl rfl rfl rfl rfl (.nil ?_)
    refine AWP.drawFresh 10 [⟨31, 1000 + k, .own (1000 + k), .row 3 1 (v.copies[k].bad.map intD)⟩] (FrOk.one (killSelf _) (by simp) (own_fresh hlt) own_kill (hfx k)) (by kernel_rfl) (by kernel_rfl) (by kernel_rfl) (by kernel_rfl) ?_
    refine XRun.set 1 (s := .ptr 11 0) (killP' (i := 1000 + k) (t := 11) (off := 0) (by omega)) ?_
    refine XRun.set 2 (s := .ptr 12 0) (killP' (i := 1000 + k) (t := 12) (off := 0) (by omega)) ?_
    refine XRun.step rfl rfl rfl (AOp.fieldAddrP rfl hfo_v2 rfl) ?_ rfl ⟨.inl (killP' (i := 1000 + k) (t := 11) (by omega)), trivial⟩
    refine XRun.step rfl rfl rfl (AOp.loadP (s := .own 101) rfl hsc_24 rfl (.tail _ (.head _)) rfl) ?_ rfl ⟨.inl (killO' (i := 1000 + k) (t := 101) (by omega)), trivial⟩
    refine XRun.step rfl rfl rfl (AOp.moveD rfl rfl) ?_ rfl ⟨.inl (rfl), trivial⟩
    refine XRun.step rfl rfl rfl (AOp.fieldAddrP rfl hfo_v2 rfl) ?_ rfl ⟨.inl (killP' (i := 1000 + k) (t := 11) (by omega)), trivial⟩
    refine XRun.step rfl rfl rfl (AOp.loadP (s := .own 101) rfl hsc_24 rfl (.tail _ (.head _)) rfl) ?_ rfl ⟨.inl (killO' (i := 1000 + k) (t := 101) (by omega)), trivial⟩
    refine XRun.step rfl rfl rfl (AOp.moveD rfl rfl) ?_ rfl ⟨.inl (rfl), trivial⟩
    refine XRun.step rfl rfl rfl (AOp.weak (AOp.indexOwn rfl het_24 rfl rfl (Obs.weak_mem (p := (101, _)) (.tail _ (.tail _ (.head _)))) k rfl (by rw [List.length_map, mixS_len]; exact hlt))) ?_ rfl ⟨.inl (killP' (i := 1000 + k) (t := 101) (by omega)), trivial⟩
    refine XRun.step rfl rfl rfl (AOp.fieldAddrP rfl hfo_c6 rfl) ?_ rfl ⟨.inl (killP' (i := 1000 + k) (t := 101) (by omega)), trivial⟩
    refine XRun.step rfl rfl rfl (AOp.loadRowS (s := .d (.sl (v.copies[k].bad.map intD))) rfl hsc_75 rfl (.tail _ (.tail _ (.head _))) k 6 rfl (mixS_at hlt) rfl) ?_ rfl ⟨.inl (rfl), trivial⟩
    refine XRun.callO _ (.head _) rfl rfl rfl rfl rfl (.cons (ArgOk.rfl' rfl) .nil) (c_clInt v.copies[k].bad (by omega)) rfl rfl ?_ (hfx k)
    refine XRun.nil ⟨rfl, trivial⟩ ?_
    refine AOps.step rfl rfl rfl (AOp.weak (AOp.indexOwn rfl het_24 rfl rfl (Obs.weak_mem (p := (101, _)) (.tail _ (.tail _ (.tail _ (.head _))))) k rfl (by rw [List.length_map, mixS_len]; exact hlt))) ?_
    refine AOps.step rfl rfl rfl (AOp.fieldAddrP rfl hfo_c6 rfl) ?_
    refine AOps.eff rfl rfl (EOp.storeRowS (s := .own (1000 + k)) rfl rfl hsz_75 rfl (.tail _ (.tail _ (.tail _ (.head _)))) rfl (.own (.head _)) k 6 rfl (mixS_at hlt) (by decide)) ?_
    refine AOps.obs (own_next hlt) ?_
    refine AOps.nil ?_
    refine AWP.region ?_
    refine AOps.step rfl rfl rfl (AOp.add64 rfl rfl rfl (by omega) (by omega)) ?_
    refine AOps.mD rfl rfl rfl rfl rfl (.nil ?_)
    refine ⟨k + 1, (by omega), (by dsimp only; omega), Sub.less ⟨(SLe.of_eq rfl), SLe.refl _, SLe.refl _, SLe.refl _, trivial⟩ (fun _ h => h)⟩
  replace h1 := of_decide_eq_false h1
  rw [List.length_map, mixS_len] at h1
  obtain rfl : k = v.copies.length := by omega
  refine AWP.exit ?_
  refine AWP.seq ?_
  rw [own_end]
  refine AWP.region ?_
  refine AOps.loadVal 13 rfl rfl rfl rfl hag_v rfl (.tail _ (.head _)) (Nat.le_refl 3) (fK rfl rfl) ?_
  refine AOps.nK rfl ?_
  refine AOps.eff rfl rfl (EOp.storeVal (ss' := vaultS v) rfl rfl hsz_26 rfl (.tail _ (.head _)) rfl (.head _) rfl (Nat.le_refl 3)) ?_
  refine AOps.nU rfl ?_
  refine AOps.nil ?_
  refine AWP.ret ?_
  refine ⟨⟨12, vaultS v, rfl, .tail _ (.head _), rfl, vObs_fresh (by omega), vObs_kill (by omega)⟩, AllIn.of fun p hp => .tail _ (.tail _ (.tail _ hp))⟩

end Go.Proofs.YtieccphckobhjaaDoor


namespace Go.Proofs.YtieccphckobhjaaDoor
open Go.RowKit
set_option linter.unusedVariables false

/-! Types. -/
namespace TyQ2

end TyQ2
open TyQ2


structure LvOk (v : Vlt) (p : Pol) (frm to : Int) (hs : List Hrm) : Prop where
  vv : VOk v
  pp : POk p
  both : bothFault v p = 0
  fr : 0 ≤ frm ∧ frm ≤ 200000
  tt : frm ≤ to ∧ to ≤ 200001
  hh : HsOk v frm to hs
  out : (liveS v p frm to hs).o.length ≤ 20000
end Go.Proofs.YtieccphckobhjaaDoor


namespace Go.Proofs.YtieccphckobhjaaDoor
open Go.RowKit
set_option linter.unusedVariables false

/-! Types. -/
namespace TyQ4
theorem ag_26 : AggT Tryd.prog 26 3 := .of (by kernel_rfl)
theorem et_22 : ElemTy Tryd.prog 22 69 2 24 (.agg #[(.string ⟨#[]⟩), (.int .i64 0)]) := ⟨by kernel_rfl, by kernel_rfl, by kernel_rfl, by decide⟩
theorem fo_26_0 : fieldOff Tryd.prog 26 0 = some 0 := by kernel_rfl
theorem fo_69_1 : fieldOff Tryd.prog 69 1 = some 1 := by kernel_rfl
theorem sc_22 : Scal Tryd.prog 22 := .of (by kernel_rfl)
theorem sc_3 : Scal Tryd.prog 3 := .of (by kernel_rfl)
theorem sc_9 : Scal Tryd.prog 9 := .of (by kernel_rfl)
end TyQ4
open TyQ4


end Go.Proofs.YtieccphckobhjaaDoor


namespace Go.Proofs.YtieccphckobhjaaDoor
open Go.RowKit
set_option linter.unusedVariables false

/-! Types. -/
namespace TyQ8
theorem ag_26 : AggT Tryd.prog 26 3 := .of (by kernel_rfl)
theorem ag_28 : AggT Tryd.prog 28 6 := .of (by kernel_rfl)
end TyQ8
open TyQ8


theorem allIds_of {c : Nat → Bool} : ∀ {σ : Obs}, (∀ p ∈ σ, c p.1 = true) → Obs.allIds c σ = true
  | [], _ => rfl
  | p :: l, h => by
    unfold Obs.allIds
    rw [h p (by simp), allIds_of fun q hq => h q (List.mem_cons_of_mem _ hq)]
    rfl
theorem mem_join_l : ∀ {a b : Obs} {p : Nat × Ob}, p ∈ a → p ∈ Obs.join a b
  | x :: l, b, p, h => by
    unfold Obs.join
    rcases List.mem_cons.1 h with rfl | h
    · exact .head _
    · exact .tail _ (mem_join_l h)
theorem mem_join_r : ∀ {a b : Obs} {p : Nat × Ob}, p ∈ b → p ∈ Obs.join a b
  | [], _, _, h => h
  | x :: l, b, p, h => by
    unfold Obs.join
    exact .tail _ (mem_join_r h)
theorem vObs_ids {l : List Cpy} {q : Nat × Ob} (h : q ∈ vObs l) : q.1 = 101 ∨ 1000 ≤ q.1 := by
  rcases List.mem_cons.1 h with rfl | h
  · exact .inl rfl
  · obtain ⟨m, x, _, rfl⟩ := fam_mem h
    exact .inr (Nat.le_add_right _ _)
section
variable {cx : Cx} {ops : Array Oper} {o : Oper} {rest : List Oper} {e : Env} {σ : Obs} {Q : Post}
def preB (pre : Obs) : Bool := Obs.allIds (fun i => Nat.blt 101 i && Nat.blt i 1000) pre
theorem preB_spec {pre : Obs} (h : preB pre = true) : ∀ p ∈ pre, 101 < p.1 ∧ p.1 < 1000 := fun p hp => by
  have := Obs.allIds_mem h p hp
  simpa [Nat.blt_eq] using this
/-- The call that makes a vault of the program's own. -/
theorem AOps.callOwn {f : FuncId} {xs : List Operand} {ts : Array TypeId} {ss vs : List S} {l : List Cpy} {pre : Obs} (hg : o.guard = none) (hd : DstOk cx.N o)
    (ho : o.op = .call { callee := .value (.func f), args := xs.toArray, argTypes := ts }) (ha : ArgsS e xs ss) (h : XSCall cx.P f ss [] ((100, .val vs) :: vObs l) (fun i => Nat.ble 1000 i || Nat.blt i 102) (.own 100)) (hp : preB pre = true)
    (h3 : ∀ i, (Nat.ble 1000 i || Nat.blt i 102) = true → cx.fixp i = false) (k : AOps cx ops rest ((e.killP fun i => Nat.ble 1000 i || Nat.blt i 102).put o.dst (.own 100)) (((100, .val vs) :: Obs.killP (fun i => Nat.ble 1000 i || Nat.blt i 102) pre) ++ vObs l) Q) :
    AOps cx ops (o :: rest) e pre Q := by
  have hpr := preB_spec hp
  refine AOps.callXS hg hd ho ha h trivial (allIds_of fun p hq => ?_) (allIds_of fun p hq => allIds_of fun q hq2 => ?_) h3 (AOps.obs (fun p hq => ?_) k)
  · have hq : p ∈ pre := hq
    have := hpr p hq
    have h4 : Nat.ble 1000 p.1 = false := by rw [Bool.eq_false_iff]; intro hh; have := Nat.le_of_ble_eq_true hh; omega
    have h5 : Nat.blt p.1 102 = false := by rw [Bool.eq_false_iff]; intro hh; rw [Nat.blt_eq] at hh; omega
    simp [h4, h5]
  · have hq2 : q ∈ pre := hq2
    have := hpr q hq2
    rcases List.mem_cons.1 hq with rfl | hq
    · simp [beqF (show 100 ≠ q.1 by omega)]
    · rcases vObs_ids hq with h4 | h4 <;> simp [beqF (show p.1 ≠ q.1 by omega)]
  · rcases List.mem_append.1 hq with hq | hq
    · rcases List.mem_cons.1 hq with rfl | hq
      · exact mem_join_l (.head _)
      · exact mem_join_r hq
    · exact mem_join_l (.tail _ hq)
end
/-- Where a day stands, behind its first j harms. -/
def hAt (s : St) (day : Int) (j : Nat) : List Cpy := ((dayH s.hs day).take j).foldl harmC s.l
/-- .. behind its first k checks. -/
def cAt (every : Int) (s : St) (day : Int) (k : Nat) : List Cpy × List Dn := chkTo every day ((dayH s.hs day).foldl harmC s.l, s.o) k
/-- Where Live stands, behind n days. -/
def sAt (v : Vlt) (p : Pol) (frm : Int) (hs : List Hrm) (n : Nat) : St := liveTo p.every frm ⟨v.copies, hs, []⟩ n
set_option maxRecDepth 100000 in
set_option maxHeartbeats 1000000 in
theorem c_pBothL (v : Vlt) (p : Pol) (hs : smallV v) : ACall Tryd.prog 54 [.agg v.ds, .agg p.ds] (.v (.int .i64 (bothFault v p))) := by
  refine acall_of (n := 13) (ds' := [.v (.int .i64 (bothFault v p))]) Tryd.func54 rfl (by kernel_rfl) rfl [4] rfl rfl ?_
  intro B w0 F0 fr
  refine AWP.seq (AWP.region ?_)
  refine AOps.step rfl rfl rfl (AOp.box rfl rfl rfl) ?_
  refine AOps.step rfl rfl rfl (AOp.box rfl rfl rfl) ?_
  refine AOps.aD rfl rfl rfl rfl rfl (.nil ?_)
  refine AWP.seq ?_
  refine AWP.seq (AWP.region ?_)
  refine AOps.step rfl rfl rfl (AOp.loadAgg rfl ag_26 rfl rfl) ?_
  refine AOps.step rfl rfl rfl (AOp.call rfl (.cons (ArgOk.rfl' rfl) .nil) (c_pCheck v hs)) ?_
  refine AOps.aD rfl rfl rfl rfl rfl (.nil ?_)
  refine AWP.seq (AWP.region ?_)
  refine AOps.mD rfl rfl rfl rfl rfl ?_
  refine AOps.step rfl rfl rfl (AOp.neq rfl rfl rfl) (.nil ?_)
  refine AWP.cond rfl (fun h1 => ?_) (fun h1 => ?_)
  · replace h1 := of_decide_eq_true h1
    rw [both_v h1]
    refine AWP.seq (AWP.region ?_)
    refine AOps.mD rfl rfl rfl rfl rfl ?_
    refine AOps.aD rfl rfl rfl rfl rfl (.nil ?_)
    refine AWP.ret ?_
    refine ⟨RetD.eq rfl ?_, trivial⟩
    all_goals (rfl)
  replace h1 := of_decide_eq_false h1
  rw [both_p (Decidable.not_not.1 h1)]
  refine AWP.skip ?_
  refine AWP.seq (AWP.region ?_)
  refine AOps.step rfl rfl rfl (AOp.loadAgg rfl ag_28 rfl rfl) ?_
  refine AOps.step rfl rfl rfl (AOp.call rfl (.cons (ArgOk.rfl' rfl) .nil) (c_pPol p)) ?_
  refine AOps.aD rfl rfl rfl rfl rfl (.nil ?_)
  refine AWP.ret ?_
  refine ⟨RetD.eq rfl ?_, trivial⟩
  all_goals (rfl)

end Go.Proofs.YtieccphckobhjaaDoor


namespace Go.Proofs.YtieccphckobhjaaDoor
open Go.RowKit
set_option linter.unusedVariables false

/-! Types. -/
namespace TyQ9
theorem ag_26 : AggT Tryd.prog 26 3 := .of (by kernel_rfl)
theorem ag_28 : AggT Tryd.prog 28 6 := .of (by kernel_rfl)
theorem ag_77 : AggT Tryd.prog 77 7 := .of (by kernel_rfl)
theorem bu_26 : StructT Tryd.prog 26 (fun i => (#[(0, 1), (1, 1), (2, 1)] : Array (Nat × Nat))[i]?) [(.slice none 0 0), (.slice none 0 0), (.slice none 0 0)] := .of (by kernel_rfl) (by kernel_rfl) (by decide)
theorem et_24 : ElemTy Tryd.prog 24 77 7 96 (.agg #[(.string ⟨#[]⟩), (.string ⟨#[]⟩), (.string ⟨#[]⟩), (.int .i64 0), (.int .i64 0), (.int .i64 0), (.slice none 0 0)]) := ⟨by kernel_rfl, by kernel_rfl, by kernel_rfl, by decide⟩
theorem fo_26_2 : fieldOff Tryd.prog 26 2 = some 2 := by kernel_rfl
theorem fo_28_3 : fieldOff Tryd.prog 28 3 = some 3 := by kernel_rfl
theorem fo_77_4 : fieldOff Tryd.prog 77 4 = some 4 := by kernel_rfl
theorem sc_24 : Scal Tryd.prog 24 := .of (by kernel_rfl)
theorem sc_3 : Scal Tryd.prog 3 := .of (by kernel_rfl)
theorem sz_26 : ∀ w, (sizeOf 26).run Tryd.prog w = .ok 3 w := SizeT.of (by kernel_rfl)
theorem sz_77 : ∀ w, (sizeOf 77).run Tryd.prog w = .ok 7 w := SizeT.of (by kernel_rfl)
theorem zt_26 : (Tryd.prog.info? 26).bind (·.zero) = some (.agg #[(.slice none 0 0), (.slice none 0 0), (.slice none 0 0)]) := by kernel_rfl
theorem zt_77 : (Tryd.prog.info? 77).bind (·.zero) = some (.agg #[(.string ⟨#[]⟩), (.string ⟨#[]⟩), (.string ⟨#[]⟩), (.int .i64 0), (.int .i64 0), (.int .i64 0), (.slice none 0 0)]) := by kernel_rfl
end TyQ9
open TyQ9


def cpyW (c : Cpy) : List D := [.v (.string c.item), .v (.string c.carrier), .v (.string c.frm), .v (.int .i64 c.day), .v (.int .i64 c.last), .v (.int .i64 c.gen), .any]
end Go.Proofs.YtieccphckobhjaaDoor


namespace Go.Proofs.YtieccphckobhjaaDoor
open Go.RowKit
set_option linter.unusedVariables false

/-- What the operation gives depends on x's value alone; or it gives nothing. -/
def PureOp (P : Program) (o : Oper) (x : Operand) : Prop := ∀ u : Value, (∃ v, ∀ (a : Act) (w : World), a.eval x = u → (execOp a.eval o).run P w = .ok (.value v) w) ∨
  (∀ (a : Act) (w : World) (K : Act → World → Prop) (Q : Exit → Act → World → Prop), (∀ e a w, e ≠ .normal → ¬ Q e a w) → a.eval x = u → ¬ o.wp P a w K Q)
theorem PureOp.move {P : Program} {o : Oper} {x : Operand} (h : o.op = .move x) : PureOp P o x := fun u => .inl ⟨u, fun a w hx => by
  unfold execOp
  simp only [h, hx, Sem.run_pure]⟩
theorem PureOp.extract {P : Program} {o : Oper} {x : Operand} {i : Nat} (h : o.op = .extract x i) : PureOp P o x := fun u => by
  by_cases hu : ∃ vs v, u = .tuple vs ∧ vs[i]? = some v
  · obtain ⟨vs, v, rfl, hv⟩ := hu
    refine .inl ⟨v, fun a w hx => ?_⟩
    unfold execOp
    simp only [h, hx, Instr.extract, hv, Sem.run_bind, Sem.run_pure, Result.andThen_ok]
  · refine .inr fun a w K Q hQ hx hw => ?_
    unfold Oper.wp execOp at hw
    simp only [h, hx] at hw
    cases u with
    | tuple vs =>
      cases hv : vs[i]? with
      | some v => exact hu ⟨vs, v, rfl, hv⟩
      | none => simp only [Instr.extract, hv, Sem.run_bind] at hw; exact hw
    | _ => simp only [Instr.extract, Sem.run_bind] at hw; exact hw
/-- From k on each one waits for all before it, but for those of L ahead of k. -/
def Region.chainLB (ops : Array Oper) (L : Nat → Bool) (k : Nat) : Bool := Region.downB ops && Nat.ble k ops.size && (List.range (ops.size - 1)).all fun j =>
  (L j && Nat.blt j k) || (List.range ops.size).any fun m => Nat.blt j m && (Nat.ble m k || Nat.ble m (j + 1)) && (!(L m) || Nat.ble k m) && Region.edge ops m j
structure ChainL (ops : Array Oper) (L : Nat → Bool) (k : Nat) : Prop where
  down : Region.downB ops = true
  le : k ≤ ops.size
  next : ∀ j, (L j = false ∨ k ≤ j) → j < ops.size - 1 → ∃ m, j < m ∧ (m ≤ k ∨ m ≤ j + 1) ∧ (L m = false ∨ k ≤ m) ∧ Region.edge ops m j = true
theorem ChainL.of {ops : Array Oper} {L : Nat → Bool} {k : Nat} (h : Region.chainLB ops L k = true) : ChainL ops L k := by
  unfold Region.chainLB at h
  simp only [Bool.and_eq_true] at h
  obtain ⟨⟨h1, h2⟩, h3⟩ := h
  refine ⟨h1, Nat.le_of_ble_eq_true h2, fun j hL hj => ?_⟩
  have h4 := List.all_eq_true.1 h3 j (List.mem_range.2 hj)
  rw [Bool.or_eq_true] at h4
  rcases h4 with h4 | h4
  · simp only [Bool.and_eq_true, Nat.blt_eq] at h4
    rcases hL with hL | hL
    · rw [hL] at h4; simp at h4
    · omega
  · obtain ⟨m, _, hm⟩ := List.any_eq_true.1 h4
    simp only [Bool.and_eq_true, Bool.or_eq_true, Nat.blt_eq, Bool.not_eq_true'] at hm
    exact ⟨m, hm.1.1.1, hm.1.1.2.imp Nat.le_of_ble_eq_true Nat.le_of_ble_eq_true, hm.1.2.imp id Nat.le_of_ble_eq_true, hm.2⟩
section
variable {P : Program} {ops : Array Oper} {Q Q0 : Exit → Act → World → Prop} {k : Nat} {L : Nat → Bool}
/-- The operations of L: pure, unguarded, apart from whoever is not bound to come after. -/
structure LateOk (P : Program) (ops : Array Oper) (L : Nat → Bool) (k : Nat) : Prop where
  op : ∀ i, L i = true → i < k → ∃ oi x d, ops[i]? = some oi ∧ PureOp P oi x ∧ (∀ t, x = .tmp t → t ∈ oi.looksAt ops) ∧ oi.dst = some d ∧ oi.guard = none
  sel : ∀ (j : Nat) (oj : Oper), ops[j]? = some oj → notSelect oj = true
  apart : ∀ i oi, L i = true → i < k → ops[i]? = some oi → ∀ (j : Nat) (oj : Oper), ops[j]? = some oj → j ≠ i → (∀ e ∈ oj.after, Region.binds .any e = true → e.on ≠ i) → (∀ e ∈ oi.after, Region.binds .any e = true → e.on ≠ j) → oi.apart ops oj = true
end
/-- The late ones, by a look at them. -/
def pureB (o : Oper) : Bool := (match o.op with | .move _ => true | .extract _ _ => true | _ => false) && o.guard.isNone && o.dst.isSome
theorem pureB_spec {P : Program} {ops : Array Oper} {o : Oper} (h : pureB o = true) : ∃ x d, PureOp P o x ∧ (∀ t, x = .tmp t → t ∈ o.looksAt ops) ∧ o.dst = some d ∧ o.guard = none := by
  unfold pureB at h
  simp only [Bool.and_eq_true] at h
  obtain ⟨⟨h1, h2⟩, h3⟩ := h
  obtain ⟨d, hd⟩ := Option.isSome_iff_exists.1 h3
  have hg : o.guard = none := by simpa using h2
  cases hop : o.op with
  | move x => exact ⟨x, d, .move hop, fun t ht => looks_op (by rw [hop, ht]; simp [Op.operands]), hd, hg⟩
  | extract x i => exact ⟨x, d, .extract hop, fun t ht => looks_op (by rw [hop, ht]; simp [Op.operands]), hd, hg⟩
  | _ => rw [hop] at h1; simp at h1
def lateB (ops : Array Oper) (L : List Nat) (k : Nat) : Bool := (ops.toList.all notSelect) && L.all fun i => Nat.blt i k && ((ops[i]?).map fun oi => pureB oi && (List.range ops.size).all fun j => Nat.beq j i || Region.edge ops j i || Region.edge ops i j || ((ops[j]?).map fun oj => oi.apart ops oj).getD true).getD false
theorem LateOk.of {P : Program} {ops : Array Oper} {L : List Nat} {k : Nat} (h : lateB ops L k = true) : LateOk P ops (fun i => L.contains i) k := by
  unfold lateB at h
  simp only [Bool.and_eq_true] at h
  have hL : ∀ i, L.contains i = true → ∃ oi, ops[i]? = some oi ∧ pureB oi = true ∧ ∀ j oj, ops[j]? = some oj → j ≠ i → (∀ e ∈ oj.after, Region.binds .any e = true → e.on ≠ i) → (∀ e ∈ oi.after, Region.binds .any e = true → e.on ≠ j) → oi.apart ops oj = true := fun i hi => by
    have h1 := List.all_eq_true.1 h.2 i (List.contains_iff_mem.1 hi)
    simp only [Bool.and_eq_true] at h1
    cases ho : ops[i]? with
    | none => rw [ho] at h1; simp at h1
    | some oi =>
      rw [ho] at h1
      simp only [Option.map_some, Option.getD_some, Bool.and_eq_true] at h1
      refine ⟨oi, rfl, h1.2.1, fun j oj hj hji hn hn2 => ?_⟩
      have h2 := List.all_eq_true.1 h1.2.2 j (List.mem_range.2 (Array.getElem?_eq_some_iff.1 hj).1)
      rw [hj] at h2
      simp only [Option.map_some, Option.getD_some, Bool.or_eq_true] at h2
      rcases h2 with ((h2 | h2) | h2) | h2
      · exact absurd (Nat.eq_of_beq_eq_true h2) hji
      · obtain ⟨o, ho2, e, he, hb, heq⟩ := Region.edge_spec h2
        rw [hj] at ho2; cases ho2
        exact absurd heq (hn e he hb)
      · obtain ⟨o, ho2, e, he, hb, heq⟩ := Region.edge_spec h2
        rw [ho] at ho2; cases ho2
        exact absurd heq (hn2 e he hb)
      · exact h2
  refine ⟨fun i hi _ => ?_, fun j oj hj => List.all_eq_true.1 h.1 oj (by simpa using Array.mem_of_getElem? hj), fun i oi hi _ hoi j oj hj hji hn hn2 => ?_⟩
  · obtain ⟨oi, h1, h2, _⟩ := hL i hi
    obtain ⟨x, d, h3, h4, h5, h6⟩ := pureB_spec (P := P) (ops := ops) h2
    exact ⟨oi, x, d, h1, h3, h4, h5, h6⟩
  · obtain ⟨oi', h1, _, h3⟩ := hL i hi
    rw [hoi] at h1; cases h1
    exact h3 j oj hj hji hn hn2
def QN (Q : Post) : Post := fun ex e σ => match ex with | .normal => Q .normal e σ | _ => False
end Go.Proofs.YtieccphckobhjaaDoor
