/- Walks and laws over abstract values, merged by tools/merge.py. No statement of the seat. -/
import Derived.Laws.Cover3
import Derived.Test.YtcfamaddnmnaeaaGreatDoorZA4

namespace Go.Proofs.YtcfamaddnmnaeaaGreatDoor
open Go.RowKit
set_option linter.unusedVariables false

/-! Types. -/
namespace TyU4
end TyU4
open TyF0 TyF1 TyF2 TyF3 TyF4 TyF5 TyF6 TyF7 TyF8 TyF9 TyF10 TyF11 TyG1 TyG2 TyG5 TyU1 TyU2 TyU3 TyU4

open Go.Lib
/-- The number of the first one; -1: there is none. -/
def idxBy {α : Type} (p : α → Bool) (l : List α) : Int := if l.any p then (l.findIdx p : Int) else -1
def grpFB (g : Grp) (b : ByteArray) : Int := if nameOk g.name = false then 5 else if sle g.name b = true then 8 else grpF0 g
def dealFB (c : Ctr) (d : Deal) (b : ByteArray) : Int := if nameOk d.name = false then 5 else if sle d.name b = true then 8 else dealF0 c d
def okGrp (g : Grp) : Prop := g.name.size ≤ 9223372036854775807 ∧ ∀ s ∈ g.cut, s.party.size ≤ 9223372036854775807

end Go.Proofs.YtcfamaddnmnaeaaGreatDoor

namespace Go.Proofs.YtcfamaddnmnaeaaGreatDoor
open Go.RowKit
set_option linter.unusedVariables false

/-- f, called with what reads as ds, returns a new row whose elements read as els, and that nobody else has. -/
def OCall (P : Program) (f : FuncId) (ds : List D) (ee size : Nat) (els : List (List D)) : Prop := Enters P f ∧
  ∀ (F : Nat → Prop) (w : World) (vs : List Value), (∀ b, F b → b < w.heap.size) → RepL F w vs ds →
    Calls P f vs.toArray w fun r w' => ∃ v F', r = .returned v ∧ Ext F w F' w' ∧ ObOk w.heap.size F' (fun _ => v) w' 0 (.row ee size els)

theorem OCall.eq {P : Program} {f : FuncId} {ds : List D} {ee size : Nat} {els els' : List (List D)} (h : OCall P f ds ee size els) (he : els = els') : OCall P f ds ee size els' := he ▸ h
section
variable {cx : Cx} {ops : Array Oper} {o : Oper} {rest : List Oper} {e : Env} {σ : Obs} {Q : Post}
end

section
variable {P : Program} {B : Nat} {ops : Array Oper} {o : Oper} {e : Env} {σ : Obs}
end

/-! ## Contracts -/
def RetO (t ee size : Nat) (els : List (List D)) : Post := fun ex e σ => match ex with
  | .ret => ∃ id, e t = .own id ∧ (id, Ob.row ee size els) ∈ σ
  | .normal => ∃ id, e t = .own id ∧ (id, Ob.row ee size els) ∈ σ
  | _ => False
theorem acall_ofRT {T : World → Prop} {P : Program} {f : FuncId} {fn : Func} {c : Code} {n : Nat} {ds ds' : List D} (hf : P.funcs[f]? = some fn) (hb : fn.body = some c) (hn : (fn.name == "runtime.NumGoroutine") = false) (hN : fn.ntmps = n)
    (rs : List ResultVar) (hr : fn.results = rs.toArray) (hle' : Nat.ble ds.length n = true) (h : ∀ B w0 F0, T w0 → AWP ⟨P, n, B, w0, F0, (fun b => w0.heap.size ≤ b), fun _ => false, fun _ => undef⟩ c (Env.args 0 ds) [] (RetQR P rs ds')) : ACallT P T f ds (retOf ds') := by
  have hle : ds.length ≤ n := Nat.le_of_ble_eq_true hle'
  refine ⟨Enters.of hf hn (by rw [hb]; rfl), fun F w vs hT hF hv => ?_⟩
  refine calls_of_wp hf hb ?_
  have hR : R ⟨P, n, w.heap.size, w, F, (fun b => w.heap.size ≤ b), fun _ => false, fun _ => undef⟩ (Env.args 0 ds) [] { tmps := vs.toArray ++ Array.replicate (fn.ntmps - vs.toArray.size) undef, defers := [] } w := by
    refine ⟨F, fun _ => undef, ?_, rfl, hF, fun b hb => hb, fun b hb => .inl hb, Kept.refl _ _, Nat.le_refl _, fun t => ?_, ⟨fun p hp => by simp at hp, fun p hp => by simp at hp, fun p hp => by simp at hp⟩, fun b hb => hb, fun p hp => by simp at hp, fun i hi => by simp at hi⟩
    · simp [hN, hv.1]; omega
    · by_cases ht : t < ds.length
      · have := Env.args_get ds 0 t ht
        rw [Nat.zero_add] at this
        rw [this]
        have hvt : t < vs.length := by rw [hv.1]; exact ht
        have : (vs.toArray ++ Array.replicate (fn.ntmps - vs.toArray.size) undef).getD t undef = vs[t] := by
          rw [Array.getD_eq_getD_getElem?, Array.getElem?_append_left (by simpa using hvt)]
          simp [hvt]
        rw [this]
        exact .d (hv.2 t hvt ht)
      · have := Env.args_out ds 0 t (by omega)
        rw [Nat.zero_add] at this
        rw [this]
        exact .d (.any _)
  refine wp_mono (h _ _ _ hT _ _ hR) ?_
  rintro ex a w' ⟨e', σ', hq, F', ρ', hr'⟩
  have hends : RetRs P e' σ' rs ds' → bodyPost P fn (fun e w' => ∃ v F', e = .returned v ∧ Rep F' w' v (retOf ds') ∧ Ext F w F' w') .ret a w' := by
    intro hq
    obtain ⟨vs', hrun, hl⟩ := RetRs.rep hr' hq
    have hres : (results fn a.tmps).run P w' = .ok (match vs' with | [x] => x | l => .tuple l.toArray) w' := by
      unfold results
      rw [hr, Sem.run_bind]
      have h2 : (Array.mapM (fun r => match r with | ResultVar.tmp t => pure (a.tmps.getD t undef) | ResultVar.cell b t => do loadVar t (← asAddr (a.tmps.getD b undef))) rs.toArray : Sem (Array Value)).run P w' = .ok vs'.toArray w' := by
        rw [List.mapM_toArray, Sem.run_map]
        have h4 : (List.mapM (fun r => match r with | ResultVar.tmp t => pure (a.tmps.getD t undef) | ResultVar.cell b t => do loadVar t (← asAddr (a.tmps.getD b undef))) rs : Sem (List Value)).run P w' = .ok vs' w' := hrun
        rw [h4]
        rfl
      refine (congrArg (fun r => Result.andThen r _) h2).trans ?_
      simp only [Result.andThen_ok]
      rcases vs' with _ | ⟨t, _ | ⟨t2, ts⟩⟩ <;> rfl
    refine ⟨hr'.defers, _, hres, _, endF F' ρ' σ', rfl, ?_, endF_ext hr' (fun b hb => hb)⟩
    obtain ⟨h1, h2⟩ := hl
    rcases ds' with _ | ⟨d, _ | ⟨d2, ds'⟩⟩
    · have : vs' = [] := List.eq_nil_of_length_eq_zero h1
      subst this
      exact .tup [] [] rfl (fun i h1 => absurd h1 (by simp))
    · rcases vs' with _ | ⟨x, _ | ⟨y, vs'⟩⟩ <;> simp at h1
      exact h2 0 (by simp) (by simp)
    · rcases vs' with _ | ⟨x, _ | ⟨y, vs'⟩⟩
      · simp at h1
      · simp at h1
      · exact .tup _ _ h1 h2
  cases ex with
  | ret => exact hends hq
  | normal => exact hends hq
  | exit id => exact hq.elim
  | goto l => exact hq.elim
  | panic c => exact hq.elim
  | outgrown => exact hq.elim

end Go.Proofs.YtcfamaddnmnaeaaGreatDoor

namespace Go.Proofs.YtcfamaddnmnaeaaGreatDoor
open Go.RowKit
set_option linter.unusedVariables false

/-- One operation, from worlds that keep what was there at the beginning. -/
def AOpK (cx : Cx) (ops : Array Oper) (o : Oper) (e : Env) (σ : Obs) (s : S) : Prop :=
  ∀ (F : Nat → Prop) (ρ : Nat → Value) (w : World) (a : Act), Kept cx.fr cx.w0 w → (∀ b, F b → b < w.heap.size) → (∀ t, t ∈ o.looksAt ops → RepS F ρ w (a.tmps.getD t undef) (e t)) → ObsOk cx.B F ρ w σ →
    o.wp cx.P a w (fun a' w' => ∃ v F', a' = a.put o.dst v ∧ RepS F' ρ w' v s ∧ Ext F w F' w') (fun _ _ _ => False)
def KRun (cx : Cx) (ops : Array Oper) (σ : Obs) : List Oper → Env → (Env → Prop) → Prop
  | [], e, Qe => Qe e
  | o :: l, e, Qe => DstOk cx.N o ∧ ((∃ s, GW ops o e true ∧ AOpK cx ops o e σ s ∧ KRun cx ops σ l (e.put o.dst s) Qe) ∨ (GW ops o e false ∧ KRun cx ops σ l (e.put o.dst (.d (.v undef))) Qe))

theorem KRun.nil {cx : Cx} {ops : Array Oper} {σ : Obs} {e : Env} {Qe : Env → Prop} (h : Qe e) : KRun cx ops σ [] e Qe := h
def KStep (cx : Cx) (ops : Array Oper) (σ : Obs) (o : Oper) (e : Env) (s : S) : Prop :=
  (GW ops o e true ∧ AOpK cx ops o e σ s) ∨ (GW ops o e false ∧ s = .d (.v undef))

def anyK (cx : Cx) (ops : Array Oper) (σ : Obs) (Qe : Env → Prop) : Nat → Array Bool → Env → Prop
  | 0, listed, e => Region.ready .any ops listed = [] ∧ Qe e
  | fuel + 1, listed, e => (Region.ready .any ops listed = [] → Qe e) ∧
      ∀ i ∈ Region.ready .any ops listed, ∀ o, ops[i]? = some o → ∃ s, KStep cx ops σ o e s ∧ anyK cx ops σ Qe fuel (listed.setIfInBounds i true) (e.put o.dst s)

end Go.Proofs.YtcfamaddnmnaeaaGreatDoor

namespace Go.Proofs.YtcfamaddnmnaeaaGreatDoor
open Go.RowKit
set_option linter.unusedVariables false

/-- What it is as data, while the own objects rest. -/
inductive Snap (σ : Obs) : S → D → Prop where
  | d (x : D) : Snap σ (.d x) x
  | any (s : S) : Snap σ s .any
  | le {s : S} {d d' : D} (h : Snap σ s d) (k : Le d d') : Snap σ s d'
  | row {id e size : Nat} {els : List (List D)} (h : (id, Ob.row e size els) ∈ σ) : Snap σ (.own id) (.sl els)
  | rowS {id e size : Nat} {els : List (List S)} {ds : List (List D)} (h : (id, Ob.rowS e size els) ∈ σ) (hl : els.length = ds.length) (hs : ∀ i (h1 : i < els.length) (h2 : i < ds.length), els[i].length = ds[i].length)
      (hr : ∀ i (h1 : i < els.length) (h2 : i < ds.length) j (h3 : j < els[i].length) (h4 : j < ds[i].length), Snap σ els[i][j] ds[i][j]) : Snap σ (.own id) (.sl ds)
  | val {id : Nat} {ss : List S} {ds : List D} (h : (id, Ob.val ss) ∈ σ) (hl : ss.length = ds.length) (hr : ∀ i (h1 : i < ss.length) (h2 : i < ds.length), Snap σ ss[i] ds[i]) : Snap σ (.own id) (.agg ds)
  | ptr {id off : Nat} {ss : List S} {ds : List D} (h : (id, Ob.cells ss) ∈ σ) (hl : off + ds.length ≤ ss.length) (hr : ∀ i (h1 : off + i < ss.length) (h2 : i < ds.length), Snap σ ss[off + i] ds[i]) : Snap σ (.ptr id off) (.fp ds)
  | ptrS {id e size k : Nat} {els : List (List S)} {ds : List D} (h : (id, Ob.rowS e size els) ∈ σ) (hk : k < els.length) (hl : els[k].length = ds.length) (hr : ∀ j (h1 : j < els[k].length) (h2 : j < ds.length), Snap σ els[k][j] ds[j]) : Snap σ (.ptr id (k * size)) (.fp ds)
  | clo {f : FuncId} {caps : List Cap} {ds : List D} (hl : caps.length = ds.length) (hr : ∀ i (h1 : i < caps.length) (h2 : i < ds.length), Snap σ caps[i].toS ds[i]) : Snap σ (.clo f caps) (.clo (.func f) ds)

theorem obS_row {B : Nat} {F : Nat → Prop} {ρ : Nat → Value} {w : World} {σ : Obs} (h : ObsOk B F ρ w σ) {id ee size : Nat} {els : List (List S)} (hm : (id, Ob.rowS ee size els) ∈ σ) (hne : 0 < els.length) :
    ∃ g cap, ∃ vs : Nat → Nat → Value, ρ id = .slice (some ⟨g, 0, none⟩) els.length cap ∧ blk (ρ id) = some g ∧ els.length ≤ cap ∧ cap ≤ 9223372036854775807 ∧ (∀ k j, k < els.length → j < size → w.cell? ⟨g, k * size + j, none⟩ = some (vs k j)) ∧
      (∀ k (hk : k < els.length), els[k].length = size) ∧ (∀ k (hk : k < els.length) j (hj : j < els[k].length), (vs k j).oneCell' = true ∧ RepS F ρ w (vs k j) els[k][j]) := by
  obtain ⟨xs, h1, h2, h3, _⟩ := h.ok _ hm
  dsimp only at h1
  rcases h1.2 with ⟨_, h4⟩ | ⟨g, cap, cur, h4, h5, h6, h7, h8, _⟩
  · omega
  · exact ⟨g, cap, xs, h4, by rw [h4]; rfl, h7, by unfold maxLen at h8; omega, fun k j hk hj => row_cell h1 h4 h6 hk hj, h2, h3⟩

theorem Snap.rep {B : Nat} {F : Nat → Prop} {ρ : Nat → Value} {w : World} {σ : Obs} (hσ : ObsOk B F ρ w σ) {s : S} {d : D} (h : Snap σ s d) : ∀ x, RepS F ρ w x s → Rep (endF F ρ σ) w x d := by
  induction h with
  | d y => exact fun x hx => (repS_d hx).mono (fun b hb => .inl hb) fun _ _ => rfl
  | any s => exact fun x _ => .any x
  | le h k ih => exact fun x hx => k _ _ _ (ih x hx)
  | row hm =>
    intro x hx
    cases hx
    exact ob_rep hσ hm
  | @rowS id e size els ds hm hl hs hr ih =>
    intro x hx
    cases hx
    by_cases hne : 0 < els.length
    · obtain ⟨g, cap, vs, h1, h2, h3, h4, h5, h6, h7⟩ := obS_row hσ hm hne
      rw [h1, hl]
      refine .sl ⟨g, 0, none⟩ cap size ds vs (by omega) h4 (fun _ => .inr ⟨_, hm, h2⟩) (fun i hi => by rw [← hs i (by omega) hi]; exact h6 i (by omega)) (fun i j hi hj => ?_) (fun i j hi hj => ?_) (fun i hi j hj => ?_)
      · rw [addr_add, Nat.zero_add]; exact h5 i j (by omega) hj
      · exact (h7 i (by omega) j (by rw [h6 i (by omega)]; exact hj)).1
      · exact ih i (by omega) hi j (by rw [hs i (by omega) hi]; exact hj) hj _ (h7 i (by omega) j (by rw [hs i (by omega) hi]; exact hj)).2
    · obtain ⟨xs, h1, _⟩ := hσ.ok _ hm
      dsimp only at h1
      have h0 : els.length = 0 := by omega
      have hds : ds = [] := List.eq_nil_of_length_eq_zero (by omega)
      subst hds
      rcases h1.2 with ⟨h4, _⟩ | ⟨g, cap, cur, h4, h5, h6, h7, h8, _⟩
      · rw [h4]; exact .nil
      · rw [h4, h0]
        exact .sl ⟨g, 0, none⟩ cap size [] (fun _ _ => undef) (by simp) (by unfold maxLen at h8; omega) (fun h => absurd h (by simp)) (fun i hi => absurd hi (by simp)) (fun i j hi => absurd hi (by simp)) (fun i j hi => absurd hi (by simp)) (fun i hi => absurd hi (by simp))
  | @val id ss ds hm hl hr ih =>
    intro x hx
    cases hx
    obtain ⟨cs, h1, h2, h3⟩ := hσ.ok _ hm
    dsimp only at h1
    rw [h1]
    exact .agg cs ds (by omega) (fun i hi => (h3 i hi (by omega)).1) (fun i hi hi2 => ih i (by omega) hi2 _ (h3 i hi (by omega)).2)
  | @ptr id off ss ds hm hl hr ih =>
    intro x hx
    obtain ⟨g, ty, cs, h1, h2, h3, h4, h5, h6⟩ := hσ.ok _ hm
    dsimp only at h1
    have hv := ptr_at hx (g := g) (by rw [h1]; rfl)
    rw [hv]
    refine .fp ⟨g, off, none⟩ ds (fun j => cs.getD (off + j) undef) (.inr ⟨_, hm, by rw [h1]; rfl⟩) (fun j hj => ?_) (fun j hj => ?_) (fun j hj => ?_)
    · have hjc : off + j < cs.length := by omega
      rw [addr_add, cell_of_row w g (off + j) cs.toArray ty (0, 0) h4]
      simp [hjc]
    · have hjc : off + j < cs.length := by omega
      have := (h6 (off + j) hjc (by omega)).1
      simpa [hjc] using this
    · have hjc : off + j < cs.length := by omega
      have := ih j (by omega) hj _ (h6 (off + j) hjc (by omega)).2
      simpa [hjc] using this
  | @ptrS id e size k els ds hm hk hl hr ih =>
    intro x hx
    obtain ⟨g, cap, vs, h1, h2, h3, h4, h5, h6, h7⟩ := obS_row hσ hm (by omega)
    have hv := ptr_at hx (g := g) h2
    rw [hv]
    refine .fp ⟨g, k * size, none⟩ ds (fun j => vs k j) (.inr ⟨_, hm, h2⟩) (fun j hj => ?_) (fun j hj => ?_) (fun j hj => ?_)
    · rw [addr_add]
      exact h5 k j hk (by rw [← h6 k hk]; omega)
    · exact (h7 k hk j (by omega)).1
    · exact ih j (by omega) hj _ (h7 k hk j (by omega)).2
  | @clo f caps ds hl hr ih =>
    intro x hx
    cases hx with
    | clo _ cs _ hcs =>
      have h1 := hcs.toS
      have h2 : cs.length = caps.length := by simpa using h1.1
      refine .clo (.func f) cs ds (by omega) fun i hi hi2 => ih i (by omega) hi2 _ ?_
      have h3 := h1.2 i hi (by simp; omega)
      rw [List.getElem_map] at h3
      exact h3

/-- Data that holds no memory. -/
inductive Plain : D → Prop where
  | v (x : Value) : Plain (.v x)
  | any : Plain .any
  | agg (ds : List D) (h : ∀ d ∈ ds, Plain d) : Plain (.agg ds)
  | tup (ds : List D) (h : ∀ d ∈ ds, Plain d) : Plain (.tup ds)
def SnapArgs (e : Env) (σ : Obs) : List Operand → List D → Prop
  | [], [] => True
  | x :: xs, d :: ds => Snap σ (e.ev x) d ∧ SnapArgs e σ xs ds
  | _, _ => False
theorem SnapArgs.nil {e : Env} {σ : Obs} : SnapArgs e σ [] [] := trivial
section
variable {P : Program} {B : Nat} {ops : Array Oper} {o : Oper} {e : Env} {σ : Obs}
/-- One cell of a row of rows. -/
theorem AOp.loadRowS {t : TypeId} {x : Operand} {id off ee size : Nat} {els : List (List S)} {ss : List S} {s : S} (ho : o.op = .load t x) (hT : Scal P t) (hx : e.ev x = .ptr id off) (hm : (id, Ob.rowS ee size els) ∈ σ) (k j : Nat) (hoff : off = k * size + j) (hk : els[k]? = some ss) (hd : ss[j]? = some s) :
    AOp P B ops o e σ s :=
  .value fun F ρ w a hF hr hσ => by
  have h1 := hr x (by rw [ho]; simp [Op.operands])
  rw [hx] at h1
  have hlt : k < els.length := (List.getElem?_eq_some_iff.1 hk).1
  have hde : els[k] = ss := (List.getElem?_eq_some_iff.1 hk).2
  have hjl : j < ss.length := (List.getElem?_eq_some_iff.1 hd).1
  have hdd : ss[j] = s := (List.getElem?_eq_some_iff.1 hd).2
  obtain ⟨g, cap, vs, _, h2, _, _, h5, h6, h7⟩ := obS_row hσ hm (by omega)
  have hv := ptr_at h1 (g := g) h2
  have hsz := h6 k hlt
  rw [hde] at hsz
  have hc := h5 k j hlt (by omega)
  have hrep := (h7 k hlt j (by rw [hde]; exact hjl)).2
  refine ⟨vs k j, F, w, ?_, ?_, Ext.refl hF⟩
  · unfold execOp
    simp only [ho, hv, hoff, Instr.loadAt, Instr.sureAddr, loadVar, Sem.run_bind, Sem.run_pure, Result.andThen_ok, hT w, Bool.false_eq_true, if_false, run_load, hc]
  · simp only [hde, hdd] at hrep
    exact hrep
/-- What of it is data. -/
def S.weak : S → D
  | .d x => x
  | _ => .any
def Ob.weak : Ob → Ob
  | .rowS e size els => .row e size (els.map fun ss => ss.map S.weak)
  | o => o
def Obs.weak : Obs → Obs
  | [] => []
  | p :: l => (p.1, p.2.weak) :: Obs.weak l
theorem Obs.mem_weak : ∀ {σ : Obs} {p : Nat × Ob}, p ∈ Obs.weak σ → ∃ q ∈ σ, p = (q.1, q.2.weak)
  | [], _, h => by cases h
  | x :: l, p, h => by
    unfold Obs.weak at h
    cases h with
    | head => exact ⟨x, by simp, rfl⟩
    | tail _ h => obtain ⟨q, hq, he⟩ := Obs.mem_weak h; exact ⟨q, List.mem_cons_of_mem _ hq, he⟩
theorem Obs.weak_mem : ∀ {σ : Obs} {p : Nat × Ob}, p ∈ σ → (p.1, p.2.weak) ∈ Obs.weak σ
  | [], _, h => by cases h
  | x :: l, p, h => by
    unfold Obs.weak
    cases h with
    | head => exact .head _
    | tail _ h => exact .tail _ (Obs.weak_mem h)
theorem ObOk.weak {B : Nat} {F : Nat → Prop} {ρ : Nat → Value} {w : World} {id : Nat} {o : Ob} (h : ObOk B F ρ w id o) : ObOk B F ρ w id o.weak := by
  cases o with
  | rowS e size els =>
    obtain ⟨xs, h1, h2, h3, h4⟩ := h
    refine ⟨xs, by rw [List.length_map]; exact h1, fun k hk => by rw [List.getElem_map, List.length_map]; exact h2 k (by simpa using hk), fun k hk j hj => ?_, h4⟩
    have hk' : k < els.length := by simpa using hk
    have hj' : j < els[k].length := by simpa using hj
    simp only [List.getElem_map]
    refine ⟨(h3 k hk' j hj').1, ?_⟩
    have h5 := (h3 k hk' j hj').2
    cases hs : els[k][j] with
    | d x => rw [hs] at h5; exact repS_d h5
    | own i => exact .any _
    | ptr i off => exact .any _
    | clo f caps => exact .any _
  | row e size els => exact h
  | cells ss => exact h
  | cellsT ty0 ss => exact h
  | map M => exact h
  | bts l => exact h
  | val ss => exact h
  | iter M done => exact h
theorem ObsOk.weak {B : Nat} {F : Nat → Prop} {ρ : Nat → Value} {w : World} {σ : Obs} (h : ObsOk B F ρ w σ) : ObsOk B F ρ w (Obs.weak σ) := by
  refine ⟨fun p hp => ?_, fun p hp q hq => ?_, fun p hp q hq he => ?_⟩
  · obtain ⟨q, hq, rfl⟩ := Obs.mem_weak hp
    exact (h.ok q hq).weak
  · obtain ⟨p', hp', rfl⟩ := Obs.mem_weak hp
    obtain ⟨q', hq', rfl⟩ := Obs.mem_weak hq
    exact h.apart p' hp' q' hq'
  · obtain ⟨p', hp', rfl⟩ := Obs.mem_weak hp
    obtain ⟨q', hq', rfl⟩ := Obs.mem_weak hq
    rw [h.uniq p' hp' q' hq' he]
/-- What only reads data of a row of rows. -/
theorem AOp.weak {s : S} (h : AOp P B ops o e (Obs.weak σ) s) : AOp P B ops o e σ s := fun F ρ w a hF hr hσ => h F ρ w a hF hr hσ.weak
end
section
variable {cx : Cx} {ops : Array Oper} {o : Oper} {rest : List Oper} {e : Env} {σ : Obs} {Q : Post}
/-- Own objects, told anew. -/
theorem AWP.obs {c : Code} {σ' : Obs} (h : ∀ p ∈ σ', p ∈ σ) (k : AWP cx c e σ' Q) : AWP cx c e σ Q := fun a w ⟨F, ρ, hr⟩ => k a w ⟨F, ρ, hr.size, hr.defers, hr.lt, hr.base, hr.new, hr.below, hr.hB, hr.env, hr.obs.sub h, hr.up, fun p hp => hr.kown p (h p hp), hr.fixed⟩
theorem AWP.obsEq {c : Code} (σ' : Obs) (h : σ = σ') (k : AWP cx c e σ' Q) : AWP cx c e σ Q := h ▸ k
theorem AllIn.of {σ : Obs} : ∀ {l : Obs}, (∀ p ∈ l, p ∈ σ) → AllIn σ l
  | [], _ => trivial
  | x :: l, h => ⟨h x (by simp), AllIn.of fun p hp => h p (List.mem_cons_of_mem _ hp)⟩
end
end Go.Proofs.YtcfamaddnmnaeaaGreatDoor

namespace Go.Proofs.YtcfamaddnmnaeaaGreatDoor
open Go.RowKit
set_option linter.unusedVariables false

/-- One cell's worth. -/
def OneS (σ : Obs) (s : S) : Prop := (∃ x : D, s = .d x ∧ x.one = true ∧ x.parts = [x]) ∨ ∃ i ee size els, s = .own i ∧ (i, Ob.row ee size els) ∈ σ
theorem OneS.d {σ : Obs} {x : D} (h1 : x.one = true) (h2 : x.parts = [x]) : OneS σ (.d x) := .inl ⟨x, rfl, h1, h2⟩
theorem OneS.own {σ : Obs} {i ee size : Nat} {els : List (List D)} (h : (i, Ob.row ee size els) ∈ σ) : OneS σ (.own i) := .inr ⟨i, ee, size, els, rfl, h⟩
theorem OneS.cell {σ : Obs} {s : S} (h : OneS σ s) {B : Nat} {F : Nat → Prop} {ρ : Nat → Value} {w : World} (hσ : ObsOk B F ρ w σ) {u : Value} (hu : RepS F ρ w u s) : ∃ c, u.cells = #[c] ∧ c.oneCell' = true ∧ RepS F ρ w c s := by
  rcases h with ⟨x, rfl, h1, h2⟩ | ⟨i, ee, size, els, rfl, hm⟩
  · obtain ⟨h3, h4⟩ := parts_rep (repS_d hu) h1
    have hl := h3.1
    rw [h2] at hl
    have hs : u.cells.size = 1 := by simpa using hl
    obtain ⟨c, hc⟩ : ∃ c, u.cells = #[c] := by
      have : u.cells.toList.length = 1 := by simpa using hl
      obtain ⟨c, hc⟩ := List.length_eq_one_iff.1 this
      exact ⟨c, by rw [← Array.toList_inj]; exact hc⟩
    refine ⟨c, hc, h4 c (by rw [hc]; simp), .d ?_⟩
    have := h3.2 0 (by rw [hc]; simp) (by rw [h2]; simp)
    simp only [hc, h2] at this
    simpa using this
  · obtain ⟨xs, hown, _⟩ := hσ.ok _ hm
    dsimp only at hown
    have hv : u = ρ i := by cases hu; rfl
    refine ⟨ρ i, ?_, ?_, .own i⟩
    · rw [hv]; rcases hown.2 with ⟨h3, _⟩ | ⟨g', cap, cur, h3, _⟩ <;> rw [h3] <;> rfl
    · rcases hown.2 with ⟨h3, _⟩ | ⟨g', cap, cur, h3, _⟩ <;> rw [h3] <;> rfl
section
variable {cx : Cx} {ops : Array Oper} {o : Oper} {rest : List Oper} {e : Env} {σ : Obs} {Q : Post}
theorem EOp.storeRowS {t id off ee size : Nat} {x y : Operand} {s : S} {els : List (List S)} {ss : List S} (ht : o.dst = none) (ho : o.op = .store t x y) (hs : ∀ w, (sizeOf t).run cx.P w = .ok 1 w) (hx : e.ev x = .ptr id off) (hm : (id, Ob.rowS ee size els) ∈ σ)
    (hy : e.ev y = s) (h1 : OneS σ s) (k j : Nat) (hoff : off = k * size + j) (hd : els[k]? = some ss) (hj : j < size) :
    EOp cx ops o e σ (Obs.upd id (.rowS ee size (els.set k (ss.set j s))) σ) := by
  intro F ρ a w e0 hr ha
  have hop : ∀ y ∈ o.op.operands.toList, RepS F ρ w (a.eval y) (e.ev y) := fun y hy => ev_rep fun t ht => ha t (looks_op (by rw [← ht]; exact hy))
  have r1 := hop x (by rw [ho]; simp [Op.operands])
  have r2 := hop y (by rw [ho]; simp [Op.operands])
  rw [hx] at r1
  rw [hy] at r2
  obtain ⟨c, hc, hone, hcr⟩ := h1.cell hr.obs r2
  have hlt : k < els.length := (List.getElem?_eq_some_iff.1 hd).1
  have hde : els[k] = ss := (List.getElem?_eq_some_iff.1 hd).2
  obtain ⟨xs, hown, hlen, hrep, hnF⟩ := hr.obs.ok _ hm
  dsimp only at hown hnF
  have hown' : w.ownsRow cx.B ee size (ρ id) els.length (flat xs els.length size) := hown
  rcases hown'.2 with ⟨_, h0⟩ | ⟨g, cap, cur, hv, hB, hh, hn, hmx, hcs, htk⟩
  · omega
  have hblk : blk (ρ id) = some g := by rw [hv]; rfl
  have hxv := ptr_at r1 hblk
  have hle : k * size + size ≤ els.length * size := by rw [← Nat.succ_mul]; exact Nat.mul_le_mul_right _ hlt
  have hcap : els.length * size ≤ cap * size := Nat.mul_le_mul_right _ hn
  obtain ⟨w', h5, h6, h7⟩ := storeVar_run (P := cx.P) (off := off) (v := a.eval y) (size := 1) hs (by rw [hc]; rfl) (cur := cur.toList) (by simpa using hh) (by rw [Array.length_toList]; omega) (by rw [hc]; intro u hu; simp at hu; rw [hu]; exact hone)
  unfold Oper.wp execOp
  simp only [ho, Instr.storeAt, hxv, Instr.sureAddr, Sem.run_bind, Sem.run_pure, Result.andThen_ok, h5]
  refine ⟨by rw [ht]; rfl, fun e2 hr2 => ⟨F, ρ, ?_⟩⟩
  have keep : ∀ {u : Value} {s : S}, RepS F ρ w u s → RepS F ρ w' u s := fun h => h.turn hr.lt (fun g' hg' => by rw [← Option.some.inj hg']; exact hnF g hblk) h6 (fun b hb => hb)
  rw [hc] at h7
  refine hr2.writeOb hblk hm hB (hnF g hblk) h6 ⟨fun i p => if i = k ∧ j ≤ p ∧ p < j + [c].length then [c].getD (p - j) undef else xs i p, ?_, fun i hi => ?_, fun i hi p hp => ?_, hnF⟩
  · rw [List.length_set]
    have hst := flat_store xs els.length size k j [c] hlt (by simp; omega)
    refine ⟨flat_length _ _ _, .inr ⟨g, cap, _, hv, hB, h7, hn, hmx, ?_, ?_⟩⟩
    · simp only [List.size_toArray, List.length_append, List.length_take, List.length_drop, Array.length_toList, hcs, List.length_cons, List.length_nil]
      omega
    · refine Eq.trans ?_ hst
      rw [← htk]
      have hcl : cur.toList.length = cap * size := by rw [Array.length_toList]; exact hcs
      rw [hoff]
      apply List.ext_getElem?
      intro p
      by_cases hp : p < els.length * size
      · rw [List.getElem?_take, if_pos hp, get3, get3]
        simp only [List.length_take, hcl, List.getElem?_take, List.getElem?_drop, List.length_cons, List.length_nil]
        rw [Nat.min_eq_left (show k * size + j ≤ cap * size by omega), Nat.min_eq_left (show k * size + j ≤ min (els.length * size) (cap * size) by omega)]
        by_cases c1 : p < k * size + j
        · simp [c1, hp]
        · by_cases c2 : p < k * size + j + (0 + 1)
          · simp only [c1, c2, if_false, if_true]
          · simp only [c1, c2, if_false]
            rw [if_pos (by omega)]
      · rw [List.getElem?_eq_none (by rw [List.length_take]; omega), List.getElem?_eq_none (by
          simp only [List.length_append, List.length_take, List.length_drop, hcl, List.length_cons, List.length_nil]
          omega)]
  · rw [List.getElem_set]
    split
    · rw [List.length_set]
      have := hlen k hlt
      rw [hde] at this
      exact this
    · exact hlen i _
  · rw [List.length_set] at hi
    have hk2 := hlen k hlt
    rw [hde] at hk2
    simp only [List.getElem_set] at hp ⊢
    by_cases hik : k = i
    · subst hik
      simp only [if_true, List.length_set] at hp ⊢
      by_cases c1 : p = j
      · subst c1
        rw [if_pos ⟨trivial, Nat.le_refl _, by simp⟩]
        refine ⟨by simpa using hone, ?_⟩
        rw [List.getElem_set_self]
        simpa using keep hcr
      · rw [if_neg (by rintro ⟨_, h8, h9⟩; simp at h9; omega)]
        have h10 := hrep k hlt p (by rw [hde]; exact hp)
        simp only [hde] at h10
        rw [List.getElem_set_ne (fun h => c1 h.symm)]
        exact ⟨h10.1, keep h10.2⟩
    · simp only [hik, if_false] at hp ⊢
      rw [if_neg (by rintro ⟨h8, _⟩; exact hik h8.symm)]
      exact ⟨(hrep i hi p hp).1, keep (hrep i hi p hp).2⟩
/-- A row is a row of whatever. -/
theorem ObOk.toS {B : Nat} {F : Nat → Prop} {ρ : Nat → Value} {w : World} {id e size : Nat} {els : List (List D)} (h : ObOk B F ρ w id (.row e size els)) : ObOk B F ρ w id (.rowS e size (els.map fun ds => ds.map S.d)) := by
  obtain ⟨xs, h1, h2, h3, h4⟩ := h
  refine ⟨xs, by rw [List.length_map]; exact h1, fun k hk => by rw [List.getElem_map, List.length_map]; exact h2 k (by simpa using hk), fun k hk j hj => ?_, h4⟩
  have hk' : k < els.length := by simpa using hk
  have hj' : j < els[k].length := by simpa using hj
  simp only [List.getElem_map]
  exact ⟨(h3 k hk' j hj').1, .d (h3 k hk' j hj').2⟩
theorem R0.reOb {F : Nat → Prop} {ρ : Nat → Value} {a : Act} {w : World} (h : R0 cx F ρ e σ a w) {id : Nat} {o o' : Ob} (hm : (id, o) ∈ σ) (ho : ObOk cx.B F ρ w id o') : R0 cx F ρ e (Obs.upd id o' σ) a w := by
  refine ⟨h.size, h.defers, h.lt, h.base, h.new, h.below, h.hB, h.env, ⟨fun p hp => ?_, fun p hp q hq hne => ?_, fun p hp q hq he => ?_⟩, h.up, fun p hp => ?_, h.fixed⟩
  · rcases Obs.mem_upd hp with ⟨rfl, _⟩ | ⟨h1, _⟩
    · exact ho
    · exact h.obs.ok p h1
  · rcases Obs.mem_upd hp with ⟨rfl, _⟩ | ⟨h1, _⟩
    · rcases Obs.mem_upd hq with ⟨rfl, _⟩ | ⟨h2, _⟩
      · exact absurd rfl hne
      · exact h.obs.apart (id, o) hm q h2 hne
    · rcases Obs.mem_upd hq with ⟨rfl, _⟩ | ⟨h2, _⟩
      · exact h.obs.apart p h1 (id, o) hm hne
      · exact h.obs.apart p h1 q h2 hne
  · rcases Obs.mem_upd hp with ⟨rfl, _⟩ | ⟨h1, h3⟩
    · rcases Obs.mem_upd hq with ⟨rfl, _⟩ | ⟨h2, h4⟩
      · rfl
      · exact absurd he.symm h4
    · rcases Obs.mem_upd hq with ⟨rfl, _⟩ | ⟨h2, _⟩
      · exact absurd he h3
      · exact h.obs.uniq p h1 q h2 he
  · rcases Obs.mem_upd hp with ⟨rfl, _⟩ | ⟨h1, _⟩
    · exact h.kown (id, o) hm
    · exact h.kown p h1
theorem AWP.rowToS {c : Code} (id : Nat) {ee size : Nat} {els : List (List D)} (hm : (id, Ob.row ee size els) ∈ σ) (k : AWP cx c e (Obs.upd id (.rowS ee size (els.map fun ds => ds.map S.d)) σ) Q) : AWP cx c e σ Q :=
  fun a w ⟨F, ρ, hr⟩ => k a w ⟨F, ρ, hr.reOb hm (hr.obs.ok _ hm).toS⟩
end
/-! A family of own rows: the numbers b + k, b + k + 1, .. -/
def fam (e size : Nat) : Nat → List (List (List D)) → Obs
  | _, [] => []
  | b, x :: l => (b, .row e size x) :: fam e size (b + 1) l
end Go.Proofs.YtcfamaddnmnaeaaGreatDoor
