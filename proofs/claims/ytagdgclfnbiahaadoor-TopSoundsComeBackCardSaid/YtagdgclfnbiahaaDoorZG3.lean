/- Walks and laws over abstract values, merged by tools/merge.py. No statement of the seat. -/
import Derived.Shelf.Spec.SlicesInsert
import Derived.Shelf.Spec.SlicesInsertGrow
import Derived.Laws.MathBits
import Derived.WalkKit
import Derived.Ground.NamesProg
import Derived.Shelf.Strings.SlTrimAscii
import Derived.Shelf.Small.Strs
import Derived.Test.YtagdgclfnbiahaaDoorProg
import Derived.Test.YtagdgclfnbiahaaDoorZG2

namespace Go.Proofs.YtagdgclfnbiahaaDoor
open Go.RowKit
set_option linter.unusedVariables false

/-- One operation, from worlds that keep what was there at the beginning. -/
def AOpK (cx : Cx) (ops : Array Oper) (o : Oper) (e : Env) (σ : Obs) (s : S) : Prop :=
  ∀ (F : Nat → Prop) (ρ : Nat → Value) (w : World) (a : Act), Kept cx.fr cx.w0 w → (∀ b, F b → b < w.heap.size) → (∀ t, t ∈ o.looksAt ops → RepS F ρ w (a.tmps.getD t undef) (e t)) → ObsOk cx.B F ρ w σ →
    o.wp cx.P a w (fun a' w' => ∃ v F', a' = a.put o.dst v ∧ RepS F' ρ w' v s ∧ Ext F w F' w') (fun _ _ _ => False)
def KRun (cx : Cx) (ops : Array Oper) (σ : Obs) : List Oper → Env → (Env → Prop) → Prop
  | [], e, Qe => Qe e
  | o :: l, e, Qe => DstOk cx.N o ∧ ((∃ s, GW ops o e true ∧ AOpK cx ops o e σ s ∧ KRun cx ops σ l (e.put o.dst s) Qe) ∨ (GW ops o e false ∧ KRun cx ops σ l (e.put o.dst (.d (.v undef))) Qe))

def KStep (cx : Cx) (ops : Array Oper) (σ : Obs) (o : Oper) (e : Env) (s : S) : Prop :=
  (GW ops o e true ∧ AOpK cx ops o e σ s) ∨ (GW ops o e false ∧ s = .d (.v undef))

def anyK (cx : Cx) (ops : Array Oper) (σ : Obs) (Qe : Env → Prop) : Nat → Array Bool → Env → Prop
  | 0, listed, e => Region.ready .any ops listed = [] ∧ Qe e
  | fuel + 1, listed, e => (Region.ready .any ops listed = [] → Qe e) ∧
      ∀ i ∈ Region.ready .any ops listed, ∀ o, ops[i]? = some o → ∃ s, KStep cx ops σ o e s ∧ anyK cx ops σ Qe fuel (listed.setIfInBounds i true) (e.put o.dst s)

end Go.Proofs.YtagdgclfnbiahaaDoor

namespace Go.Proofs.YtagdgclfnbiahaaDoor
open Go.RowKit
set_option linter.unusedVariables false

/-- What it is as data, while the own objects rest. -/
inductive Snap (σ : Obs) : S → D → Prop where
  | d (x : D) : Snap σ (.d x) x
  | any (s : S) : Snap σ s .any
  | le {s : S} {d d' : D} (h : Snap σ s d) (k : Le d d') : Snap σ s d'
  | row {id e size : Nat} {els : List (List D)} (h : (id, Ob.row e size els) ∈ σ) : Snap σ (.own id) (.sl els)
  | rowS {id e size : Nat} {els : List (List S)} {ds : List (List D)} (h : (id, Ob.rowS e size els) ∈ σ) (hl : els.length = ds.length) (hs : ∀ i (h1 : i < els.length) (h2 : i < ds.length), els[i].length = ds[i].length)
      (hr : ∀ i (h1 : i < els.length) (h2 : i < ds.length) j (h3 : j < els[i].length) (h4 : j < ds[i].length), Snap σ els[i][j] ds[i][j]) : Snap σ (.own id) (.sl ds)
  | val {id : Nat} {ss : List S} {ds : List D} (h : (id, Ob.val ss) ∈ σ) (hl : ss.length = ds.length) (hr : ∀ i (h1 : i < ss.length) (h2 : i < ds.length), Snap σ ss[i] ds[i]) : Snap σ (.own id) (.agg ds)
  | ptr {id off : Nat} {ss : List S} {ds : List D} (h : (id, Ob.cells ss) ∈ σ) (hl : off + ds.length ≤ ss.length) (hr : ∀ i (h1 : off + i < ss.length) (h2 : i < ds.length), Snap σ ss[off + i] ds[i]) : Snap σ (.ptr id off) (.fp ds)
  | ptrS {id e size k : Nat} {els : List (List S)} {ds : List D} (h : (id, Ob.rowS e size els) ∈ σ) (hk : k < els.length) (hl : els[k].length = ds.length) (hr : ∀ j (h1 : j < els[k].length) (h2 : j < ds.length), Snap σ els[k][j] ds[j]) : Snap σ (.ptr id (k * size)) (.fp ds)
  | clo {f : FuncId} {caps : List Cap} {ds : List D} (hl : caps.length = ds.length) (hr : ∀ i (h1 : i < caps.length) (h2 : i < ds.length), Snap σ caps[i].toS ds[i]) : Snap σ (.clo f caps) (.clo (.func f) ds)

theorem obS_row {B : Nat} {F : Nat → Prop} {ρ : Nat → Value} {w : World} {σ : Obs} (h : ObsOk B F ρ w σ) {id ee size : Nat} {els : List (List S)} (hm : (id, Ob.rowS ee size els) ∈ σ) (hne : 0 < els.length) :
    ∃ g cap, ∃ vs : Nat → Nat → Value, ρ id = .slice (some ⟨g, 0, none⟩) els.length cap ∧ blk (ρ id) = some g ∧ els.length ≤ cap ∧ cap ≤ 9223372036854775807 ∧ (∀ k j, k < els.length → j < size → w.cell? ⟨g, k * size + j, none⟩ = some (vs k j)) ∧
      (∀ k (hk : k < els.length), els[k].length = size) ∧ (∀ k (hk : k < els.length) j (hj : j < els[k].length), (vs k j).oneCell' = true ∧ RepS F ρ w (vs k j) els[k][j]) := by
  obtain ⟨xs, h1, h2, h3, _⟩ := h.ok _ hm
  dsimp only at h1
  rcases h1.2 with ⟨_, h4⟩ | ⟨g, cap, cur, h4, h5, h6, h7, h8, _⟩
  · omega
  · exact ⟨g, cap, xs, h4, by rw [h4]; rfl, h7, by unfold maxLen at h8; omega, fun k j hk hj => row_cell h1 h4 h6 hk hj, h2, h3⟩

theorem Snap.rep {B : Nat} {F : Nat → Prop} {ρ : Nat → Value} {w : World} {σ : Obs} (hσ : ObsOk B F ρ w σ) {s : S} {d : D} (h : Snap σ s d) : ∀ x, RepS F ρ w x s → Rep (endF F ρ σ) w x d := by
  induction h with
  | d y => exact fun x hx => (repS_d hx).mono (fun b hb => .inl hb) fun _ _ => rfl
  | any s => exact fun x _ => .any x
  | le h k ih => exact fun x hx => k _ _ _ (ih x hx)
  | row hm =>
    intro x hx
    cases hx
    exact ob_rep hσ hm
  | @rowS id e size els ds hm hl hs hr ih =>
    intro x hx
    cases hx
    by_cases hne : 0 < els.length
    · obtain ⟨g, cap, vs, h1, h2, h3, h4, h5, h6, h7⟩ := obS_row hσ hm hne
      rw [h1, hl]
      refine .sl ⟨g, 0, none⟩ cap size ds vs (by omega) h4 (fun _ => .inr ⟨_, hm, h2⟩) (fun i hi => by rw [← hs i (by omega) hi]; exact h6 i (by omega)) (fun i j hi hj => ?_) (fun i j hi hj => ?_) (fun i hi j hj => ?_)
      · rw [addr_add, Nat.zero_add]; exact h5 i j (by omega) hj
      · exact (h7 i (by omega) j (by rw [h6 i (by omega)]; exact hj)).1
      · exact ih i (by omega) hi j (by rw [hs i (by omega) hi]; exact hj) hj _ (h7 i (by omega) j (by rw [hs i (by omega) hi]; exact hj)).2
    · obtain ⟨xs, h1, _⟩ := hσ.ok _ hm
      dsimp only at h1
      have h0 : els.length = 0 := by omega
      have hds : ds = [] := List.eq_nil_of_length_eq_zero (by omega)
      subst hds
      rcases h1.2 with ⟨h4, _⟩ | ⟨g, cap, cur, h4, h5, h6, h7, h8, _⟩
      · rw [h4]; exact .nil
      · rw [h4, h0]
        exact .sl ⟨g, 0, none⟩ cap size [] (fun _ _ => undef) (by simp) (by unfold maxLen at h8; omega) (fun h => absurd h (by simp)) (fun i hi => absurd hi (by simp)) (fun i j hi => absurd hi (by simp)) (fun i j hi => absurd hi (by simp)) (fun i hi => absurd hi (by simp))
  | @val id ss ds hm hl hr ih =>
    intro x hx
    cases hx
    obtain ⟨cs, h1, h2, h3⟩ := hσ.ok _ hm
    dsimp only at h1
    rw [h1]
    exact .agg cs ds (by omega) (fun i hi => (h3 i hi (by omega)).1) (fun i hi hi2 => ih i (by omega) hi2 _ (h3 i hi (by omega)).2)
  | @ptr id off ss ds hm hl hr ih =>
    intro x hx
    obtain ⟨g, ty, cs, h1, h2, h3, h4, h5, h6⟩ := hσ.ok _ hm
    dsimp only at h1
    have hv := ptr_at hx (g := g) (by rw [h1]; rfl)
    rw [hv]
    refine .fp ⟨g, off, none⟩ ds (fun j => cs.getD (off + j) undef) (.inr ⟨_, hm, by rw [h1]; rfl⟩) (fun j hj => ?_) (fun j hj => ?_) (fun j hj => ?_)
    · have hjc : off + j < cs.length := by omega
      rw [addr_add, cell_of_row w g (off + j) cs.toArray ty (0, 0) h4]
      simp [hjc]
    · have hjc : off + j < cs.length := by omega
      have := (h6 (off + j) hjc (by omega)).1
      simpa [hjc] using this
    · have hjc : off + j < cs.length := by omega
      have := ih j (by omega) hj _ (h6 (off + j) hjc (by omega)).2
      simpa [hjc] using this
  | @ptrS id e size k els ds hm hk hl hr ih =>
    intro x hx
    obtain ⟨g, cap, vs, h1, h2, h3, h4, h5, h6, h7⟩ := obS_row hσ hm (by omega)
    have hv := ptr_at hx (g := g) h2
    rw [hv]
    refine .fp ⟨g, k * size, none⟩ ds (fun j => vs k j) (.inr ⟨_, hm, h2⟩) (fun j hj => ?_) (fun j hj => ?_) (fun j hj => ?_)
    · rw [addr_add]
      exact h5 k j hk (by rw [← h6 k hk]; omega)
    · exact (h7 k hk j (by omega)).1
    · exact ih j (by omega) hj _ (h7 k hk j (by omega)).2
  | @clo f caps ds hl hr ih =>
    intro x hx
    cases hx with
    | clo _ cs _ hcs =>
      have h1 := hcs.toS
      have h2 : cs.length = caps.length := by simpa using h1.1
      refine .clo (.func f) cs ds (by omega) fun i hi hi2 => ih i (by omega) hi2 _ ?_
      have h3 := h1.2 i hi (by simp; omega)
      rw [List.getElem_map] at h3
      exact h3

/-- Data that holds no memory. -/
inductive Plain : D → Prop where
  | v (x : Value) : Plain (.v x)
  | any : Plain .any
  | agg (ds : List D) (h : ∀ d ∈ ds, Plain d) : Plain (.agg ds)
  | tup (ds : List D) (h : ∀ d ∈ ds, Plain d) : Plain (.tup ds)
def SnapArgs (e : Env) (σ : Obs) : List Operand → List D → Prop
  | [], [] => True
  | x :: xs, d :: ds => Snap σ (e.ev x) d ∧ SnapArgs e σ xs ds
  | _, _ => False
section
variable {P : Program} {B : Nat} {ops : Array Oper} {o : Oper} {e : Env} {σ : Obs}
/-- One cell of a row of rows. -/
theorem AOp.loadRowS {t : TypeId} {x : Operand} {id off ee size : Nat} {els : List (List S)} {ss : List S} {s : S} (ho : o.op = .load t x) (hT : Scal P t) (hx : e.ev x = .ptr id off) (hm : (id, Ob.rowS ee size els) ∈ σ) (k j : Nat) (hoff : off = k * size + j) (hk : els[k]? = some ss) (hd : ss[j]? = some s) :
    AOp P B ops o e σ s :=
  .value fun F ρ w a hF hr hσ => by
  have h1 := hr x (by rw [ho]; simp [Op.operands])
  rw [hx] at h1
  have hlt : k < els.length := (List.getElem?_eq_some_iff.1 hk).1
  have hde : els[k] = ss := (List.getElem?_eq_some_iff.1 hk).2
  have hjl : j < ss.length := (List.getElem?_eq_some_iff.1 hd).1
  have hdd : ss[j] = s := (List.getElem?_eq_some_iff.1 hd).2
  obtain ⟨g, cap, vs, _, h2, _, _, h5, h6, h7⟩ := obS_row hσ hm (by omega)
  have hv := ptr_at h1 (g := g) h2
  have hsz := h6 k hlt
  rw [hde] at hsz
  have hc := h5 k j hlt (by omega)
  have hrep := (h7 k hlt j (by rw [hde]; exact hjl)).2
  refine ⟨vs k j, F, w, ?_, ?_, Ext.refl hF⟩
  · unfold execOp
    simp only [ho, hv, hoff, Instr.loadAt, Instr.sureAddr, loadVar, Sem.run_bind, Sem.run_pure, Result.andThen_ok, hT w, Bool.false_eq_true, if_false, run_load, hc]
  · simp only [hde, hdd] at hrep
    exact hrep
/-- What of it is data. -/
def S.weak : S → D
  | .d x => x
  | _ => .any
def Ob.weak : Ob → Ob
  | .rowS e size els => .row e size (els.map fun ss => ss.map S.weak)
  | o => o
def Obs.weak : Obs → Obs
  | [] => []
  | p :: l => (p.1, p.2.weak) :: Obs.weak l
theorem Obs.mem_weak : ∀ {σ : Obs} {p : Nat × Ob}, p ∈ Obs.weak σ → ∃ q ∈ σ, p = (q.1, q.2.weak)
  | [], _, h => by cases h
  | x :: l, p, h => by
    unfold Obs.weak at h
    cases h with
    | head => exact ⟨x, by simp, rfl⟩
    | tail _ h => obtain ⟨q, hq, he⟩ := Obs.mem_weak h; exact ⟨q, List.mem_cons_of_mem _ hq, he⟩
theorem Obs.weak_mem : ∀ {σ : Obs} {p : Nat × Ob}, p ∈ σ → (p.1, p.2.weak) ∈ Obs.weak σ
  | [], _, h => by cases h
  | x :: l, p, h => by
    unfold Obs.weak
    cases h with
    | head => exact .head _
    | tail _ h => exact .tail _ (Obs.weak_mem h)
theorem ObOk.weak {B : Nat} {F : Nat → Prop} {ρ : Nat → Value} {w : World} {id : Nat} {o : Ob} (h : ObOk B F ρ w id o) : ObOk B F ρ w id o.weak := by
  cases o with
  | rowS e size els =>
    obtain ⟨xs, h1, h2, h3, h4⟩ := h
    refine ⟨xs, by rw [List.length_map]; exact h1, fun k hk => by rw [List.getElem_map, List.length_map]; exact h2 k (by simpa using hk), fun k hk j hj => ?_, h4⟩
    have hk' : k < els.length := by simpa using hk
    have hj' : j < els[k].length := by simpa using hj
    simp only [List.getElem_map]
    refine ⟨(h3 k hk' j hj').1, ?_⟩
    have h5 := (h3 k hk' j hj').2
    cases hs : els[k][j] with
    | d x => rw [hs] at h5; exact repS_d h5
    | own i => exact .any _
    | ptr i off => exact .any _
    | clo f caps => exact .any _
  | row e size els => exact h
  | cells ss => exact h
  | cellsT ty0 ss => exact h
  | map M => exact h
  | bts l => exact h
  | val ss => exact h
  | iter M done => exact h
theorem ObsOk.weak {B : Nat} {F : Nat → Prop} {ρ : Nat → Value} {w : World} {σ : Obs} (h : ObsOk B F ρ w σ) : ObsOk B F ρ w (Obs.weak σ) := by
  refine ⟨fun p hp => ?_, fun p hp q hq => ?_, fun p hp q hq he => ?_⟩
  · obtain ⟨q, hq, rfl⟩ := Obs.mem_weak hp
    exact (h.ok q hq).weak
  · obtain ⟨p', hp', rfl⟩ := Obs.mem_weak hp
    obtain ⟨q', hq', rfl⟩ := Obs.mem_weak hq
    exact h.apart p' hp' q' hq'
  · obtain ⟨p', hp', rfl⟩ := Obs.mem_weak hp
    obtain ⟨q', hq', rfl⟩ := Obs.mem_weak hq
    rw [h.uniq p' hp' q' hq' he]
/-- What only reads data of a row of rows. -/
theorem AOp.weak {s : S} (h : AOp P B ops o e (Obs.weak σ) s) : AOp P B ops o e σ s := fun F ρ w a hF hr hσ => h F ρ w a hF hr hσ.weak
end
section
variable {cx : Cx} {ops : Array Oper} {o : Oper} {rest : List Oper} {e : Env} {σ : Obs} {Q : Post}
/-- Own objects, told anew. -/
theorem AWP.obs {c : Code} {σ' : Obs} (h : ∀ p ∈ σ', p ∈ σ) (k : AWP cx c e σ' Q) : AWP cx c e σ Q := fun a w ⟨F, ρ, hr⟩ => k a w ⟨F, ρ, hr.size, hr.defers, hr.lt, hr.base, hr.new, hr.below, hr.hB, hr.env, hr.obs.sub h, hr.up, fun p hp => hr.kown p (h p hp), hr.fixed⟩
theorem AOps.obs {σ' : Obs} (h : ∀ p ∈ σ', p ∈ σ) (k : AOps cx ops rest e σ' Q) : AOps cx ops rest e σ Q := fun a w ⟨F, ρ, hr⟩ => k a w ⟨F, ρ, hr.size, hr.defers, hr.lt, hr.base, hr.new, hr.below, hr.hB, hr.env, hr.obs.sub h, hr.up, fun p hp => hr.kown p (h p hp), hr.fixed⟩
theorem AWP.obsEq {c : Code} (σ' : Obs) (h : σ = σ') (k : AWP cx c e σ' Q) : AWP cx c e σ Q := h ▸ k
theorem AOps.obsEq (σ' : Obs) (h : σ = σ') (k : AOps cx ops rest e σ' Q) : AOps cx ops rest e σ Q := h ▸ k
theorem R0.freezeSnap {F : Nat → Prop} {ρ : Nat → Value} {a : Act} {w : World} (h : R0 cx F ρ e σ a w) {t : Nat} {s : S} {d : D} {σs σ' : Obs} (ht : e t = s) (hs : Snap σs s d) (h1 : ∀ p ∈ σs, p ∈ σ) (h2 : ∀ p ∈ σ', p ∈ σ) (h3 : ∀ p ∈ σs, ∀ q ∈ σ', q.1 ≠ p.1) :
    R0 cx (endF F ρ σs) ρ (e.put (some t) (.d d)) σ' a w := by
  have hF2 : ∀ b, endF F ρ σs b → b < w.heap.size := by
    rintro b (hb | ⟨p, hp, hb⟩)
    · exact h.lt b hb
    · exact ((h.obs.ok p (h1 p hp)).blk_lt hb).2
  refine ⟨h.size, h.defers, hF2, fun b hb => .inl (h.base b hb), ?_, h.below, h.hB, fun u => ?_, ?_, h.up, fun p hp => h.kown p (h2 p hp), h.fixed⟩
  · rintro b (hb | ⟨p, hp, hb⟩)
    · exact h.new b hb
    · exact .inr (h.kown p (h1 p hp) b hb)
  · by_cases hu : u = t
    · subst hu
      rw [Env.put_same]
      have h4 := h.env u
      rw [ht] at h4
      exact .d (hs.rep (h.obs.sub h1) _ h4)
    · rw [Env.put_other _ _ _ _ hu]
      exact RepS.turn (row := none) (h.env u) h.lt (fun g hg => by simp at hg) ⟨rfl, rfl, rfl, Nat.le_refl _, fun _ _ _ => rfl⟩ (fun b hb => .inl hb)
  · refine ⟨fun p hp => ?_, fun p hp q hq => h.obs.apart p (h2 p hp) q (h2 q hq), fun p hp q hq => h.obs.uniq p (h2 p hp) q (h2 q hq)⟩
    refine (h.obs.ok p (h2 p hp)).more h.lt (fun b hb => .inl hb) ?_
    rintro g hg (hf | ⟨q, hq, hb⟩)
    · exact (h.obs.ok p (h2 p hp)).nF hg hf
    · exact h.obs.apart p (h2 p hp) q (h1 q hq) (h3 q hq p hp) g hg hb
/-- A value with own parts becomes data; its objects are gone. -/
theorem AWP.freezeSnap {c : Code} (t : Nat) {s : S} {d : D} (σs σ' : Obs) (ht : e t = s) (hs : Snap σs s d) (h1 : ∀ p ∈ σs, p ∈ σ) (h2 : ∀ p ∈ σ', p ∈ σ) (h3 : ∀ p ∈ σs, ∀ q ∈ σ', q.1 ≠ p.1) (k : AWP cx c (e.put (some t) (.d d)) σ' Q) : AWP cx c e σ Q :=
  fun a w ⟨F, ρ, hr⟩ => k a w ⟨_, ρ, hr.freezeSnap ht hs h1 h2 h3⟩
theorem AllIn.of {σ : Obs} : ∀ {l : Obs}, (∀ p ∈ l, p ∈ σ) → AllIn σ l
  | [], _ => trivial
  | x :: l, h => ⟨h x (by simp), AllIn.of fun p hp => h p (List.mem_cons_of_mem _ hp)⟩
end
end Go.Proofs.YtagdgclfnbiahaaDoor

namespace Go.Proofs.YtagdgclfnbiahaaDoor
open Go.RowKit
set_option linter.unusedVariables false

/-- One cell's worth. -/
def OneS (σ : Obs) (s : S) : Prop := (∃ x : D, s = .d x ∧ x.one = true ∧ x.parts = [x]) ∨ ∃ i ee size els, s = .own i ∧ (i, Ob.row ee size els) ∈ σ
theorem OneS.d {σ : Obs} {x : D} (h1 : x.one = true) (h2 : x.parts = [x]) : OneS σ (.d x) := .inl ⟨x, rfl, h1, h2⟩
theorem OneS.own {σ : Obs} {i ee size : Nat} {els : List (List D)} (h : (i, Ob.row ee size els) ∈ σ) : OneS σ (.own i) := .inr ⟨i, ee, size, els, rfl, h⟩
theorem OneS.cell {σ : Obs} {s : S} (h : OneS σ s) {B : Nat} {F : Nat → Prop} {ρ : Nat → Value} {w : World} (hσ : ObsOk B F ρ w σ) {u : Value} (hu : RepS F ρ w u s) : ∃ c, u.cells = #[c] ∧ c.oneCell' = true ∧ RepS F ρ w c s := by
  rcases h with ⟨x, rfl, h1, h2⟩ | ⟨i, ee, size, els, rfl, hm⟩
  · obtain ⟨h3, h4⟩ := parts_rep (repS_d hu) h1
    have hl := h3.1
    rw [h2] at hl
    have hs : u.cells.size = 1 := by simpa using hl
    obtain ⟨c, hc⟩ : ∃ c, u.cells = #[c] := by
      have : u.cells.toList.length = 1 := by simpa using hl
      obtain ⟨c, hc⟩ := List.length_eq_one_iff.1 this
      exact ⟨c, by rw [← Array.toList_inj]; exact hc⟩
    refine ⟨c, hc, h4 c (by rw [hc]; simp), .d ?_⟩
    have := h3.2 0 (by rw [hc]; simp) (by rw [h2]; simp)
    simp only [hc, h2] at this
    simpa using this
  · obtain ⟨xs, hown, _⟩ := hσ.ok _ hm
    dsimp only at hown
    have hv : u = ρ i := by cases hu; rfl
    refine ⟨ρ i, ?_, ?_, .own i⟩
    · rw [hv]; rcases hown.2 with ⟨h3, _⟩ | ⟨g', cap, cur, h3, _⟩ <;> rw [h3] <;> rfl
    · rcases hown.2 with ⟨h3, _⟩ | ⟨g', cap, cur, h3, _⟩ <;> rw [h3] <;> rfl
section
variable {cx : Cx} {ops : Array Oper} {o : Oper} {rest : List Oper} {e : Env} {σ : Obs} {Q : Post}
theorem EOp.storeRowS {t id off ee size : Nat} {x y : Operand} {s : S} {els : List (List S)} {ss : List S} (ht : o.dst = none) (ho : o.op = .store t x y) (hs : ∀ w, (sizeOf t).run cx.P w = .ok 1 w) (hx : e.ev x = .ptr id off) (hm : (id, Ob.rowS ee size els) ∈ σ)
    (hy : e.ev y = s) (h1 : OneS σ s) (k j : Nat) (hoff : off = k * size + j) (hd : els[k]? = some ss) (hj : j < size) :
    EOp cx ops o e σ (Obs.upd id (.rowS ee size (els.set k (ss.set j s))) σ) := by
  intro F ρ a w e0 hr ha
  have hop : ∀ y ∈ o.op.operands.toList, RepS F ρ w (a.eval y) (e.ev y) := fun y hy => ev_rep fun t ht => ha t (looks_op (by rw [← ht]; exact hy))
  have r1 := hop x (by rw [ho]; simp [Op.operands])
  have r2 := hop y (by rw [ho]; simp [Op.operands])
  rw [hx] at r1
  rw [hy] at r2
  obtain ⟨c, hc, hone, hcr⟩ := h1.cell hr.obs r2
  have hlt : k < els.length := (List.getElem?_eq_some_iff.1 hd).1
  have hde : els[k] = ss := (List.getElem?_eq_some_iff.1 hd).2
  obtain ⟨xs, hown, hlen, hrep, hnF⟩ := hr.obs.ok _ hm
  dsimp only at hown hnF
  have hown' : w.ownsRow cx.B ee size (ρ id) els.length (flat xs els.length size) := hown
  rcases hown'.2 with ⟨_, h0⟩ | ⟨g, cap, cur, hv, hB, hh, hn, hmx, hcs, htk⟩
  · omega
  have hblk : blk (ρ id) = some g := by rw [hv]; rfl
  have hxv := ptr_at r1 hblk
  have hle : k * size + size ≤ els.length * size := by rw [← Nat.succ_mul]; exact Nat.mul_le_mul_right _ hlt
  have hcap : els.length * size ≤ cap * size := Nat.mul_le_mul_right _ hn
  obtain ⟨w', h5, h6, h7⟩ := storeVar_run (P := cx.P) (off := off) (v := a.eval y) (size := 1) hs (by rw [hc]; rfl) (cur := cur.toList) (by simpa using hh) (by rw [Array.length_toList]; omega) (by rw [hc]; intro u hu; simp at hu; rw [hu]; exact hone)
  unfold Oper.wp execOp
  simp only [ho, Instr.storeAt, hxv, Instr.sureAddr, Sem.run_bind, Sem.run_pure, Result.andThen_ok, h5]
  refine ⟨by rw [ht]; rfl, fun e2 hr2 => ⟨F, ρ, ?_⟩⟩
  have keep : ∀ {u : Value} {s : S}, RepS F ρ w u s → RepS F ρ w' u s := fun h => h.turn hr.lt (fun g' hg' => by rw [← Option.some.inj hg']; exact hnF g hblk) h6 (fun b hb => hb)
  rw [hc] at h7
  refine hr2.writeOb hblk hm hB (hnF g hblk) h6 ⟨fun i p => if i = k ∧ j ≤ p ∧ p < j + [c].length then [c].getD (p - j) undef else xs i p, ?_, fun i hi => ?_, fun i hi p hp => ?_, hnF⟩
  · rw [List.length_set]
    have hst := flat_store xs els.length size k j [c] hlt (by simp; omega)
    refine ⟨flat_length _ _ _, .inr ⟨g, cap, _, hv, hB, h7, hn, hmx, ?_, ?_⟩⟩
    · simp only [List.size_toArray, List.length_append, List.length_take, List.length_drop, Array.length_toList, hcs, List.length_cons, List.length_nil]
      omega
    · refine Eq.trans ?_ hst
      rw [← htk]
      have hcl : cur.toList.length = cap * size := by rw [Array.length_toList]; exact hcs
      rw [hoff]
      apply List.ext_getElem?
      intro p
      by_cases hp : p < els.length * size
      · rw [List.getElem?_take, if_pos hp, get3, get3]
        simp only [List.length_take, hcl, List.getElem?_take, List.getElem?_drop, List.length_cons, List.length_nil]
        rw [Nat.min_eq_left (show k * size + j ≤ cap * size by omega), Nat.min_eq_left (show k * size + j ≤ min (els.length * size) (cap * size) by omega)]
        by_cases c1 : p < k * size + j
        · simp [c1, hp]
        · by_cases c2 : p < k * size + j + (0 + 1)
          · simp only [c1, c2, if_false, if_true]
          · simp only [c1, c2, if_false]
            rw [if_pos (by omega)]
      · rw [List.getElem?_eq_none (by rw [List.length_take]; omega), List.getElem?_eq_none (by
          simp only [List.length_append, List.length_take, List.length_drop, hcl, List.length_cons, List.length_nil]
          omega)]
  · rw [List.getElem_set]
    split
    · rw [List.length_set]
      have := hlen k hlt
      rw [hde] at this
      exact this
    · exact hlen i _
  · rw [List.length_set] at hi
    have hk2 := hlen k hlt
    rw [hde] at hk2
    simp only [List.getElem_set] at hp ⊢
    by_cases hik : k = i
    · subst hik
      simp only [if_true, List.length_set] at hp ⊢
      by_cases c1 : p = j
      · subst c1
        rw [if_pos ⟨trivial, Nat.le_refl _, by simp⟩]
        refine ⟨by simpa using hone, ?_⟩
        rw [List.getElem_set_self]
        simpa using keep hcr
      · rw [if_neg (by rintro ⟨_, h8, h9⟩; simp at h9; omega)]
        have h10 := hrep k hlt p (by rw [hde]; exact hp)
        simp only [hde] at h10
        rw [List.getElem_set_ne (fun h => c1 h.symm)]
        exact ⟨h10.1, keep h10.2⟩
    · simp only [hik, if_false] at hp ⊢
      rw [if_neg (by rintro ⟨h8, _⟩; exact hik h8.symm)]
      exact ⟨(hrep i hi p hp).1, keep (hrep i hi p hp).2⟩
/-- A row is a row of whatever. -/
theorem ObOk.toS {B : Nat} {F : Nat → Prop} {ρ : Nat → Value} {w : World} {id e size : Nat} {els : List (List D)} (h : ObOk B F ρ w id (.row e size els)) : ObOk B F ρ w id (.rowS e size (els.map fun ds => ds.map S.d)) := by
  obtain ⟨xs, h1, h2, h3, h4⟩ := h
  refine ⟨xs, by rw [List.length_map]; exact h1, fun k hk => by rw [List.getElem_map, List.length_map]; exact h2 k (by simpa using hk), fun k hk j hj => ?_, h4⟩
  have hk' : k < els.length := by simpa using hk
  have hj' : j < els[k].length := by simpa using hj
  simp only [List.getElem_map]
  exact ⟨(h3 k hk' j hj').1, .d (h3 k hk' j hj').2⟩
theorem R0.reOb {F : Nat → Prop} {ρ : Nat → Value} {a : Act} {w : World} (h : R0 cx F ρ e σ a w) {id : Nat} {o o' : Ob} (hm : (id, o) ∈ σ) (ho : ObOk cx.B F ρ w id o') : R0 cx F ρ e (Obs.upd id o' σ) a w := by
  refine ⟨h.size, h.defers, h.lt, h.base, h.new, h.below, h.hB, h.env, ⟨fun p hp => ?_, fun p hp q hq hne => ?_, fun p hp q hq he => ?_⟩, h.up, fun p hp => ?_, h.fixed⟩
  · rcases Obs.mem_upd hp with ⟨rfl, _⟩ | ⟨h1, _⟩
    · exact ho
    · exact h.obs.ok p h1
  · rcases Obs.mem_upd hp with ⟨rfl, _⟩ | ⟨h1, _⟩
    · rcases Obs.mem_upd hq with ⟨rfl, _⟩ | ⟨h2, _⟩
      · exact absurd rfl hne
      · exact h.obs.apart (id, o) hm q h2 hne
    · rcases Obs.mem_upd hq with ⟨rfl, _⟩ | ⟨h2, _⟩
      · exact h.obs.apart p h1 (id, o) hm hne
      · exact h.obs.apart p h1 q h2 hne
  · rcases Obs.mem_upd hp with ⟨rfl, _⟩ | ⟨h1, h3⟩
    · rcases Obs.mem_upd hq with ⟨rfl, _⟩ | ⟨h2, h4⟩
      · rfl
      · exact absurd he.symm h4
    · rcases Obs.mem_upd hq with ⟨rfl, _⟩ | ⟨h2, _⟩
      · exact absurd he h3
      · exact h.obs.uniq p h1 q h2 he
  · rcases Obs.mem_upd hp with ⟨rfl, _⟩ | ⟨h1, _⟩
    · exact h.kown (id, o) hm
    · exact h.kown p h1
theorem AWP.rowToS {c : Code} (id : Nat) {ee size : Nat} {els : List (List D)} (hm : (id, Ob.row ee size els) ∈ σ) (k : AWP cx c e (Obs.upd id (.rowS ee size (els.map fun ds => ds.map S.d)) σ) Q) : AWP cx c e σ Q :=
  fun a w ⟨F, ρ, hr⟩ => k a w ⟨F, ρ, hr.reOb hm (hr.obs.ok _ hm).toS⟩
/-- A struct with own parts, loaded out of own cells. -/
theorem AOps.loadVal {t dst : Nat} {x : Operand} {cid off size : Nat} {ss : List S} (id : Nat) (hg : o.guard = none) (ht : o.dst = some dst) (hdn : Nat.blt dst cx.N = true) (ho : o.op = .load t x) (hT : AggT cx.P t size) (hx : e.ev x = .ptr cid off) (hm : (cid, Ob.cells ss) ∈ σ) (hl : off + size ≤ ss.length) (hid : Obs.fresh id σ = true)
    (k : AOps cx ops rest ((e.kill id).put (some dst) (.own id)) ((id, .val (((ss.drop off).take size).map (S.kill id))) :: Obs.kill id σ) Q) (hfx : cx.free id = true := by rfl) : AOps cx ops (o :: rest) e σ Q := by
  intro a w ⟨F, ρ, hr⟩
  have h1 := ev_rep (e := e) (x := x) (a := a) (fun t _ => hr.env t)
  rw [hx] at h1
  obtain ⟨g, ty, cs, h2, h3, h4, h5, h6, h7⟩ := hr.obs.ok _ hm
  dsimp only at h2
  have hv := ptr_at h1 (g := g) (by rw [h2]; rfl)
  have hl2 : ((cs.drop off).take size).length = size := by rw [List.length_take, List.length_drop]; omega
  have hcells : (loadCells ⟨g, off, none⟩ ((cs.drop off).take size).length).run cx.P w = .ok ((cs.drop off).take size).toArray w := run_loadCells_list w _ _ (fun j v hj => by
    have hlt := (List.getElem?_eq_some_iff.1 hj).1
    rw [hl2] at hlt
    rw [addr_add, cell_of_row w g (off + j) cs.toArray ty (0, 0) h5, ← hj]
    simp [hlt])
  rw [hl2] at hcells
  refine wpList_plain hg fun K hK => ?_
  unfold Oper.wp execOp
  simp only [ho, hv, Instr.loadAt, Instr.sureAddr, loadVar, Sem.run_bind, Sem.run_pure, Result.andThen_ok, hT.agg w, hT.size w, if_true, hcells]
  obtain ⟨ρ', h8⟩ := hr.newObF (id := id) (dst := dst) (ob := .val (((ss.drop off).take size).map (S.kill id))) (v := .agg ((cs.drop off).take size).toArray) (Obs.fresh_spec hid) (by simpa [Nat.blt_eq] using hdn) (Ext.refl hr.lt) (by
    refine ⟨(cs.drop off).take size, by simp, by rw [hl2, List.length_map, List.length_take, List.length_drop]; omega, fun j hj hj' => ?_⟩
    have hj1 : j < size := by rw [hl2] at hj; exact hj
    simp only [List.getElem_map, List.getElem_take, List.getElem_drop]
    exact ⟨(h7 (off + j) (by omega) (by omega)).1, (h7 (off + j) (by omega) (by omega)).2.kill id (fun i hi => by simp [hi])⟩) (fun g hg => by simp [blk] at hg) hfx
  have := k _ _ ⟨F, ρ', h8⟩
  rw [← ht] at this
  exact hK _ _ this
end
/-! A family of own rows: the numbers b + k, b + k + 1, .. -/
def fam (e size : Nat) : Nat → List (List (List D)) → Obs
  | _, [] => []
  | b, x :: l => (b, .row e size x) :: fam e size (b + 1) l
theorem fam_get {e size : Nat} : ∀ {b : Nat} {l : List (List (List D))} {k : Nat} {x : List (List D)}, l[k]? = some x → (b + k, Ob.row e size x) ∈ fam e size b l
  | b, y :: l, 0, x, h => by
    have : y = x := by simpa using h
    subst this
    exact .head _
  | b, y :: l, k + 1, x, h => by
    have := fam_get (e := e) (size := size) (b := b + 1) (l := l) (k := k) (x := x) (by simpa using h)
    rw [show b + 1 + k = b + (k + 1) by omega] at this
    exact .tail _ this
theorem fam_mem {e size : Nat} : ∀ {b : Nat} {l : List (List (List D))} {p : Nat × Ob}, p ∈ fam e size b l → ∃ k x, l[k]? = some x ∧ p = (b + k, .row e size x)
  | b, y :: l, p, h => by
    cases h with
    | head => exact ⟨0, y, rfl, rfl⟩
    | tail _ h =>
      obtain ⟨k, x, h1, h2⟩ := fam_mem h
      exact ⟨k + 1, x, by simpa using h1, by rw [h2, show b + 1 + k = b + (k + 1) by omega]⟩
theorem fam_kill {e size id : Nat} : ∀ {b : Nat} {l : List (List (List D))}, Obs.kill id (fam e size b l) = fam e size b l
  | _, [] => rfl
  | b, y :: l => by unfold fam Obs.kill; rw [fam_kill]; rfl
theorem fam_upd_low {e size id : Nat} {o : Ob} : ∀ {b : Nat} {l : List (List (List D))}, id < b → Obs.upd id o (fam e size b l) = fam e size b l
  | _, [], _ => rfl
  | b, y :: l, h => by
    unfold fam Obs.upd
    have : Nat.beq b id = false := by rw [Bool.eq_false_iff]; intro hh; have := Nat.eq_of_beq_eq_true hh; omega
    dsimp only
    rw [this, fam_upd_low (by omega)]
theorem fam_upd {e size : Nat} {x : List (List D)} : ∀ {b : Nat} {l : List (List (List D))} {k : Nat}, k < l.length → Obs.upd (b + k) (.row e size x) (fam e size b l) = fam e size b (l.set k x)
  | b, y :: l, 0, _ => by
    unfold fam Obs.upd
    have : Nat.beq b (b + 0) = true := by simp
    dsimp only
    rw [this]
    simp only [List.set_cons_zero, Nat.add_zero]
    rw [fam_upd_low (by omega)]
  | b, y :: l, k + 1, h => by
    unfold fam Obs.upd
    have : Nat.beq b (b + (k + 1)) = false := by rw [Bool.eq_false_iff]; intro hh; have := Nat.eq_of_beq_eq_true hh; omega
    dsimp only
    rw [this]
    simp only [List.set_cons_succ]
    have h2 := fam_upd (e := e) (size := size) (x := x) (b := b + 1) (l := l) (k := k) (by simpa using h)
    rw [show b + 1 + k = b + (k + 1) by omega] at h2
    rw [h2]
theorem fam_fresh {e size id : Nat} : ∀ {b : Nat} {l : List (List (List D))}, id < b → Obs.fresh id (fam e size b l) = true
  | _, [], _ => rfl
  | b, y :: l, h => by
    unfold fam Obs.fresh
    have h2 := fam_fresh (e := e) (size := size) (id := id) (b := b + 1) (l := l) (by omega)
    have : Nat.beq b id = false := by rw [Bool.eq_false_iff]; intro hh; have := Nat.eq_of_beq_eq_true hh; omega
    simp [h2, this]
end Go.Proofs.YtagdgclfnbiahaaDoor

namespace Go.Proofs.YtagdgclfnbiahaaDoor
open Go.RowKit Go.Shelf
set_option linter.unusedVariables false

/-- What Insert does with an own row. -/
structure InsEnd (B : Nat) (e : TypeId) (w : World) (v : Value) (n : Nat) (ys : List Value) (v' : Value) (w' : World) : Prop where
  own : w'.ownsRow B e 1 v' n ys
  turn : Turn w w' (blk v)
  new : ∀ g, blk v' = some g → blk v = some g ∨ w.heap.size ≤ g

end Go.Proofs.YtagdgclfnbiahaaDoor

namespace Go.Proofs.YtagdgclfnbiahaaDoor
open Go.RowKit
set_option linter.unusedVariables false

/-- From k on each one waits for all before it but for the first b. -/
def Region.chain1B (ops : Array Oper) (b k : Nat) : Bool := Region.downB ops && Nat.ble k ops.size && Nat.ble b k && (List.range (ops.size - 1)).all fun j =>
  Nat.blt j b || (List.range ops.size).any fun m => Nat.blt j m && (Nat.ble m k || Nat.ble m (j + 1)) && Region.edge ops m j
structure Chain1 (ops : Array Oper) (b k : Nat) : Prop where
  down : Region.downB ops = true
  le : k ≤ ops.size
  bk : b ≤ k
  next : ∀ j, b ≤ j → j < ops.size - 1 → ∃ m, j < m ∧ (m ≤ k ∨ m ≤ j + 1) ∧ Region.edge ops m j = true
section
variable {P : Program} {ops : Array Oper} {Q Q0 : Exit → Act → World → Prop} {b k : Nat}
end

theorem put_swap (a : Act) (x y : Option Nat) (u v : Value) (h : ∀ t, x = some t → y ≠ some t) : (a.put x u).put y v = (a.put y v).put x u := by
  cases x with
  | none => rfl
  | some i =>
    cases y with
    | none => rfl
    | some j =>
      have hne : i ≠ j := fun he => h i rfl (by rw [he])
      simp only [Act.put]
      rw [Array.setIfInBounds_comm _ _ hne]
theorem eval_put_other (a : Act) (dst : Option Nat) (u : Value) (y : Operand) (h : ∀ t, y = .tmp t → dst ≠ some t) : (a.put dst u).eval y = a.eval y := Act.eval_put fun d hd hyd => h d hyd hd
theorem wp_put {P : Program} {o : Oper} {ops : Array Oper} {a : Act} {w : World} {d : Nat} {v : Value} {K K' : Act → World → Prop} {Q : Exit → Act → World → Prop} (hs : ∀ cs b, o.op ≠ .select cs b) (hl : d ∉ o.looksAt ops) (hd : o.dst ≠ some d) (hQ : ∀ e a w, e ≠ .normal → ¬ Q e a w)
    (hK : ∀ a' w', (∀ y : Operand, (∀ t, y = .tmp t → o.dst ≠ some t) → a'.eval y = a.eval y) → K (a'.put (some d) v) w' → K' a' w') (h : o.wp P (a.put (some d) v) w K Q) : o.wp P a w K' Q := by
  unfold Oper.wp at *
  rw [execOp_put (ops := ops) o hs a (some d) v (fun t ht => by cases ht; exact hl)] at h
  have sw : ∀ (b : Act) (u : Value), (b.put (some d) v).put o.dst u = (b.put o.dst u).put (some d) v := fun b u => put_swap b (some d) o.dst v u (fun t ht he => by cases ht; exact hd he)
  have ev : ∀ (u : Value) (y : Operand), (∀ t, y = .tmp t → o.dst ≠ some t) → (a.put o.dst u).eval y = a.eval y := fun u y hy => eval_put_other a o.dst u y hy
  generalize (execOp a.eval o).run P w = r at *
  cases r with
  | ok n w' =>
    cases n with
    | value u => simp only [Oper.upon] at h ⊢; rw [sw] at h; exact hK _ _ (ev u) h
    | skip => simp only [Oper.upon] at h ⊢; rw [sw] at h; exact hK _ _ (ev _) h
    | defer c =>
      simp only [Oper.upon] at h ⊢
      refine hK _ _ (fun y hy => ?_) ?_
      · rw [eval_put_other _ o.dst undef y hy]
        cases y <;> rfl
      · rw [← sw]; exact h
    | enter f args =>
      simp only [Oper.upon] at h ⊢
      refine Calls.mono h fun e w'' he => ?_
      cases e with
      | returned u => simp only at he ⊢; rw [sw] at he; exact hK _ _ (ev u) he
      | panicked c => exact absurd he (hQ _ _ _ (by simp))
      | outgrown => obtain ⟨a1, w1, h1⟩ := he; exact absurd h1 (hQ _ _ _ (by simp))
    | row r args =>
      simp only [Oper.upon] at h ⊢
      exact Rows.mono h fun u w'' he => by rw [sw] at he; exact hK _ _ (ev u) he
    | _ => simp only [Oper.upon] at h
  | halt x w' =>
    cases x <;> simp only [Oper.upon] at h ⊢ <;> first | exact absurd h (hQ _ _ _ (by simp)) | exact h
def notSelect (o : Oper) : Bool := match o.op with | .select _ _ => false | _ => true
theorem notSelect_spec {o : Oper} (h : notSelect o = true) : ∀ cs b, o.op ≠ .select cs b := fun cs b he => by unfold notSelect at h; rw [he] at h; simp at h
end Go.Proofs.YtagdgclfnbiahaaDoor

namespace Go.Proofs.YtagdgclfnbiahaaDoor
open Go.RowKit Go.Shelf
set_option linter.unusedVariables false

def intC (n : Int) : List D := [.v (.int .i64 n)]
section
variable {cx : Cx} {ops : Array Oper} {o : Oper} {rest : List Oper} {e : Env} {σ : Obs} {Q : Post}
end
section
variable {cx : Cx} {ops : Array Oper} {o : Oper} {rest : List Oper} {e : Env} {σ : Obs} {Q : Post}
end
def apartB (ops : Array Oper) (o0 : Oper) : Bool := (List.range ops.size).all fun j => Nat.beq j 0 || Region.edge ops j 0 || ((ops[j]?).map fun oj => o0.apart ops oj).getD true
def dstB (Φ : List Fr) (l : List Oper) : Bool := Φ.all fun f => (List.range l.length).all fun i => (List.range l.length).all fun j => Nat.beq i j || ((l[i]?).map fun o => neDst o f.dst).getD true || ((l[j]?).map fun o => neDst o f.dst).getD true
def openB (l : List Oper) (k2 k : Nat) (o0 : Oper) : Bool := Nat.blt 0 k2 && Nat.ble k2 k && Region.chainB l.toArray k && Region.chain1B (l.take k).toArray 1 k2 && (l.take k).all notSelect && apartB (l.take k).toArray o0 && (Array.all o0.after fun e => !(Region.binds .any e)) && Region.lexFrom .any (l.take k2).toArray (k2 - 1) 1 ((Array.replicate k2 false).setIfInBounds 0 true)
end Go.Proofs.YtagdgclfnbiahaaDoor

namespace Go.Proofs.YtagdgclfnbiahaaDoor
open Go.RowKit
set_option linter.unusedVariables false

def OneC (σ : Obs) (s : S) : Prop := OneS σ s ∨ ∃ id off, s = .ptr id off
theorem OneC.cell {σ : Obs} {s : S} (h : OneC σ s) {B : Nat} {F : Nat → Prop} {ρ : Nat → Value} {w : World} (hσ : ObsOk B F ρ w σ) {u : Value} (hu : RepS F ρ w u s) : ∃ c, u.cells = #[c] ∧ c.oneCell' = true ∧ RepS F ρ w c s := by
  rcases h with h | ⟨id, off, rfl⟩
  · exact h.cell hσ hu
  · cases hu with
    | ptr _ _ g hg => exact ⟨_, rfl, rfl, .ptr id off g hg⟩
section
variable {cx : Cx} {ops : Array Oper} {o : Oper} {rest : List Oper} {e : Env} {σ : Obs} {Q : Post}
theorem val_at {B : Nat} {F : Nat → Prop} {ρ : Nat → Value} {w : World} {vid : Nat} {ss : List S} {v : Value} (hσ : ObsOk B F ρ w σ) (hm : (vid, Ob.val ss) ∈ σ) (h : RepS F ρ w v (.own vid)) : ∃ cs : List Value, v = .agg cs.toArray ∧ cs.length = ss.length ∧ ∀ j (h1 : j < cs.length) (h2 : j < ss.length), cs[j].oneCell' = true ∧ RepS F ρ w cs[j] ss[j] := by
  obtain ⟨cs, h1, h2, h3⟩ := hσ.ok _ hm
  dsimp only at h1
  refine ⟨cs, ?_, h2, h3⟩
  cases h
  exact h1
theorem set_mid {α : Type} (cs vs : List α) (off size j : Nat) (hv : vs.length = size) (hle : off + size ≤ cs.length) (hj : j < (cs.take off ++ vs ++ cs.drop (off + size)).length) : (cs.take off ++ vs ++ cs.drop (off + size))[j] = if h : off ≤ j ∧ j < off + size then vs[j - off]'(by omega) else cs[j]'(by simp at hj; omega) := by
  by_cases j1 : j < off
  · rw [dif_neg (by omega), List.getElem_append_left (by simp; omega), List.getElem_append_left (by simp; omega), List.getElem_take]
  · by_cases j2 : j < off + size
    · rw [dif_pos ⟨by omega, j2⟩, List.getElem_append_left (by simp; omega), List.getElem_append_right (by simp; omega)]
      have e1 : (List.take off cs).length = off := by simp; omega
      simp only [e1]
    · rw [dif_neg (by omega), List.getElem_append_right (by simp; omega), List.getElem_drop]
      have e1 : (List.take off cs ++ vs).length = off + size := by simp; omega
      have e2 : off + size + (j - (off + size)) = j := by omega
      simp only [e1, e2]
/-- A struct with own parts, stored. -/
theorem EOp.storeVal {t id off size vid : Nat} {x y : Operand} {ss ss' : List S} (ht : o.dst = none) (ho : o.op = .store t x y) (hs : ∀ w, (sizeOf t).run cx.P w = .ok size w) (hx : e.ev x = .ptr id off) (hm : (id, Ob.cells ss) ∈ σ) (hy : e.ev y = .own vid) (hmv : (vid, Ob.val ss') ∈ σ) (hl' : ss'.length = size)
    (hle : off + size ≤ ss.length) : EOp cx ops o e σ (Obs.upd id (.cells (ss.take off ++ ss' ++ ss.drop (off + size))) σ) := by
  intro F ρ a w e0 hr ha
  have hop : ∀ y ∈ o.op.operands.toList, RepS F ρ w (a.eval y) (e.ev y) := fun y hy => ev_rep fun t ht => ha t (looks_op (by rw [← ht]; exact hy))
  have r1 := hop x (by rw [ho]; simp [Op.operands])
  have r2 := hop y (by rw [ho]; simp [Op.operands])
  rw [hx] at r1
  rw [hy] at r2
  obtain ⟨cs, hv, hl, hc⟩ := val_at hr.obs hmv r2
  obtain ⟨g, ty, cs0, hρ, hB, hF, hh, hcl, hcs⟩ := hr.obs.ok _ hm
  dsimp only at hρ
  have hxv := ptr_at r1 (g := g) (by rw [hρ]; rfl)
  have h4 : ∀ u ∈ (a.eval y).cells.toList, u.oneCell' = true := fun u hu => by
    rw [hv] at hu
    simp only [Value.cells] at hu
    obtain ⟨j, hj, rfl⟩ := List.getElem_of_mem hu
    have hj' : j < cs.length := by simpa using hj
    simpa using (hc j hj' (by omega)).1
  have hsz : (a.eval y).cells.size = size := by rw [hv]; simp [Value.cells]; omega
  obtain ⟨w', h5, h6, h7⟩ := storeVar_run (P := cx.P) (off := off) hs hsz hh (by omega) h4
  unfold Oper.wp execOp
  simp only [ho, Instr.storeAt, hxv, Instr.sureAddr, Sem.run_bind, Sem.run_pure, Result.andThen_ok, h5]
  refine ⟨by rw [ht]; rfl, fun e2 hr2 => ⟨F, ρ, ?_⟩⟩
  have hcl2 : (a.eval y).cells.toList = cs := by rw [hv]; simp [Value.cells]
  rw [hcl2] at h7
  refine hr2.write hρ hm hB hF h6 h7 (by simp; omega) (fun j hj hj' => ?_)
  rw [set_mid cs0 cs off size j (by omega) (by omega) hj, set_mid ss ss' off size j hl' hle hj']
  by_cases hjj : off ≤ j ∧ j < off + size
  · rw [dif_pos hjj, dif_pos hjj]
    exact hc _ _ _
  · rw [dif_neg hjj, dif_neg hjj]
    exact hcs _ _ _
/-- Whatever is one cell, stored. -/
theorem EOp.storeC {t id off : Nat} {x y : Operand} {s : S} {ss : List S} (ht : o.dst = none) (ho : o.op = .store t x y) (hs : ∀ w, (sizeOf t).run cx.P w = .ok 1 w) (hx : e.ev x = .ptr id off) (hm : (id, Ob.cells ss) ∈ σ) (hy : e.ev y = s) (h1 : OneC σ s) (hle : off < ss.length) :
    EOp cx ops o e σ (Obs.upd id (.cells (ss.take off ++ [s] ++ ss.drop (off + 1))) σ) := by
  intro F ρ a w e0 hr ha
  have hop : ∀ y ∈ o.op.operands.toList, RepS F ρ w (a.eval y) (e.ev y) := fun y hy => ev_rep fun t ht => ha t (looks_op (by rw [← ht]; exact hy))
  have r1 := hop x (by rw [ho]; simp [Op.operands])
  have r2 := hop y (by rw [ho]; simp [Op.operands])
  rw [hx] at r1
  rw [hy] at r2
  obtain ⟨c, hc, hone, hcr⟩ := h1.cell hr.obs r2
  obtain ⟨g, ty, cs0, hρ, hB, hF, hh, hcl, hcs⟩ := hr.obs.ok _ hm
  dsimp only at hρ
  have hxv := ptr_at r1 (g := g) (by rw [hρ]; rfl)
  obtain ⟨w', h5, h6, h7⟩ := storeVar_run (P := cx.P) (off := off) (v := a.eval y) (size := 1) hs (by rw [hc]; rfl) hh (by omega) (by rw [hc]; intro u hu; simp at hu; rw [hu]; exact hone)
  unfold Oper.wp execOp
  simp only [ho, Instr.storeAt, hxv, Instr.sureAddr, Sem.run_bind, Sem.run_pure, Result.andThen_ok, h5]
  refine ⟨by rw [ht]; rfl, fun e2 hr2 => ⟨F, ρ, ?_⟩⟩
  rw [hc] at h7
  refine hr2.write hρ hm hB hF h6 h7 (by simp; omega) (fun j hj hj' => ?_)
  rw [set_mid cs0 [c] off 1 j rfl (by omega) hj, set_mid ss [s] off 1 j rfl (by omega) hj']
  by_cases hjj : off ≤ j ∧ j < off + 1
  · rw [dif_pos hjj, dif_pos hjj]
    have : j - off = 0 := by omega
    simp only [this, List.getElem_cons_zero]
    exact ⟨hone, hcr⟩
  · rw [dif_neg hjj, dif_neg hjj]
    exact hcs _ _ _
/-- Cells that hold own parts become data. -/
theorem R0.freezeCell {F : Nat → Prop} {ρ : Nat → Value} {a : Act} {w : World} (h : R0 cx F ρ e σ a w) {id off : Nat} {ss : List S} {s : S} {d : D} {σs σ' : Obs} (hm : (id, Ob.cells ss) ∈ σ') (ho : ss[off]? = some s) (hs : Snap σs s d) (h1 : ∀ p ∈ σs, p ∈ σ) (h2 : ∀ p ∈ σ', p ∈ σ) (h3 : ∀ p ∈ σs, ∀ q ∈ σ', q.1 ≠ p.1) :
    R0 cx (endF F ρ σs) ρ e (Obs.upd id (.cells (ss.set off (.d d))) σ') a w := by
  have hF2 : ∀ b, endF F ρ σs b → b < w.heap.size := by
    rintro b (hb | ⟨p, hp, hb⟩)
    · exact h.lt b hb
    · exact ((h.obs.ok p (h1 p hp)).blk_lt hb).2
  have h4 : R0 cx (endF F ρ σs) ρ e σ' a w := by
    refine ⟨h.size, h.defers, hF2, fun b hb => .inl (h.base b hb), ?_, h.below, h.hB, fun u => ?_, ?_, h.up, fun p hp => h.kown p (h2 p hp), h.fixed⟩
    · rintro b (hb | ⟨p, hp, hb⟩)
      · exact h.new b hb
      · exact .inr (h.kown p (h1 p hp) b hb)
    · exact RepS.turn (row := none) (h.env u) h.lt (fun g hg => by simp at hg) ⟨rfl, rfl, rfl, Nat.le_refl _, fun _ _ _ => rfl⟩ (fun b hb => .inl hb)
    · refine ⟨fun p hp => ?_, fun p hp q hq => h.obs.apart p (h2 p hp) q (h2 q hq), fun p hp q hq => h.obs.uniq p (h2 p hp) q (h2 q hq)⟩
      refine (h.obs.ok p (h2 p hp)).more h.lt (fun b hb => .inl hb) ?_
      rintro g hg (hf | ⟨q, hq, hb⟩)
      · exact (h.obs.ok p (h2 p hp)).nF hg hf
      · exact h.obs.apart p (h2 p hp) q (h1 q hq) (h3 q hq p hp) g hg hb
  obtain ⟨g, ty, cs, g2, g3, g4, g5, g6, g7⟩ := h.obs.ok _ (h2 _ hm)
  dsimp only at g2
  have hof : off < ss.length := (List.getElem?_eq_some_iff.1 ho).1
  have hoe : ss[off] = s := (List.getElem?_eq_some_iff.1 ho).2
  refine h4.reOb hm ?_
  obtain ⟨g', ty', cs', k2, k3, k4, k5, k6, k7⟩ := h4.obs.ok _ hm
  dsimp only at k2
  refine ⟨g', ty', cs', k2, k3, k4, k5, by simpa using k6, fun j hj hj' => ⟨(k7 j hj (by simpa using hj')).1, ?_⟩⟩
  rw [List.getElem_set]
  by_cases hjo : off = j
  · rw [if_pos hjo]
    subst hjo
    have hgg : g = g' := by rw [g2] at k2; simpa using k2
    subst hgg
    rw [g5] at k5
    have hcc : cs = cs' := (show cs = cs' ∧ ty = ty' by simpa using (Option.some.inj k5)).1
    subst hcc
    have h8 := (g7 off hj hof).2
    rw [hoe] at h8
    exact .d (hs.rep (h.obs.sub h1) _ h8)
  · rw [if_neg hjo]
    exact (k7 j hj (by simpa using hj')).2
theorem AWP.freezeCell {c : Code} (id off : Nat) {ss : List S} {s : S} {d : D} (σs σ' : Obs) (hm : (id, Ob.cells ss) ∈ σ') (ho : ss[off]? = some s) (hs : Snap σs s d) (h1 : ∀ p ∈ σs, p ∈ σ) (h2 : ∀ p ∈ σ', p ∈ σ) (h3 : ∀ p ∈ σs, ∀ q ∈ σ', q.1 ≠ p.1)
    (k : AWP cx c e (Obs.upd id (.cells (ss.set off (.d d))) σ') Q) : AWP cx c e σ Q := fun a w ⟨F, ρ, hr⟩ => k a w ⟨_, ρ, hr.freezeCell hm ho hs h1 h2 h3⟩
end
/-! One object takes another's place. -/
def S.ren (i j : Nat) : S → S
  | .own k => match Nat.beq k i with | true => .own j | false => match Nat.beq k j with | true => .d .any | false => .own k
  | .ptr k off => match Nat.beq k i with | true => .ptr j off | false => match Nat.beq k j with | true => .d .any | false => .ptr k off
  | .d x => .d x
  | .clo f caps => .d .any
theorem RepS.ren {F : Nat → Prop} {ρ ρ' : Nat → Value} {w : World} {x : Value} {s : S} {i j : Nat} (h : RepS F ρ w x s) (hi : ρ' j = ρ i) (hρ : ∀ k, k ≠ j → ρ' k = ρ k) : RepS F ρ' w x (s.ren i j) := by
  cases h with
  | d h => exact .d h
  | own k =>
    cases hb : Nat.beq k i with
    | true => simp only [S.ren, hb]; have := Nat.eq_of_beq_eq_true hb; subst this; rw [← hi]; exact .own j
    | false =>
      cases hc : Nat.beq k j with
      | true => simp only [S.ren, hb, hc]; exact .d (.any _)
      | false => simp only [S.ren, hb, hc]; rw [← hρ k (beq_false hc)]; exact .own k
  | ptr k off g h =>
    cases hb : Nat.beq k i with
    | true => simp only [S.ren, hb]; have := Nat.eq_of_beq_eq_true hb; subst this; exact .ptr j off g (by rw [hi]; exact h)
    | false =>
      cases hc : Nat.beq k j with
      | true => simp only [S.ren, hb, hc]; exact .d (.any _)
      | false => simp only [S.ren, hb, hc]; exact .ptr k off g (by rw [hρ k (beq_false hc)]; exact h)
  | clo f cs caps h => exact .d (.any _)
def Ob.ren (i j : Nat) : Ob → Ob
  | .row e size els => .row e size els
  | .cells ss => .cells (ss.map (S.ren i j))
  | .cellsT e ss => .cellsT e (ss.map (S.ren i j))
  | .map M => .map M
  | .rowS e size els => .rowS e size (els.map fun ss => ss.map (S.ren i j))
  | .bts l => .bts l
  | .val ss => .val (ss.map (S.ren i j))
  | .iter M done => .iter M done
theorem ObOk.ren {B : Nat} {F : Nat → Prop} {ρ ρ' : Nat → Value} {w : World} {k k' : Nat} {o : Ob} {i j : Nat} (h : ObOk B F ρ w k o) (hk : ρ' k' = ρ k) (hi : ρ' j = ρ i) (hρ : ∀ k, k ≠ j → ρ' k = ρ k) : ObOk B F ρ' w k' (o.ren i j) := by
  cases o with
  | row e size els =>
    obtain ⟨xs, h1, h2, h3, h4⟩ := h
    exact ⟨xs, by rw [hk]; exact h1, h2, h3, by rw [hk]; exact h4⟩
  | cells ss =>
    obtain ⟨g, e, cs, h1, h2, h3, h4, h5, h6⟩ := h
    refine ⟨g, e, cs, by rw [hk]; exact h1, h2, h3, h4, by simp [h5], fun j hj hj' => ⟨(h6 j hj (by simpa using hj')).1, ?_⟩⟩
    rw [List.getElem_map]
    exact (h6 j hj (by simpa using hj')).2.ren hi hρ
  | cellsT ty0 ss =>
    obtain ⟨g, cs, h1, h2, h3, h4, h5, h6⟩ := h
    refine ⟨g, cs, by rw [hk]; exact h1, h2, h3, h4, by simp [h5], fun j hj hj' => ⟨(h6 j hj (by simpa using hj')).1, ?_⟩⟩
    rw [List.getElem_map]
    exact (h6 j hj (by simpa using hj')).2.ren hi hρ
  | map M =>
    obtain ⟨b, es, cl, h1, h2, h3, h4, h5, h6⟩ := h
    exact ⟨b, es, cl, by rw [hk]; exact h1, h2, h3, h4, h5, h6⟩
  | rowS e size els =>
    obtain ⟨xs, h1, h2, h3, h4⟩ := h
    refine ⟨xs, by rw [hk, List.length_map]; exact h1, fun k hk => by rw [List.getElem_map, List.length_map]; exact h2 k (by simpa using hk), fun k hk2 j hj => ?_, by rw [hk]; exact h4⟩
    have hk' : k < els.length := by simpa using hk2
    have hj' : j < els[k].length := by simpa using hj
    simp only [List.getElem_map]
    exact ⟨(h3 k hk' j hj').1, (h3 k hk' j hj').2.ren hi hρ⟩
  | bts l =>
    obtain ⟨g, e, cap, cur, fz, h1, h2, h3, h4, h5⟩ := h
    exact ⟨g, e, cap, cur, fz, by rw [hk]; exact h1, h2, h3, h4, h5⟩
  | val ss =>
    obtain ⟨cs, h1, h2, h3⟩ := h
    refine ⟨cs, by rw [hk]; exact h1, by simp [h2], fun j hj hj' => ⟨(h3 j hj (by simpa using hj')).1, ?_⟩⟩
    rw [List.getElem_map]
    exact (h3 j hj (by simpa using hj')).2.ren hi hρ
  | iter M done =>
    obtain ⟨g, b, es, cl, sn, c0, h1, h2, h3, h4, h5, h6, h7, h8⟩ := h
    exact ⟨g, b, es, cl, sn, c0, by rw [hk]; exact h1, h2, h3, h4, h5, h6, h7, h8⟩
section
variable {cx : Cx} {ops : Array Oper} {rest : List Oper} {e : Env} {σ : Obs} {Q : Post}
/-- Object i takes j's place; what j was is gone. -/
theorem R0.rename {F : Nat → Prop} {ρ : Nat → Value} {a : Act} {w : World} (h : R0 cx F ρ e σ a w) {i j : Nat} (hij : i ≠ j) (hfx : cx.free j = true) (σ' : Obs) (hσ : ∀ p ∈ σ', (∃ q ∈ σ, q.1 = i ∧ p = (j, q.2.ren i j)) ∨ ∃ q ∈ σ, q.1 ≠ i ∧ q.1 ≠ j ∧ p = (q.1, q.2.ren i j)) :
    ∃ ρ', R0 cx F ρ' (fun t => (e t).ren i j) σ' a w := by
  obtain ⟨ρ', hρ'⟩ : ∃ ρ' : Nat → Value, ρ' = fun k => if k = j then ρ i else ρ k := ⟨_, rfl⟩
  have hj : ρ' j = ρ i := by simp [hρ']
  have ho : ∀ k, k ≠ j → ρ' k = ρ k := fun k hk => by simp [hρ', hk]
  clear hρ'
  have hcase : ∀ p ∈ σ', ∃ q ∈ σ, q.1 ≠ j ∧ ((q.1 = i ∧ p.1 = j) ∨ (q.1 ≠ i ∧ p.1 = q.1)) ∧ ρ' p.1 = ρ q.1 ∧ p.2 = q.2.ren i j := fun p hp => by
    rcases hσ p hp with ⟨q, hq, h1, rfl⟩ | ⟨q, hq, h1, h2, rfl⟩
    · exact ⟨q, hq, by rw [h1]; exact hij, .inl ⟨h1, rfl⟩, by rw [h1]; exact hj, rfl⟩
    · exact ⟨q, hq, h2, .inr ⟨h1, rfl⟩, ho _ h2, rfl⟩
  refine ⟨ρ', h.size, h.defers, h.lt, h.base, h.new, h.below, h.hB, fun t => (h.env t).ren hj ho, ⟨fun p hp => ?_, fun p hp q hq hne g hg => ?_, fun p hp q hq he => ?_⟩, h.up, fun p hp g hg => ?_, fun k hk => ?_⟩
  · obtain ⟨q, hq, _, _, h1, h2⟩ := hcase p hp
    rw [h2]
    exact (h.obs.ok q hq).ren h1 hj ho
  · obtain ⟨p', hp', hpj, hpc, hpv, _⟩ := hcase p hp
    obtain ⟨q', hq', hqj, hqc, hqv, _⟩ := hcase q hq
    rw [hpv] at hg
    rw [hqv]
    refine h.obs.apart p' hp' q' hq' (fun he => hne ?_) g hg
    rcases hpc with ⟨h1, h2⟩ | ⟨h1, h2⟩ <;> rcases hqc with ⟨h3, h4⟩ | ⟨h3, h4⟩
    · rw [h2, h4]
    · exact absurd (by rw [← he, h1]) h3
    · exact absurd (by rw [he, h3]) h1
    · rw [h2, h4, he]
  · obtain ⟨p', hp', hpj, hpc, hpv, hp2⟩ := hcase p hp
    obtain ⟨q', hq', hqj, hqc, hqv, hq2⟩ := hcase q hq
    have hid : p'.1 = q'.1 := by
      rcases hpc with ⟨h1, h2⟩ | ⟨h1, h2⟩ <;> rcases hqc with ⟨h3, h4⟩ | ⟨h3, h4⟩
      · rw [h1, h3]
      · rw [h2, h4] at he; exact absurd he.symm hqj
      · rw [h2, h4] at he; exact absurd he hpj
      · rw [← h2, ← h4, he]
    have := h.obs.uniq p' hp' q' hq' hid
    rw [← this, ← hp2] at hq2
    exact Prod.ext he hq2.symm
  · obtain ⟨q, hq, _, _, h1, _⟩ := hcase p hp
    rw [h1] at hg
    exact h.kown q hq g hg
  · have : k ≠ j := Cx.free_ne hfx k hk
    rw [ho k this]
    exact h.fixed k hk
theorem AWP.rename {c : Code} (i j : Nat) (σ' : Obs) (hij : i ≠ j) (hfx : cx.free j = true) (hσ : ∀ p ∈ σ', (∃ q ∈ σ, q.1 = i ∧ p = (j, q.2.ren i j)) ∨ ∃ q ∈ σ, q.1 ≠ i ∧ q.1 ≠ j ∧ p = (q.1, q.2.ren i j)) (k : AWP cx c (fun t => (e t).ren i j) σ' Q) : AWP cx c e σ Q :=
  fun a w ⟨F, ρ, hr⟩ => by
    obtain ⟨ρ', h⟩ := hr.rename hij hfx σ' hσ
    exact k a w ⟨F, ρ', h⟩
end
end Go.Proofs.YtagdgclfnbiahaaDoor

namespace Go.Proofs.YtagdgclfnbiahaaDoor
open Go.RowKit
set_option linter.unusedVariables false

section
variable {P : Program} {B : Nat} {ops : Array Oper} {o : Oper} {e : Env} {σ : Obs}
theorem AOp.andG {t ty : TypeId} {x y : Operand} {a b : Int} {k : IntKind} (ho : o.op = .binOp .and t x y ty) (hx : e.ev x = .d (.v (.int k a))) (hy : e.ev y = .d (.v (.int k b))) : AOp P B ops o e σ (.d (.v (.int k (bits .and k a b)))) :=
  .bin ho hx hy fun w => by
    rw [Sem.run_bind, eqGuard_int]
    simp only [Result.andThen_ok, binOp]
    rw [if_neg (fun h => h rfl)]
    rfl
theorem AOp.orG {t ty : TypeId} {x y : Operand} {a b : Int} {k : IntKind} (ho : o.op = .binOp .or t x y ty) (hx : e.ev x = .d (.v (.int k a))) (hy : e.ev y = .d (.v (.int k b))) : AOp P B ops o e σ (.d (.v (.int k (bits .or k a b)))) :=
  .bin ho hx hy fun w => by
    rw [Sem.run_bind, eqGuard_int]
    simp only [Result.andThen_ok, binOp]
    rw [if_neg (fun h => h rfl)]
    rfl
theorem AOp.xorG {t ty : TypeId} {x y : Operand} {a b : Int} {k : IntKind} (ho : o.op = .binOp .xor t x y ty) (hx : e.ev x = .d (.v (.int k a))) (hy : e.ev y = .d (.v (.int k b))) : AOp P B ops o e σ (.d (.v (.int k (bits .xor k a b)))) :=
  .bin ho hx hy fun w => by
    rw [Sem.run_bind, eqGuard_int]
    simp only [Result.andThen_ok, binOp]
    rw [if_neg (fun h => h rfl)]
    rfl
/-- a >> n, of 64 bits without a sign -/
theorem AOp.shrG {t ty : TypeId} {x y : Operand} {a n : Int} {k j : IntKind} (ho : o.op = .binOp .shr t x y ty) (hx : e.ev x = .d (.v (.int k a))) (hy : e.ev y = .d (.v (.int j n))) (h0 : 0 ≤ n) (h1 : n ≤ k.bits) : AOp P B ops o e σ (.d (.v (.int k (a / 2 ^ n.toNat)))) :=
  .bin ho hx hy fun w => by
  rw [Sem.run_bind, eqGuard_int]
  simp only [Result.andThen_ok, binOp, Op.shift]
  rw [if_neg (by omega)]
  have h2 : Min.min n.toNat k.bits = n.toNat := by omega
  rw [h2]
  simp only [Sem.run_pure]
  congr 3
  exact Int.fdiv_eq_ediv_of_nonneg _ (Int.le_of_lt (Int.pow_pos (by decide)))
/-- a << n -/
theorem AOp.shlG {t ty : TypeId} {x y : Operand} {a n : Int} {k j : IntKind} (ho : o.op = .binOp .shl t x y ty) (hx : e.ev x = .d (.v (.int k a))) (hy : e.ev y = .d (.v (.int j n))) (h0 : 0 ≤ n) (h1 : n ≤ k.bits) : AOp P B ops o e σ (.d (.v (.int k (k.wrap (a * 2 ^ n.toNat))))) :=
  .bin ho hx hy fun w => by
  rw [Sem.run_bind, eqGuard_int]
  simp only [Result.andThen_ok, binOp, Op.shift]
  rw [if_neg (by omega)]
  have h2 : Min.min n.toNat k.bits = n.toNat := by omega
  rw [h2]
  simp only [Sem.run_pure]
end
end Go.Proofs.YtagdgclfnbiahaaDoor

namespace Go.Proofs.YtagdgclfnbiahaaDoor
open Go.RowKit
set_option linter.unusedVariables false

/-! Types. -/
namespace TyXB
theorem ag_24 : AggT Tryd.prog 24 2 := .of (by kernel_rfl)
theorem et_22 : ElemTy Tryd.prog 22 42 1 24 (.slice none 0 0) := ⟨by kernel_rfl, by kernel_rfl, by kernel_rfl, by decide⟩
theorem et_42 : ElemTy Tryd.prog 42 3 1 8 (.int .i64 0) := ⟨by kernel_rfl, by kernel_rfl, by kernel_rfl, by decide⟩
theorem fo_24_0 : fieldOff Tryd.prog 24 0 = some 0 := by kernel_rfl
theorem fo_24_1 : fieldOff Tryd.prog 24 1 = some 1 := by kernel_rfl
theorem sc_22 : Scal Tryd.prog 22 := .of (by kernel_rfl)
theorem sc_3 : Scal Tryd.prog 3 := .of (by kernel_rfl)
theorem sc_42 : Scal Tryd.prog 42 := .of (by kernel_rfl)
end TyXB
open TyXA TyXB

set_option linter.unusedSimpArgs false
theorem at_lst {α : Type} {l : List α} {f : α → List D} {k : Nat} (h : k < l.length) : (l.map f)[k]? = some (f l[k]) := by simp [h]
theorem SLe.i64 {a b : Int} (h : a = b) : SLe (S.d (D.v (Value.int .i64 a))) (S.d (D.v (Value.int .i64 b))) := SLe.of_eq (by rw [h])
theorem takeS {α : Type} {l : List α} {k : Nat} (h : k < l.length) : l.take (k + 1) = l.take k ++ [l[k]] := by
  rw [List.take_add_one, List.getElem?_eq_getElem h]; rfl
theorem head_at {s : Snd} (h : 0 < s.tracks.length) : (s.tracks.map trD)[0]? = some (trD s.tracks[0]) := at_lst h
theorem head_len {s : Snd} (h : 0 < s.tracks.length) : s.tracks[0].length = s.len := by
  unfold Snd.len
  obtain ⟨r, tr⟩ := s
  cases tr with
  | nil => simp at h
  | cons t l => rfl
theorem snd_1 {s : Snd} (h : ¬ (1 ≤ s.rate ∧ s.rate ≤ 1000000)) : sndF s = 1 := if_pos h
theorem snd_9 {s : Snd} (h : 1 ≤ s.rate ∧ s.rate ≤ 1000000) (h2 : s.tracks.length = 0) : sndF s = 9 := (if_neg (fun hh => hh h)).trans (if_pos h2)
theorem snd_2 {s : Snd} (h : 1 ≤ s.rate ∧ s.rate ≤ 1000000) (h2 : ¬ s.tracks.length = 0) (h3 : 16 < s.tracks.length ∨ 100000 < s.len) : sndF s = 2 := (if_neg (fun hh => hh h)).trans ((if_neg h2).trans (if_pos h3))
theorem snd_k {s : Snd} (h : 1 ≤ s.rate ∧ s.rate ≤ 1000000) (h2 : ¬ s.tracks.length = 0) (h3 : ¬ (16 < s.tracks.length ∨ 100000 < s.len)) : sndF s = fst (tkF s.len s.tracks) s.tracks.length := (if_neg (fun hh => hh h)).trans ((if_neg h2).trans (if_neg h3))
theorem tk_3 {n : Nat} {l : List (List Int)} {k : Nat} (hk : k < l.length) (h : l[k].length ≠ n) : tkF n l k = 3 := by unfold tkF; rw [dif_pos hk, if_pos h]
theorem tk_s {n : Nat} {l : List (List Int)} {k : Nat} (hk : k < l.length) (h : ¬ l[k].length ≠ n) : tkF n l k = fst (smF l[k]) l[k].length := by unfold tkF; rw [dif_pos hk, if_neg h]
theorem sm_0 {t : List Int} {i : Nat} (hi : i < t.length) (h : -8388608 ≤ t[i] ∧ t[i] ≤ 8388607) : smF t i = 0 := by unfold smF; rw [dif_pos hi, if_pos h]
theorem sm_1 {t : List Int} {i : Nat} (hi : i < t.length) (h : ¬ (-8388608 ≤ t[i] ∧ t[i] ≤ 8388607)) : smF t i = 1 := by unfold smF; rw [dif_pos hi, if_neg h]
/-! ## Rows of numbers by what lies where -/
def rwI (f : Nat → Int) (n : Nat) : List (List D) := (List.range n).map fun i => sI (f i)
theorem rwI_len (f : Nat → Int) (n : Nat) : (rwI f n).length = n := by unfold rwI; simp
theorem rwI_at {f : Nat → Int} {n k : Nat} (h : k < n) : (rwI f n)[k]? = some (sI (f k)) := by unfold rwI; simp [h]
theorem rwI_congr {f g : Nat → Int} {n : Nat} (h : ∀ i, i < n → f i = g i) : rwI f n = rwI g n := by
  unfold rwI
  refine List.map_congr_left fun i hi => ?_
  rw [h i (List.mem_range.1 hi)]
theorem rwI_set {f g : Nat → Int} {n k : Nat} {v : Int} (hk : k < n) (h : ∀ i, i < n → g i = if i = k then v else f i) : (rwI f n).set k (sI v) = rwI g n := by
  unfold rwI
  refine List.ext_getElem (by simp) fun i h1 h2 => ?_
  have hi : i < n := by simpa using h2
  rw [List.getElem_set, List.getElem_map, List.getElem_map, List.getElem_range, h i hi]
  by_cases e : k = i
  · subst e; simp
  · rw [if_neg e, if_neg (fun hh => e hh.symm)]
theorem rwI_zero (n : Nat) : List.replicate n [D.v (.int .i64 0)] = rwI (fun _ => 0) n := by
  unfold rwI
  exact (List.eq_replicate_iff.2 ⟨by simp, fun x hx => by obtain ⟨i, _, rfl⟩ := List.mem_map.1 hx; rfl⟩).symm
theorem rwI_lst (f : Nat → Int) (n : Nat) : rwI f n = ((List.range n).map f).map sI := by unfold rwI; rw [List.map_map]; rfl
/-- What lies at the level j before the sample i of the track k. -/
def lvK (s : Snd) (p n k i j : Nat) : Int := sumT p n (s.tracks.take k) j + pre p (s.tracks.getD k []) i j
/-! ## Bits -/
def mrkF (s : Snd) (part : Int) : Int := if sndF s ≠ 0 then sndF s else if ¬ (1 ≤ part ∧ part ≤ 100000) then 1 else 0
def mrkR (s : Snd) (part : Int) : Int := if mrkF s part ≠ 0 then mrkF s part else if 500 + 8 < s.len / part.toNat then 2 else 0
def mrkV (s : Snd) (part : Int) : List Int := if mrkR s part = 0 then mrkL s part.toNat else []

set_option maxRecDepth 100000 in
set_option maxHeartbeats 1000000 in
theorem c_isSm (n : Int) : ACall Tryd.prog 41 [.v (.int .i64 n)] (.v (.bool (decide (-8388608 ≤ n ∧ n ≤ 8388607)))) := by
 refine acall_of (n := 9) (ds' := [.v (.bool (decide (-8388608 ≤ n ∧ n ≤ 8388607)))]) Tryd.func41 rfl (by kernel_rfl) rfl [2] rfl rfl ?_
 intro B w0 F0 fr
 refine .sr ?_
 refine .aA (.nil ?_)
 refine .sr ?_
 refine .mA ?_
 refine .sA (.geq rfl rfl rfl) ?_
 refine .mA ?_
 refine .split 5 rfl (fun g1 => ?_) (fun g1 => ?_)
 ·replace g1 := of_decide_eq_true g1
  refine .sG (.moveD rfl rfl) ?_
  refine .sG (.leq rfl rfl rfl) ?_
  refine .sA (.pickT rfl rfl rfl) ?_
  refine .aA (.nil ?_)
  refine .ret ?_
  refine ⟨RetD.eq rfl ?_, trivial⟩
  all_goals (simp; omega)
 replace g1 := of_decide_eq_false g1
 refine .pA ?_
 refine .pA ?_
 refine .sA (.pickF rfl rfl rfl) ?_
 refine .aA (.nil ?_)
 refine .ret ?_
 refine ⟨RetD.eq rfl ?_, trivial⟩
 all_goals (simp; omega)

set_option maxRecDepth 100000 in
set_option maxHeartbeats 1000000 in
theorem c_rate (n : Int) : ACall Tryd.prog 34 [.v (.int .i64 n)] (.v (.bool (decide (1 ≤ n ∧ n ≤ 1000000)))) := by
 refine acall_of (n := 9) (ds' := [.v (.bool (decide (1 ≤ n ∧ n ≤ 1000000)))]) Tryd.func34 rfl (by kernel_rfl) rfl [2] rfl rfl ?_
 intro B w0 F0 fr
 refine .sr ?_
 refine .aA (.nil ?_)
 refine .sr ?_
 refine .mA ?_
 refine .sA (.geq rfl rfl rfl) ?_
 refine .mA ?_
 refine .split 5 rfl (fun g1 => ?_) (fun g1 => ?_)
 ·replace g1 := of_decide_eq_true g1
  refine .sG (.moveD rfl rfl) ?_
  refine .sG (.leq rfl rfl rfl) ?_
  refine .sA (.pickT rfl rfl rfl) ?_
  refine .aA (.nil ?_)
  refine .ret ?_
  refine ⟨RetD.eq rfl ?_, trivial⟩
  all_goals (simp; omega)
 replace g1 := of_decide_eq_false g1
 refine .pA ?_
 refine .pA ?_
 refine .sA (.pickF rfl rfl rfl) ?_
 refine .aA (.nil ?_)
 refine .ret ?_
 refine ⟨RetD.eq rfl ?_, trivial⟩
 all_goals (simp; omega)

set_option maxRecDepth 100000 in
set_option maxHeartbeats 1000000 in
theorem c_len (s : Snd) (h : 0 < s.tracks.length) : ACall Tryd.prog 21 [.agg s.ds] (.v (.int .i64 (s.len : Int))) := by
 refine acall_of (n := 8) (ds' := [.v (.int .i64 (s.len : Int))]) Tryd.func21 rfl (by kernel_rfl) rfl [2] rfl rfl ?_
 intro B w0 F0 fr
 refine .sr ?_
 refine .sA (.box rfl rfl rfl) ?_
 refine .aA (.nil ?_)
 refine .sr ?_
 refine .sA (.fieldAddr rfl fo_24_1 rfl) ?_
 refine .sA (.load rfl sc_22 rfl) ?_
 refine .sA (.indexAddr rfl et_22 rfl rfl 0 rfl (head_at h) rfl) ?_
 refine .sA (.load rfl sc_42 rfl) ?_
 refine .sA (.lenSl rfl et_42.ht rfl) ?_
 rw [List.length_map, head_len h]
 refine .aA (.nil ?_)
 refine .ret ?_
 refine ⟨RetD.eq rfl ?_, trivial⟩
 all_goals (rfl)

set_option maxRecDepth 100000 in
set_option maxHeartbeats 1000000 in
theorem c_chk (s : Snd) : ACall Tryd.prog 18 [.agg s.ds] (.v (.int .i64 (sndF s))) := by
 refine acall_of (n := 50) (ds' := [.v (.int .i64 (sndF s))]) Tryd.func18 rfl (by kernel_rfl) rfl [2] rfl rfl ?_
 intro B w0 F0 fr
 refine .sr ?_
 refine .sA (.box rfl rfl rfl) ?_
 refine .aA (.nil ?_)
 refine .seq ?_
 refine .block ?_
 refine .sr ?_
 refine .sA (.fieldAddr rfl fo_24_0 rfl) ?_
 refine .sA (.load rfl sc_3 rfl) ?_
 refine .sA (.call rfl (.cons (.rfl' rfl) .nil) (c_rate _)) ?_
 refine .sA (.not rfl rfl) ?_
 refine .aA (.nil ?_)
 refine .cond rfl (fun h1 => ?_) (fun h1 => ?_)
 ·replace h1 := bnot_t h1; replace h1 := of_decide_eq_false h1
  rw [snd_1 h1]
  refine .sr ?_
  refine .aA (.nil ?_)
  refine .ret ?_
  refine ⟨RetD.eq rfl ?_, trivial⟩
  all_goals (first | rfl)
 replace h1 := bnot_f h1; replace h1 := of_decide_eq_true h1
 have n1 := h1
 refine .sr ?_
 refine .sA (.fieldAddr rfl fo_24_1 rfl) ?_
 refine .sA (.load rfl sc_22 rfl) ?_
 refine .sA (.lenSl rfl et_22.ht rfl) ?_
 refine .sA (.eql rfl rfl rfl) ?_
 refine .aA (.nil ?_)
 refine .cond rfl (fun h2 => ?_) (fun h2 => ?_)
 ·replace h2 := of_decide_eq_true h2
  rw [List.length_map] at h2
  rw [snd_9 n1 (by omega)]
  refine .sr ?_
  refine .aA (.nil ?_)
  refine .ret ?_
  refine ⟨RetD.eq rfl ?_, trivial⟩
  all_goals (first | rfl)
 replace h2 := of_decide_eq_false h2
 rw [List.length_map] at h2
 have n2 : ¬ s.tracks.length = 0 := by omega
 refine .sr ?_
 refine .sA (.fieldAddr rfl fo_24_1 rfl) ?_
 refine .sA (.load rfl sc_22 rfl) ?_
 refine .sA (.lenSl rfl et_22.ht rfl) ?_
 refine .sA (.gtr rfl rfl rfl) ?_
 refine .mA ?_
 refine .split 22 rfl (fun g3 => ?_) (fun g3 => ?_)
 ·replace g3 := of_decide_eq_true g3
  rw [List.length_map] at g3
  rw [snd_2 n1 n2 (by omega)]
  refine .pA ?_
  refine .pA ?_
  refine .pA ?_
  refine .sA (.pickT rfl rfl rfl) ?_
  refine .aA (.nil ?_)
  refine .cond rfl (fun _ => ?_) (fun h => nomatch h)
  refine .sr ?_
  refine .aA (.nil ?_)
  refine .ret ?_
  refine ⟨RetD.eq rfl ?_, trivial⟩
  all_goals (first | rfl)
 replace g3 := of_decide_eq_false g3
 rw [List.length_map] at g3
 refine .sG (.loadAgg rfl ag_24 rfl rfl) ?_
 refine .sG (.call rfl (.cons (.rfl' rfl) .nil) (c_len s (by omega))) ?_
 refine .sG (.gtr rfl rfl rfl) ?_
 refine .sA (.pickF rfl rfl rfl) ?_
 refine .aA (.nil ?_)
 refine .cond rfl (fun h4 => ?_) (fun h4 => ?_)
 ·replace h4 := of_decide_eq_true h4
  have HF := snd_2 n1 n2 (by omega)
  rw [HF]
  refine .sr ?_
  refine .aA (.nil ?_)
  refine .ret ?_
  refine ⟨RetD.eq rfl ?_, trivial⟩
  all_goals (first | rfl)
 replace h4 := of_decide_eq_false h4
 have n3 : ¬ (16 < s.tracks.length ∨ 100000 < s.len) := by omega
 have HK := snd_k n1 n2 n3
 rw [HK]
 refine .skip ?_
 refine .seq ?_
 refine .sr ?_
 refine .sA (.fieldAddr rfl fo_24_1 rfl) ?_
 refine .sA (.load rfl sc_22 rfl) ?_
 refine .sA (.lenSl rfl et_22.ht rfl) ?_
 refine .mA (.nil ?_)
 refine .block ?_
 refine .loop (G := Nat) (fun k => Env.of [(30, .d (.v (.int .i64 (k : Int)))), (28, .d (.sl (s.tracks.map trD))), (29, .d (.v (.int .i64 ((s.tracks.map trD).length : Int)))), (1, .d (.fp s.ds))]) (fun k => []) (fun k => k ≤ s.tracks.length ∧ fst (tkF s.len s.tracks) k = 0) (fun k => s.tracks.length - k) 0 ⟨Nat.zero_le _, rfl⟩ (Sub.less ⟨(SLe.of_eq rfl), SLe.refl _, SLe.refl _, SLe.refl _, trivial⟩ (fun _ h => h)) ?_
 intro k hk
 refine .sr ?_
 refine .sA (.lss rfl rfl rfl) (.nil ?_)
 refine .seq ?_
 refine .cond rfl (fun h5 => ?_) (fun h5 => ?_)
 ·replace h5 := of_decide_eq_true h5
  rw [List.length_map] at h5
  have hlt : k < s.tracks.length := by omega
  refine .skip ?_
  refine .seq ?_
  refine .block ?_
  refine .sr ?_
  refine .sA (.indexAddr rfl et_22 rfl rfl k rfl (at_lst hlt) rfl) ?_
  refine .sA (.load rfl sc_42 rfl) ?_
  refine .aA (.nil ?_)
  refine .seq ?_
  refine .sr ?_
  refine .mA ?_
  refine .sA (.lenSl rfl et_42.ht rfl) ?_
  refine .sA (.loadAgg rfl ag_24 rfl rfl) ?_
  refine .sA (.call rfl (.cons (.rfl' rfl) .nil) (c_len s (by omega))) ?_
  refine .sA (.neq rfl rfl rfl) (.nil ?_)
  refine .cond rfl (fun h6 => ?_) (fun h6 => ?_)
  ·replace h6 := of_decide_eq_true h6
   rw [List.length_map] at h6
   have h3 : s.tracks[k].length ≠ s.len := by omega
   rw [fst_hit hk.2 (by rw [tk_3 hlt h3]; decide) _ hlt, tk_3 hlt h3]
   refine .sr ?_
   refine .aA (.nil ?_)
   refine .ret ?_
   refine ⟨RetD.eq rfl ?_, trivial⟩
   all_goals (first | rfl)
  replace h6 := of_decide_eq_false h6
  rw [List.length_map] at h6
  have h3 : ¬ s.tracks[k].length ≠ s.len := by omega
  refine .skip ?_
  refine .sr ?_
  refine .mA ?_
  refine .sA (.lenSl rfl et_42.ht rfl) ?_
  refine .mA (.nil ?_)
  refine .block ?_
  refine .loop (G := Nat) (fun i => Env.of [(41, .d (.v (.int .i64 (i : Int)))), (39, .d (.sl (s.tracks[k].map sI))), (40, .d (.v (.int .i64 ((s.tracks[k].map sI).length : Int)))), (30, .d (.v (.int .i64 (k : Int)))), (28, .d (.sl (s.tracks.map trD))), (29, .d (.v (.int .i64 ((s.tracks.map trD).length : Int)))), (1, .d (.fp s.ds))]) (fun i => []) (fun i => i ≤ s.tracks[k].length ∧ fst (smF s.tracks[k]) i = 0) (fun i => s.tracks[k].length - i) 0 ⟨Nat.zero_le _, rfl⟩ (Sub.less ⟨(SLe.of_eq rfl), SLe.refl _, SLe.refl _, SLe.refl _, SLe.refl _, SLe.refl _, SLe.refl _, trivial⟩ (fun _ h => h)) ?_
  intro i hi
  refine .sr ?_
  refine .sA (.lss rfl rfl rfl) (.nil ?_)
  refine .seq ?_
  refine .cond rfl (fun h7 => ?_) (fun h7 => ?_)
  ·replace h7 := of_decide_eq_true h7
   rw [List.length_map] at h7
   have hil : i < s.tracks[k].length := by omega
   refine .skip ?_
   refine .seq ?_
   refine .block ?_
   refine .sr ?_
   refine .sA (.indexAddr rfl et_42 rfl rfl i rfl (at_lst hil) rfl) ?_
   refine .sA (.load rfl sc_3 rfl) ?_
   refine .aA (.nil ?_)
   refine .sr ?_
   refine .mA ?_
   refine .sA (.call rfl (.cons (.rfl' rfl) .nil) (c_isSm _)) ?_
   refine .sA (.not rfl rfl) (.nil ?_)
   refine .cond rfl (fun h8 => ?_) (fun h8 => ?_)
   ·replace h8 := bnot_t h8; replace h8 := of_decide_eq_false h8
    have HX := fst_hit hi.2 (show smF s.tracks[k] i ≠ 0 by rw [sm_1 hil h8]; decide) _ hil
    rw [sm_1 hil h8] at HX
    have HY := (tk_s hlt h3).trans HX
    rw [fst_hit hk.2 (by rw [HY]; decide) _ hlt, HY]
    refine .sr ?_
    refine .aA (.nil ?_)
    refine .ret ?_
    refine ⟨RetD.eq rfl ?_, trivial⟩
    all_goals (first | rfl)
   replace h8 := bnot_f h8; replace h8 := of_decide_eq_true h8
   have HS := sm_0 hil h8
   refine .skip ?_
   refine .region ?_
   refine .sA (.add64 rfl rfl rfl (by omega) (by omega)) ?_
   refine .mA (.nil ?_)
   refine ⟨i + 1, ⟨by omega, fst_next hi.2 HS⟩, (by dsimp only; omega), Sub.less ⟨(SLe.of_eq rfl), SLe.refl _, SLe.refl _, SLe.refl _, SLe.refl _, SLe.refl _, SLe.refl _, trivial⟩ (fun _ h => h)⟩
  replace h7 := of_decide_eq_false h7
  rw [List.length_map] at h7
  obtain rfl : i = s.tracks[k].length := by omega
  have HZ : tkF s.len s.tracks k = 0 := (tk_s hlt h3).trans hi.2
  refine .exit ?_
  refine .region ?_
  refine .sA (.add64 rfl rfl rfl (by omega) (by omega)) ?_
  refine .mA (.nil ?_)
  refine ⟨k + 1, ⟨by omega, fst_next hk.2 HZ⟩, (by dsimp only; omega), Sub.less ⟨(SLe.of_eq rfl), SLe.refl _, SLe.refl _, SLe.refl _, trivial⟩ (fun _ h => h)⟩
 replace h5 := of_decide_eq_false h5
 rw [List.length_map] at h5
 obtain rfl : k = s.tracks.length := by omega
 rw [hk.2]
 refine .exit ?_
 refine .sr ?_
 refine .aA (.nil ?_)
 refine .ret ?_
 refine ⟨RetD.eq rfl ?_, trivial⟩
 all_goals (first | rfl)

end Go.Proofs.YtagdgclfnbiahaaDoor

namespace Go.Proofs
open Go.Shelf
def Tryd.l160_ren : Go.Shelf.Ren := ⟨fun | 160 => 43 | 232 => 62 | 231 => 61 | 227 => 63 | 234 => 65 | 233 => 64 | 236 => 67 | 235 => 66 | 228 => 81 | 271 => 84 | 151 => 83 | 197 => 82 | 120 => 89 | 152 => 88 | 260 => 87 | 137 => 94 | 119 => 95 | 224 => 92 | 225 => 91 | 217 => 90 | 266 => 96 | n => n, fun | 9 => 9 | 4 => 4 | 3 => 3 | 5 => 5 | 117 => 117 | 116 => 116 | 0 => 0 | 124 => 120 | 21 => 21 | 105 => 134 | 46 => 93 | 119 => 141 | 139 => 144 | 138 => 143 | n => n, fun | 3 => 1 | 4 => 2 | n => n⟩
theorem Tryd.l160 : Go.Proofs.Lays.n160 Tryd.prog Tryd.l160_ren := {
  mixed := by kernel_rfl
  f119 := Tryd.func95.trans (congrArg some (by kernel_rfl))
  f120 := Tryd.func89.trans (congrArg some (by kernel_rfl))
  f137 := Tryd.func94.trans (congrArg some (by kernel_rfl))
  f151 := Tryd.func83.trans (congrArg some (by kernel_rfl))
  f152 := Tryd.func88.trans (congrArg some (by kernel_rfl))
  f160 := Tryd.func43.trans (congrArg some (by kernel_rfl))
  f197 := Tryd.func82.trans (congrArg some (by kernel_rfl))
  f217 := Tryd.func90.trans (congrArg some (by kernel_rfl))
  f224 := Tryd.func92.trans (congrArg some (by kernel_rfl))
  f225 := Tryd.func91.trans (congrArg some (by kernel_rfl))
  f227 := Tryd.func63.trans (congrArg some (by kernel_rfl))
  f228 := Tryd.func81.trans (congrArg some (by kernel_rfl))
  f231 := Tryd.func61.trans (congrArg some (by kernel_rfl))
  f232 := Tryd.func62.trans (congrArg some (by kernel_rfl))
  f233 := Tryd.func64.trans (congrArg some (by kernel_rfl))
  f234 := Tryd.func65.trans (congrArg some (by kernel_rfl))
  f235 := Tryd.func66.trans (congrArg some (by kernel_rfl))
  f236 := Tryd.func67.trans (congrArg some (by kernel_rfl))
  f260 := Tryd.func87.trans (congrArg some (by kernel_rfl))
  f266 := Tryd.func96.trans (congrArg some (by kernel_rfl))
  f271 := Tryd.func84.trans (congrArg some (by kernel_rfl))
  t0 := Tryd.underlying0
  a0 := Tryd.isAgg0
  z0 := Tryd.sizeOf0
  v0 := Tryd.zeroValue0
  t3 := Tryd.underlying3
  a3 := Tryd.isAgg3
  z3 := Tryd.sizeOf3
  v3 := Tryd.zeroValue3
  t4 := Tryd.underlying4
  a4 := Tryd.isAgg4
  z4 := Tryd.sizeOf4
  v4 := Tryd.zeroValue4
  t5 := Tryd.underlying5
  a5 := Tryd.isAgg5
  z5 := Tryd.sizeOf5
  v5 := Tryd.zeroValue5
  t9 := Tryd.underlying9
  a9 := Tryd.isAgg9
  z9 := Tryd.sizeOf9
  v9 := Tryd.zeroValue9
  t21 := Tryd.underlying21
  a21 := Tryd.isAgg21
  z21 := Tryd.sizeOf21
  v21 := Tryd.zeroValue21
  t46 := Tryd.underlying93
  a46 := Tryd.isAgg93
  z46 := Tryd.sizeOf93
  v46 := Tryd.zeroValue93
  t105 := Tryd.underlying134
  a105 := Tryd.isAgg134
  z105 := Tryd.sizeOf134
  v105 := Tryd.zeroValue134
  t116 := Tryd.underlying116
  a116 := Tryd.isAgg116
  z116 := Tryd.sizeOf116
  t117 := Tryd.underlying117
  a117 := Tryd.isAgg117
  z117 := Tryd.sizeOf117
  v117 := Tryd.zeroValue117
  t119 := Tryd.underlying141
  a119 := Tryd.isAgg141
  z119 := Tryd.sizeOf141
  t124 := Tryd.underlying120
  a124 := Tryd.isAgg120
  z124 := Tryd.sizeOf120
  v124 := Tryd.zeroValue120
  t138 := Tryd.underlying143
  a138 := Tryd.isAgg143
  z138 := Tryd.sizeOf143
  v138 := Tryd.zeroValue143
  t139 := Tryd.underlying144
  a139 := Tryd.isAgg144
  z139 := Tryd.sizeOf144
  v139 := Tryd.zeroValue144
  g3 := by kernel_rfl
  g4 := by kernel_rfl }
end Go.Proofs

namespace Go.Proofs.YtagdgclfnbiahaaDoor
open Go.RowKit
attribute [local go_sem ↓] run_min_kept run_max_kept

/-- Bytes as values. -/
def u8s (l : List UInt8) : List Value := l.map fun c => .int .u8 (c.toNat : Int)
/-- Sums as values. -/
def u32s (l : List Nat) : List Value := l.map fun (c : Nat) => .int .u32 (c : Int)

theorem u8s_getD (l : List UInt8) (k : Nat) (h : k < l.length) : (u8s l).getD k undef = .int .u8 (l[k].toNat : Int) := by
  simp [u8s, List.getD_eq_getElem?_getD, h]
def fstep (x : Nat) (c : UInt8) : Nat := ((x ^^^ c.toNat) * 16777619) % 4294967296
def fseed : Nat := 2166136261
def fnv (l : List UInt8) : Nat := l.foldl fstep fseed

theorem fnv_snoc (l : List UInt8) (c : UInt8) : fnv (l ++ [c]) = fstep (fnv l) c := by unfold fnv; rw [List.foldl_append, List.foldl_cons, List.foldl_nil]
theorem fstep_lt (x : Nat) (c : UInt8) : fstep x c < 4294967296 := by unfold fstep; omega
theorem fnv_lt (l : List UInt8) : fnv l < 4294967296 := by
  rcases List.eq_nil_or_concat l with rfl | ⟨l', c, rfl⟩
  · show fseed < _; unfold fseed; omega
  · rw [List.concat_eq_append, fnv_snoc]; exact fstep_lt _ _

theorem take_snoc {α : Type} (l : List α) (k : Nat) (h : k < l.length) : l.take (k + 1) = l.take k ++ [l[k]] := by
  rw [List.take_succ_eq_append_getElem h]

theorem fstep_u32 (x : Nat) (c : UInt8) (hx : x < 4294967296) : bits .xor .u32 (x : Int) (c.toNat : Int) * 16777619 % 4294967296 = ((fstep x c : Nat) : Int) := by
  rw [u32_xor_nat x c.toNat hx (by have := c.toNat_lt; omega)]
  unfold fstep
  omega
end Go.Proofs.YtagdgclfnbiahaaDoor

namespace Go.Proofs.YtagdgclfnbiahaaDoor
open Go.RowKit Go.Shelf Go.Lib
attribute [local go_sem ↓] run_min_kept run_max_kept

/-- a to z, 0 to 9, the hyphen. -/
def nameB (b : UInt8) : Bool := (decide (97 ≤ b.toNat) && decide (b.toNat ≤ 122)) || (decide (48 ≤ b.toNat) && decide (b.toNat ≤ 57)) || decide (b.toNat = 45)
def headB (b : UInt8) : Bool := decide (97 ≤ b.toNat) && decide (b.toNat ≤ 122)
/-- What a name is. -/
def isName (l : List UInt8) : Bool := decide (1 ≤ l.length) && decide (l.length ≤ 40) && headB (l.headD 0) && l.all nameB

def letters : List UInt8 := [97, 98, 99, 100, 101, 102, 103, 104, 105, 106, 107, 108, 109, 110, 111, 112, 113, 114, 115, 116, 117, 118, 119, 120, 121, 122, 48, 49, 50, 51, 52, 53, 54, 55, 56, 57, 45]
theorem letters_nat : ∀ n : Fin 256, letters.contains (UInt8.ofNat n.val) = nameB (UInt8.ofNat n.val) := by decide +kernel
theorem letters_eq (b : UInt8) : letters.contains b = nameB b := by
  have := letters_nat ⟨b.toNat, b.toNat_lt⟩
  simpa using this

theorem dropWhile_nil {α : Type} (p : α → Bool) : ∀ l : List α, l.dropWhile p = [] ↔ l.all p = true
  | [] => by simp
  | x :: l => by
    cases h : p x
    · simp [h]
    · simp [h, dropWhile_nil p l]
theorem trim_nil (l : List UInt8) : (Lib.trimS l letters = []) ↔ l.all nameB = true := by
  have hf : (fun b => letters.contains b) = nameB := funext letters_eq
  unfold Lib.trimS Lib.trimLeftS Lib.trimRightS
  rw [dropWhile_nil, hf]
  constructor
  · intro h
    rw [List.all_reverse] at h
    have h2 : (l.reverse.dropWhile nameB) = [] := by
      cases hd : l.reverse.dropWhile nameB with
      | nil => rfl
      | cons x r =>
        have h3 := List.head?_dropWhile_not nameB l.reverse
        rw [hd] at h h3
        simp at h h3
        rw [h.1] at h3
        cases h3
    rw [dropWhile_nil, List.all_reverse] at h2
    exact h2
  · intro h
    have : l.reverse.dropWhile nameB = [] := by rw [dropWhile_nil, List.all_reverse]; exact h
    rw [this]; rfl

set_option maxHeartbeats 800000 in
theorem pName_any (s : ByteArray) (w : World) (hs : s.size ≤ 9223372036854775807) :
    Calls Tryd.prog 24 #[.string s] w fun e w' => e = .returned (.bool (isName s.data.toList)) ∧ Below w.heap.size w w' := by
  have hl : s.data.toList.length = s.size := by rw [Array.length_toList]; rfl
  by_cases h0 : s.size < 1
  · have HR := Lib.hid (show isName s.data.toList = false by unfold isName; rw [hl]; simp; omega)
    clear hl
    go_enter Tryd.func24, Tryd.ntmps24
    go_wp2_with fail
    go_ret
    exact ⟨by rw [HR.out]; rfl, Below.refl _ _⟩
  by_cases h1 : 40 < s.size
  · have HR := Lib.hid (show isName s.data.toList = false by unfold isName; rw [hl]; simp; omega)
    clear hl
    go_enter Tryd.func24, Tryd.ntmps24
    go_wp2_with fail
    go_ret
    exact ⟨by rw [HR.out]; rfl, Below.refl _ _⟩
  have hp : 0 < s.size := by omega
  have hh : s.data.toList.headD 0 = s[0] := by
    obtain ⟨⟨l⟩⟩ := s
    cases l with
    | nil => simp [ByteArray.size] at hp
    | cons x r => rfl
  have hlen : (decide (1 ≤ s.data.toList.length) && decide (s.data.toList.length ≤ 40)) = true := by rw [hl]; simp; omega
  have hname : isName s.data.toList = (headB s[0] && s.data.toList.all nameB) := by unfold isName; rw [hlen, hh, Bool.true_and]
  clear hl hlen hh
  by_cases ha : s[0].toNat < 97
  · have HR := Lib.hid (show isName s.data.toList = false by rw [hname]; unfold headB; simp; omega)
    clear hname
    go_enter Tryd.func24, Tryd.ntmps24
    go_wp2_with fail
    go_ret
    exact ⟨by rw [HR.out]; rfl, Below.refl _ _⟩
  by_cases hb : 122 < s[0].toNat
  · have HR := Lib.hid (show isName s.data.toList = false by rw [hname]; unfold headB; simp; omega)
    clear hname
    go_enter Tryd.func24, Tryd.ntmps24
    go_wp2_with fail
    go_ret
    exact ⟨by rw [HR.out]; rfl, Below.refl _ _⟩
  have hhd : headB s[0] = true := by unfold headB; simp; omega
  rw [hhd, Bool.true_and] at hname
  have hlet : (⟨letters.toArray⟩ : ByteArray).size < 4294967281 := by decide
  have hcon := Any.strings_Trim_laid Tryd.l160 (by kernel_rfl) s ⟨letters.toArray⟩ w hs hlet (ascii_of_all (by decide))
  change Calls Tryd.prog 43 #[.string s, .string ⟨#[97, 98, 99, 100, 101, 102, 103, 104, 105, 106, 107, 108, 109, 110, 111, 112, 113, 114, 115, 116, 117, 118, 119, 120, 121, 122, 48, 49, 50, 51, 52, 53, 54, 55, 56, 57, 45]⟩] w (fun e w' => e = .returned (.string ⟨(Lib.trimS s.data.toList letters).toArray⟩) ∧ Below w.heap.size w w') at hcon
  have ha' : 97 ≤ s[0].toNat := by omega
  have hb' : s[0].toNat ≤ 122 := by omega
  by_cases hall : s.data.toList.all nameB = true
  · have HR := Lib.hid (hname.trans hall)
    rw [(trim_nil s.data.toList).2 hall] at hcon
    have HC := Lib.hid hcon
    clear hname hall hcon hhd
    go_enter Tryd.func24, Tryd.ntmps24
    go_wp2_with fail
    refine HC.out.mono ?_
    rintro e w' ⟨rfl, hbel⟩
    go_wp2_with fail
    go_ret
    exact ⟨by rw [HR.out]; rfl, hbel⟩
  · have hne : (⟨(Lib.trimS s.data.toList letters).toArray⟩ : ByteArray) ≠ ⟨#[]⟩ := by
      intro h
      apply hall
      rw [← trim_nil]
      injection h with h
      simpa using h
    have HR := Lib.hid (hname.trans (by simpa using hall))
    have hneb : (⟨(Lib.trimS s.data.toList letters).toArray⟩ : ByteArray).toList.isEmpty = false := by
      rw [ByteArray.toList_eq]
      cases hl : (⟨(Lib.trimS s.data.toList letters).toArray⟩ : ByteArray).data.toList with
      | nil => exact absurd (by simp at hl; rw [hl]) hne
      | cons _ _ => rfl
    generalize (⟨(Lib.trimS s.data.toList letters).toArray⟩ : ByteArray) = r at *
    have HC := Lib.hid hcon
    clear hname hall hcon hhd
    go_enter Tryd.func24, Tryd.ntmps24
    go_wp2_with fail
    refine HC.out.mono ?_
    rintro e w' ⟨rfl, hbel⟩
    go_wp2_with fail
    go_ret
    exact ⟨by rw [HR.out]; rfl, hbel⟩
end Go.Proofs.YtagdgclfnbiahaaDoor

namespace Go.Proofs.YtagdgclfnbiahaaDoor
open Go.RowKit

theorem c_pName (s : ByteArray) (hs : s.size ≤ 9223372036854775807) : ACall Tryd.prog 24 [.v (.string s)] (.v (.bool (isName s.data.toList))) :=
 acall_exact (us := [_]) (.of Tryd.func24 (by kernel_rfl) rfl) fun w => pName_any s w hs
end Go.Proofs.YtagdgclfnbiahaaDoor

namespace Go.Proofs.YtagdgclfnbiahaaDoor
open Go.RowKit
set_option linter.unusedVariables false

/-! Types. -/
namespace TySBA
end TySBA
open TyXA TyXB TySBA

set_option linter.unusedSimpArgs false
/-- k bytes of a number, the least significant first. -/
def putB (n : Int) : Nat → List UInt8
  | 0 => []
  | k + 1 => UInt8.ofNat (n % 256).toNat :: putB (n / 256) k
def getB : List UInt8 → Nat
  | [] => 0
  | c :: l => c.toNat + 256 * getB l
theorem putB_len : ∀ (k : Nat) (n : Int), (putB n k).length = k
  | 0, _ => rfl
  | k + 1, n => by show (putB (n / 256) k).length + 1 = k + 1; rw [putB_len k]
theorem get_put : ∀ (k : Nat) (n : Int), ((getB (putB n k) : Nat) : Int) = n % (256 ^ k : Nat)
  | 0, n => by show (0 : Int) = n % 1; omega
  | k + 1, n => by
    have ih := get_put k (n / 256)
    show (((UInt8.ofNat (n % 256).toNat).toNat + 256 * getB (putB (n / 256) k) : Nat) : Int) = _
    have h1 : (UInt8.ofNat (n % 256).toNat).toNat = (n % 256).toNat := by
      show (n % 256).toNat % 256 = _
      omega
    have h2 : ((256 ^ (k + 1) : Nat) : Int) = 256 * ((256 ^ k : Nat) : Int) := by rw [Nat.pow_succ, Nat.mul_comm]; simp
    have h3 : n % (256 * ((256 ^ k : Nat) : Int)) = n % 256 + 256 * (n / 256 % ((256 ^ k : Nat) : Int)) := by
      have hp : (0 : Int) < ((256 ^ k : Nat) : Int) := by have := Nat.pow_pos (n := k) (show 0 < 256 by decide); omega
      generalize ((256 ^ k : Nat) : Int) = P at *
      have e1 := Int.emod_add_mul_ediv n 256
      have e2 := Int.emod_add_mul_ediv (n / 256) P
      have b1 := Int.emod_nonneg n (show (256 : Int) ≠ 0 by decide)
      have b2 := Int.emod_lt_of_pos n (show (0 : Int) < 256 by decide)
      have b3 := Int.emod_nonneg (n / 256) (show P ≠ 0 by omega)
      have b4 := Int.emod_lt_of_pos (n / 256) hp
      have e3 : n = (n % 256 + 256 * (n / 256 % P)) + (256 * P) * (n / 256 / P) := by
        rw [Int.mul_assoc]
        generalize P * (n / 256 / P) = X at *
        omega
      conv => lhs; rw [e3]
      rw [Int.add_mul_emod_self_left, Int.emod_eq_of_lt (by omega) (by omega)]
    rw [h2, h3, ← ih]
    omega
/-- A number of so few bits comes back. -/
theorem get_back {n : Int} {k : Nat} (h0 : 0 ≤ n) (h : n < (256 ^ k : Nat)) : ((getB (putB n k) : Nat) : Int) = n := by
  rw [get_put, Int.emod_eq_of_lt h0 h]
/-- So does a sample of 24 bits. -/
theorem smp_back {n : Int} (h : -8388608 ≤ n ∧ n ≤ 8388607) : (if (8388608 : Int) ≤ ((getB (putB n 3) : Nat) : Int) then ((getB (putB n 3) : Nat) : Int) - 16777216 else ((getB (putB n 3) : Nat) : Int)) = n := by
  rw [get_put]
  show (if (8388608 : Int) ≤ n % 16777216 then n % 16777216 - 16777216 else n % 16777216) = n
  split <;> omega
/-- A chunk. -/
structure Chk where
  name : ByteArray
  data : List UInt8
def Chk.ds (c : Chk) : List D := [.v (.string c.name), .sl (c.data.map u8D)]
def padB (l : List UInt8) : List UInt8 := if l.length % 2 = 0 then [] else [0]
def chkB (c : Chk) : List UInt8 := c.name.data.toList ++ putB c.data.length 4 ++ c.data ++ padB c.data
def packB (l : List Chk) : List UInt8 := l.flatMap chkB
theorem packB_append (l r : List Chk) : packB (l ++ r) = packB l ++ packB r := by simp [packB]
theorem padB_len (l : List UInt8) : (padB l).length = l.length % 2 := by unfold padB; split <;> simp <;> omega
theorem chkB_len {c : Chk} (h : c.name.size = 4) : (chkB c).length = 8 + c.data.length + c.data.length % 2 := by
  unfold chkB
  rw [List.length_append, List.length_append, List.length_append, putB_len, padB_len, show c.name.data.toList.length = 4 from h]
/-- A byte that the name of a chunk may have. -/
def cnB (b : UInt8) : Bool := (decide (97 ≤ b.toNat) && decide (b.toNat ≤ 122)) || (decide (65 ≤ b.toNat) && decide (b.toNat ≤ 90)) || (decide (48 ≤ b.toNat) && decide (b.toNat ≤ 57)) || decide (b.toNat = 32)
def cnOk (s : ByteArray) : Bool := decide (s.size = 4) && s.data.toList.all cnB
/-- A note. -/
structure Nt where
  name : ByteArray
  text : ByteArray
def Nt.ds (n : Nt) : List D := [.v (.string n.name), .v (.string n.text)]
def badC (c : UInt8) : Bool := (decide (c.toNat < 32) && decide (c.toNat ≠ 10)) || decide (126 < c.toNat)
def ntF (n : Nt) : Int := if isName n.name.data.toList = false then 5 else if n.text.data.toList.any badC then 3 else if 200 < n.text.size then 2 else 0
def ntsF (l : List Nt) (k : Nat) : Int := if h : k < l.length then (if ntF l[k] ≠ 0 then ntF l[k] else if l[k].name.data ∈ (l.take k).map (·.name.data) then 7 else 0) else 0
def formS : ByteArray := ⟨#[102, 111, 114, 109]⟩
def noteS : ByteArray := ⟨#[110, 111, 116, 101]⟩
def dataS : ByteArray := ⟨#[100, 97, 116, 97]⟩
def formC (s : Snd) : Chk := ⟨formS, putB s.rate 4 ++ putB s.tracks.length 2 ++ putB 24 2 ++ putB s.len 4⟩
def noteC (n : Nt) : Chk := ⟨noteS, n.name.data.toList ++ [0] ++ n.text.data.toList⟩
def rowD (s : Snd) (i : Nat) : List UInt8 := s.tracks.flatMap fun t => putB (t.getD i 0) 3
def datD (s : Snd) (k : Nat) : List UInt8 := (List.range k).flatMap (rowD s)
def dataC (s : Snd) : Chk := ⟨dataS, datD s s.len⟩
def chksOf (s : Snd) (l : List Nt) : List Chk := [formC s] ++ l.map noteC ++ [dataC s]
def bytesV (s : Snd) (l : List Nt) : List UInt8 × Int :=
  if sndF s ≠ 0 then ([], sndF s) else if 50 < l.length then ([], 2) else if fst (ntsF l) l.length ≠ 0 then ([], fst (ntsF l) l.length) else (packB (chksOf s l), 0)
structure NtsOk (l : List Nt) : Prop where
  len : l.length ≤ 50
  nm : ∀ n ∈ l, isName n.name.data.toList = true
  tx : ∀ n ∈ l, n.text.data.toList.any badC = false
  ts : ∀ n ∈ l, n.text.size ≤ 200
  two : ∀ k (h : k < l.length), l[k].name.data ∉ (l.take k).map (·.name.data)
theorem bytes_ok {s : Snd} {l : List Nt} (h : (bytesV s l).2 = 0) : SndOk s ∧ NtsOk l ∧ bytesV s l = (packB (chksOf s l), 0) := by
  unfold bytesV at h ⊢
  split at h
  · rename_i h1; exact absurd h h1
  rename_i h1
  rw [if_neg h1]
  split at h
  · exact absurd h (by decide)
  rename_i h2
  rw [if_neg h2]
  split at h
  · rename_i h3; exact absurd h h3
  rename_i h3
  rw [if_neg h3]
  have hk := fst_all _ (Decidable.not_not.1 h3)
  have key : ∀ k (hk : k < l.length), ntF l[k] = 0 ∧ l[k].name.data ∉ (l.take k).map (·.name.data) := fun k hk' => by
    have h4 := hk k hk'
    unfold ntsF at h4
    rw [dif_pos hk'] at h4
    split at h4
    · rename_i h5; exact absurd h4 h5
    rename_i h5
    split at h4
    · exact absurd h4 (by decide)
    rename_i h6
    exact ⟨Decidable.not_not.1 h5, h6⟩
  have one : ∀ n ∈ l, isName n.name.data.toList = true ∧ n.text.data.toList.any badC = false ∧ n.text.size ≤ 200 := fun n hn => by
    obtain ⟨k, hk', rfl⟩ := List.mem_iff_getElem.1 hn
    have h4 := (key k hk').1
    unfold ntF at h4
    split at h4
    · exact absurd h4 (by decide)
    rename_i h5
    split at h4
    · exact absurd h4 (by decide)
    rename_i h6
    split at h4
    · exact absurd h4 (by decide)
    rename_i h7
    exact ⟨by simpa using h5, by simpa using h6, by omega⟩
  exact ⟨sndOk (Decidable.not_not.1 h1), ⟨by omega, fun n hn => (one n hn).1, fun n hn => (one n hn).2.1, fun n hn => (one n hn).2.2, fun k hk' => (key k hk').2⟩, rfl⟩
theorem bytes_no {s : Snd} {l : List Nt} (h : (bytesV s l).2 ≠ 0) : (bytesV s l).1 = [] := by
  unfold bytesV at h ⊢
  split
  · rfl
  split
  · rfl
  split
  · rfl
  rename_i h1 h2 h3
  rw [if_neg h1, if_neg h2, if_neg h3] at h
  exact absurd rfl h

end Go.Proofs.YtagdgclfnbiahaaDoor

namespace Go.Proofs.YtagdgclfnbiahaaDoor
open Go.RowKit
set_option linter.unusedVariables false

/-! Types. -/
namespace TySBB
theorem cv_5_3 : convB Tryd.prog 5 3 .i64 = true := by kernel_rfl
theorem et_28 : ElemTy Tryd.prog 28 5 1 1 (.int .u8 0) := ⟨by kernel_rfl, by kernel_rfl, by kernel_rfl, by decide⟩
theorem fo_54_0 : fieldOff Tryd.prog 54 0 = some 0 := by kernel_rfl
theorem fo_54_1 : fieldOff Tryd.prog 54 1 = some 1 := by kernel_rfl
theorem sc_5 : Scal Tryd.prog 5 := .of (by kernel_rfl)
theorem sc_9 : Scal Tryd.prog 9 := .of (by kernel_rfl)
theorem st_9 : Tryd.prog.underlying 9 = some .string := by kernel_rfl
end TySBB
open TyXA TyXB TySBA TySBB

set_option linter.unusedSimpArgs false
theorem getB_lt : ∀ l : List UInt8, getB l < 256 ^ l.length
  | [] => by decide
  | c :: l => by
    have := getB_lt l
    have := c.toNat_lt
    show c.toNat + 256 * getB l < 256 ^ (l.length + 1)
    rw [Nat.pow_succ]
    omega
theorem getB_drop {l : List UInt8} {k : Nat} (h : k < l.length) : getB (l.drop (l.length - (k + 1))) = l[l.length - 1 - k].toNat + 256 * getB (l.drop (l.length - k)) := by
  rw [List.drop_eq_getElem_cons (by omega : l.length - (k + 1) < l.length)]
  show l[l.length - (k + 1)].toNat + 256 * getB (l.drop (l.length - (k + 1) + 1)) = _
  have e : l.length - (k + 1) + 1 = l.length - k := by omega
  have e2 : l[l.length - (k + 1)] = l[l.length - 1 - k] := by congr 1; omega
  rw [e, e2]
theorem or_byte {n : Nat} {c : UInt8} (h : n < 16777216) : bits .or .i64 (IntKind.i64.wrap ((n : Int) * 2 ^ (8 : Int).toNat)) (c.toNat : Int) = ((c.toNat + 256 * n : Nat) : Int) := by
  have hc := c.toNat_lt
  have h1 : IntKind.i64.wrap ((n : Int) * 2 ^ (8 : Int).toNat) = ((n * 256 : Nat) : Int) := by
    rw [show (2 : Int) ^ (8 : Int).toNat = 256 from rfl, w64 (by omega) (by omega)]; omega
  rw [h1]
  have h2 : bits .or .i64 ((n * 256 : Nat) : Int) (c.toNat : Int) = IntKind.i64.wrap (((BitVec.ofInt 64 ((n * 256 : Nat) : Int) ||| BitVec.ofInt 64 (c.toNat : Int)).toNat : Nat) : Int) := rfl
  have h3 : (BitVec.ofInt 64 ((n * 256 : Nat) : Int) ||| BitVec.ofInt 64 (c.toNat : Int)).toNat = c.toNat + 256 * n := by
    rw [BitVec.toNat_or, BitVec.ofInt_natCast, BitVec.ofInt_natCast, BitVec.toNat_ofNat, BitVec.toNat_ofNat, Nat.mod_eq_of_lt (by omega), Nat.mod_eq_of_lt (by omega)]
    have := Nat.shiftLeft_add_eq_or_of_lt (show c.toNat < 2 ^ 8 by omega) n
    rw [Nat.shiftLeft_eq] at this
    rw [show n * 256 = n * 2 ^ 8 from rfl, ← this]
    omega
  rw [h2, h3, w64 (by omega) (by omega)]
theorem u8w (c : UInt8) : IntKind.i64.wrap (c.toNat : Int) = (c.toNat : Int) := by have := c.toNat_lt; exact w64 (by omega) (by omega)
theorem byte_at (s : ByteArray) {k : Nat} (h : k < s.size) : ∃ b, s.data.toList[k]? = some b := by
  have h2 : k < s.data.toList.length := by rw [Array.length_toList]; exact h
  exact ⟨_, List.getElem?_eq_getElem h2⟩
/-- Bytes of a string so far. -/
theorem all_step {p : UInt8 → Bool} {s : ByteArray} {k : Nat} {b : UInt8} (hb : s.data.toList[k]? = some b) (h : (s.data.toList.take k).all p = true) (hp : p b = true) : (s.data.toList.take (k + 1)).all p = true := by
  rw [List.take_add_one, hb, List.all_append, h]
  simp [hp]
theorem all_no {p : UInt8 → Bool} {s : ByteArray} {k : Nat} {b : UInt8} (hb : s.data.toList[k]? = some b) (hp : p b = false) : s.data.toList.all p = false := by
  rw [List.all_eq_false]
  exact ⟨b, List.mem_of_getElem? hb, by rw [hp]; simp⟩
theorem all_end {p : UInt8 → Bool} {s : ByteArray} (h : (s.data.toList.take s.size).all p = true) : s.data.toList.all p = true := by
  rwa [List.take_of_length_le (by rw [Array.length_toList]; exact Nat.le_refl _)] at h
theorem any_all {p : UInt8 → Bool} {l : List UInt8} : l.any p = !(l.all fun c => !p c) := by induction l <;> simp_all

set_option maxRecDepth 100000 in
set_option maxHeartbeats 1000000 in
theorem c_get (l : List UInt8) (hl : l.length ≤ 4) : ACall Tryd.prog 68 [.sl (l.map u8D)] (.v (.int .i64 ((getB l : Nat) : Int))) := by
 refine acall_of (n := 21) (ds' := [.v (.int .i64 ((getB l : Nat) : Int))]) Tryd.func68 rfl (by kernel_rfl) rfl [2] rfl rfl ?_
 intro B w0 F0 fr
 refine .sr ?_
 refine .aA (.nil ?_)
 refine .sr ?_
 refine .aA (.nil ?_)
 refine .seq ?_
 refine .sr ?_
 refine .mA ?_
 refine .sA (.lenSl rfl et_28.ht rfl) ?_
 rw [List.length_map]
 refine .sA (.sub64 rfl rfl rfl (by omega) (by omega)) ?_
 refine .aA (.nil ?_)
 refine .block ?_
 refine .loop (G := Nat) (fun k => Env.of [(4, .d (.v (.int .i64 ((l.length : Int) - 1 - (k : Int))))), (3, .d (.v (.int .i64 ((getB (l.drop (l.length - k)) : Nat) : Int)))), (0, .d (.sl (l.map u8D)))]) (fun k => []) (fun k => k ≤ l.length) (fun k => l.length - k) 0 (Nat.zero_le _) (Sub.less ⟨(SLe.i64 (by omega)), (SLe.i64 (by simp [getB])), SLe.refl _, trivial⟩ (fun _ h => h)) ?_
 intro k hk
 refine .seq ?_
 refine .sr ?_
 refine .mA ?_
 refine .sA (.geq rfl rfl rfl) (.nil ?_)
 refine .cond rfl (fun h1 => ?_) (fun h1 => ?_)
 ·replace h1 := of_decide_eq_true h1
  have hlt : k < l.length := by omega
  refine .skip ?_
  refine .seq ?_
  refine .block ?_
  refine .region ?_
  refine .mA ?_
  refine .sA (.shlG rfl rfl rfl (by decide) (by decide)) ?_
  refine .mA ?_
  refine .mA ?_
  refine .sA (.indexAddr rfl et_28 rfl rfl (l.length - 1 - k) (by omega) (at_lst (show l.length - 1 - k < l.length by omega)) rfl) ?_
  refine .sA (.load rfl sc_5 rfl) ?_
  refine .sA (.convInt rfl cv_5_3 rfl) ?_
  rw [u8w]
  refine .sA (.orG rfl rfl rfl) ?_
  rw [or_byte (by have := getB_lt (l.drop (l.length - k)); rw [List.length_drop] at this; exact Nat.lt_of_lt_of_le this (Nat.pow_le_pow_right (by decide) (show l.length - (l.length - k) ≤ 3 by omega))), ← getB_drop hlt]
  refine .aA (.nil ?_)
  refine .region ?_
  refine .mA ?_
  refine .sA (.sub64 rfl rfl rfl (by omega) (by omega)) ?_
  refine .aA (.nil ?_)
  refine ⟨k + 1, (by omega), (by dsimp only; omega), Sub.less ⟨(SLe.i64 (by omega)), (SLe.i64 rfl), SLe.refl _, trivial⟩ (fun _ h => h)⟩
 replace h1 := of_decide_eq_false h1
 obtain rfl : k = l.length := by omega
 refine .exit ?_
 refine .sr ?_
 refine .mA ?_
 refine .aA (.nil ?_)
 refine .ret ?_
 refine ⟨RetD.eq rfl ?_, trivial⟩
 all_goals (rw [Nat.sub_self, List.drop_zero])

set_option maxRecDepth 100000 in
set_option maxHeartbeats 1000000 in
theorem c_cn (s : ByteArray) (hs : s.size ≤ 9223372036854775807) : ACall Tryd.prog 42 [.v (.string s)] (.v (.bool (cnOk s))) := by
 refine acall_of (n := 42) (ds' := [.v (.bool (cnOk s))]) Tryd.func42 rfl (by kernel_rfl) rfl [2] rfl rfl ?_
 intro B w0 F0 fr
 refine .sr ?_
 refine .aA (.nil ?_)
 refine .seq ?_
 refine .sr ?_
 refine .mA ?_
 refine .sA (.lenStr rfl st_9 rfl) ?_
 refine .sA (.neq rfl rfl rfl) (.nil ?_)
 refine .cond rfl (fun h1 => ?_) (fun h1 => ?_)
 ·replace h1 := of_decide_eq_true h1
  rw [show cnOk s = false by unfold cnOk; rw [decide_eq_false (by omega)]; rfl]
  refine .sr ?_
  refine .aA (.nil ?_)
  refine .ret ?_
  refine ⟨RetD.eq rfl ?_, trivial⟩
  all_goals (first | rfl | (rw [show cnOk s = false by unfold cnOk; rw [all_no hb (by simp [cnB]; omega), Bool.and_false]]))
 replace h1 := of_decide_eq_false h1
 have h4 : s.size = 4 := by omega
 refine .skip ?_
 refine .seq ?_
 refine .sr ?_
 refine .mA (.nil ?_)
 refine .block ?_
 refine .loop (G := Nat) (fun k => Env.of [(8, .d (.v (.int .i64 (k : Int)))), (0, .d (.v (.string s)))]) (fun k => []) (fun k => k ≤ s.size ∧ (s.data.toList.take k).all cnB = true) (fun k => s.size - k) 0 ⟨Nat.zero_le _, rfl⟩ (Sub.less ⟨(SLe.of_eq rfl), SLe.refl _, trivial⟩ (fun _ h => h)) ?_
 intro k hk
 refine .sr ?_
 refine .sA (.lss rfl rfl rfl) (.nil ?_)
 refine .seq ?_
 refine .cond rfl (fun h2 => ?_) (fun h2 => ?_)
 ·replace h2 := of_decide_eq_true h2
  have hlt : k < s.size := by omega
  obtain ⟨b, hb⟩ := byte_at s hlt
  refine .skip ?_
  refine .seq ?_
  refine .block ?_
  refine .sr ?_
  refine .mA ?_
  refine .aA (.nil ?_)
  refine .sr ?_
  refine .mA ?_
  refine .mA ?_
  refine .sA (.indexStr rfl st_9 rfl rfl k rfl hb) ?_
  refine .aA (.nil ?_)
  refine .sr ?_
  refine .mA ?_
  refine .sA (.geq rfl rfl rfl) ?_
  refine .mA ?_
  refine .split 16 rfl (fun g3 => ?_) (fun g3 => ?_)
  ·replace g3 := of_decide_eq_true g3
   refine .sG (.moveD rfl rfl) ?_
   refine .sG (.leq rfl rfl rfl) ?_
   refine .sA (.pickT rfl rfl rfl) ?_
   refine .mA ?_
   refine .split 20 rfl (fun g4 => ?_) (fun g4 => ?_)
   ·replace g4 := of_decide_eq_true g4
    refine .pA ?_
    refine .pA ?_
    refine .pA ?_
    refine .pass ⟨23, rfl, .inr ⟨rfl, rfl⟩⟩ rfl rfl ?_
    refine .pass ⟨23, rfl, .inr ⟨rfl, rfl⟩⟩ rfl rfl ?_
    refine .pA ?_
    refine .sA (.pickT rfl rfl rfl) ?_
    refine .mA ?_
    refine .pA ?_
    refine .pA ?_
    refine .pA ?_
    refine .pass ⟨31, rfl, .inr ⟨rfl, rfl⟩⟩ rfl rfl ?_
    refine .pass ⟨31, rfl, .inr ⟨rfl, rfl⟩⟩ rfl rfl ?_
    refine .pA ?_
    refine .sA (.pickT rfl rfl rfl) ?_
    refine .mA ?_
    refine .pA ?_
    refine .pA ?_
    refine .sA (.pickT rfl rfl rfl) ?_
    refine .sA (.not rfl rfl) (.nil ?_)
    refine .cond rfl (fun h => nomatch h) (fun _ => ?_)
    refine .skip ?_
    refine .region ?_
    refine .sA (.add64 rfl rfl rfl (by omega) (by omega)) ?_
    refine .mA (.nil ?_)
    refine ⟨k + 1, ⟨by omega, all_step hb hk.2 (by simp [cnB]; omega)⟩, (by dsimp only; omega), Sub.less ⟨(SLe.of_eq rfl), SLe.refl _, trivial⟩ (fun _ h => h)⟩
   replace g4 := of_decide_eq_false g4
   refine .sG (.moveD rfl rfl) ?_
   refine .sG (.geq rfl rfl rfl) ?_
   refine .sG (.moveD rfl rfl) ?_
   refine .split 23 rfl (fun g5 => ?_) (fun g5 => ?_)
   ·replace g5 := of_decide_eq_true g5
    refine .sG (.moveD rfl rfl) ?_
    refine .sG (.leq rfl rfl rfl) ?_
    refine .sG (.pickT rfl rfl rfl) ?_
    refine .sA (.pickF rfl rfl rfl) ?_
    refine .mA ?_
    refine .split 28 rfl (fun g6 => ?_) (fun g6 => ?_)
    ·replace g6 := of_decide_eq_true g6
     refine .pA ?_
     refine .pA ?_
     refine .pA ?_
     refine .pass ⟨31, rfl, .inr ⟨rfl, rfl⟩⟩ rfl rfl ?_
     refine .pass ⟨31, rfl, .inr ⟨rfl, rfl⟩⟩ rfl rfl ?_
     refine .pA ?_
     refine .sA (.pickT rfl rfl rfl) ?_
     refine .mA ?_
     refine .pA ?_
     refine .pA ?_
     refine .sA (.pickT rfl rfl rfl) ?_
     refine .sA (.not rfl rfl) (.nil ?_)
     refine .cond rfl (fun h => nomatch h) (fun _ => ?_)
     refine .skip ?_
     refine .region ?_
     refine .sA (.add64 rfl rfl rfl (by omega) (by omega)) ?_
     refine .mA (.nil ?_)
     refine ⟨k + 1, ⟨by omega, all_step hb hk.2 (by simp [cnB]; omega)⟩, (by dsimp only; omega), Sub.less ⟨(SLe.of_eq rfl), SLe.refl _, trivial⟩ (fun _ h => h)⟩
    replace g6 := of_decide_eq_false g6
    refine .sG (.moveD rfl rfl) ?_
    refine .sG (.geq rfl rfl rfl) ?_
    refine .sG (.moveD rfl rfl) ?_
    refine .split 31 rfl (fun g7 => ?_) (fun g7 => ?_)
    ·replace g7 := of_decide_eq_true g7
     refine .sG (.moveD rfl rfl) ?_
     refine .sG (.leq rfl rfl rfl) ?_
     refine .sG (.pickT rfl rfl rfl) ?_
     refine .sA (.pickF rfl rfl rfl) ?_
     refine .mA ?_
     refine .split 36 rfl (fun g8 => ?_) (fun g8 => ?_)
     ·replace g8 := of_decide_eq_true g8
      refine .pA ?_
      refine .pA ?_
      refine .sA (.pickT rfl rfl rfl) ?_
      refine .sA (.not rfl rfl) (.nil ?_)
      refine .cond rfl (fun h => nomatch h) (fun _ => ?_)
      refine .skip ?_
      refine .region ?_
      refine .sA (.add64 rfl rfl rfl (by omega) (by omega)) ?_
      refine .mA (.nil ?_)
      refine ⟨k + 1, ⟨by omega, all_step hb hk.2 (by simp [cnB]; omega)⟩, (by dsimp only; omega), Sub.less ⟨(SLe.of_eq rfl), SLe.refl _, trivial⟩ (fun _ h => h)⟩
     replace g8 := of_decide_eq_false g8
     refine .sG (.moveD rfl rfl) ?_
     refine .sG (.eql rfl rfl rfl) ?_
     refine .sA (.pickF rfl rfl rfl) ?_
     refine .sA (.not rfl rfl) (.nil ?_)
     refine .cond rfl (fun h9 => ?_) (fun h9 => ?_)
     ·replace h9 := bnot_t h9; replace h9 := of_decide_eq_false h9
      refine .sr ?_
      refine .aA (.nil ?_)
      refine .ret ?_
      refine ⟨RetD.eq rfl ?_, trivial⟩
      all_goals (first | rfl | (rw [show cnOk s = false by unfold cnOk; rw [all_no hb (by simp [cnB]; omega), Bool.and_false]]))
     replace h9 := bnot_f h9; replace h9 := of_decide_eq_true h9
     refine .skip ?_
     refine .region ?_
     refine .sA (.add64 rfl rfl rfl (by omega) (by omega)) ?_
     refine .mA (.nil ?_)
     refine ⟨k + 1, ⟨by omega, all_step hb hk.2 (by simp [cnB]; omega)⟩, (by dsimp only; omega), Sub.less ⟨(SLe.of_eq rfl), SLe.refl _, trivial⟩ (fun _ h => h)⟩
    replace g7 := of_decide_eq_false g7
    refine .pA ?_
    refine .pA ?_
    refine .sG (.pickF rfl rfl rfl) ?_
    refine .sA (.pickF rfl rfl rfl) ?_
    refine .mA ?_
    refine .sG (.moveD rfl rfl) ?_
    refine .sG (.eql rfl rfl rfl) ?_
    refine .sA (.pickF rfl rfl rfl) ?_
    refine .sA (.not rfl rfl) (.nil ?_)
    refine .cond rfl (fun h10 => ?_) (fun h10 => ?_)
    ·replace h10 := bnot_t h10; replace h10 := of_decide_eq_false h10
     refine .sr ?_
     refine .aA (.nil ?_)
     refine .ret ?_
     refine ⟨RetD.eq rfl ?_, trivial⟩
     all_goals (first | rfl | (rw [show cnOk s = false by unfold cnOk; rw [all_no hb (by simp [cnB]; omega), Bool.and_false]]))
    replace h10 := bnot_f h10; replace h10 := of_decide_eq_true h10
    refine .skip ?_
    refine .region ?_
    refine .sA (.add64 rfl rfl rfl (by omega) (by omega)) ?_
    refine .mA (.nil ?_)
    refine ⟨k + 1, ⟨by omega, all_step hb hk.2 (by simp [cnB]; omega)⟩, (by dsimp only; omega), Sub.less ⟨(SLe.of_eq rfl), SLe.refl _, trivial⟩ (fun _ h => h)⟩
   replace g5 := of_decide_eq_false g5
   refine .pA ?_
   refine .pA ?_
   refine .sG (.pickF rfl rfl rfl) ?_
   refine .sA (.pickF rfl rfl rfl) ?_
   refine .mA ?_
   refine .sG (.moveD rfl rfl) ?_
   refine .sG (.geq rfl rfl rfl) ?_
   refine .sG (.moveD rfl rfl) ?_
   refine .split 31 rfl (fun g11 => ?_) (fun g11 => ?_)
   ·replace g11 := of_decide_eq_true g11
    refine .sG (.moveD rfl rfl) ?_
    refine .sG (.leq rfl rfl rfl) ?_
    refine .sG (.pickT rfl rfl rfl) ?_
    refine .sA (.pickF rfl rfl rfl) ?_
    refine .mA ?_
    refine .split 36 rfl (fun g12 => ?_) (fun g12 => ?_)
    ·replace g12 := of_decide_eq_true g12
     refine .pA ?_
     refine .pA ?_
     refine .sA (.pickT rfl rfl rfl) ?_
     refine .sA (.not rfl rfl) (.nil ?_)
     refine .cond rfl (fun h => nomatch h) (fun _ => ?_)
     refine .skip ?_
     refine .region ?_
     refine .sA (.add64 rfl rfl rfl (by omega) (by omega)) ?_
     refine .mA (.nil ?_)
     refine ⟨k + 1, ⟨by omega, all_step hb hk.2 (by simp [cnB]; omega)⟩, (by dsimp only; omega), Sub.less ⟨(SLe.of_eq rfl), SLe.refl _, trivial⟩ (fun _ h => h)⟩
    replace g12 := of_decide_eq_false g12
    refine .sG (.moveD rfl rfl) ?_
    refine .sG (.eql rfl rfl rfl) ?_
    refine .sA (.pickF rfl rfl rfl) ?_
    refine .sA (.not rfl rfl) (.nil ?_)
    refine .cond rfl (fun h13 => ?_) (fun h13 => ?_)
    ·replace h13 := bnot_t h13; replace h13 := of_decide_eq_false h13
     refine .sr ?_
     refine .aA (.nil ?_)
     refine .ret ?_
     refine ⟨RetD.eq rfl ?_, trivial⟩
     all_goals (first | rfl | (rw [show cnOk s = false by unfold cnOk; rw [all_no hb (by simp [cnB]; omega), Bool.and_false]]))
    replace h13 := bnot_f h13; replace h13 := of_decide_eq_true h13
    refine .skip ?_
    refine .region ?_
    refine .sA (.add64 rfl rfl rfl (by omega) (by omega)) ?_
    refine .mA (.nil ?_)
    refine ⟨k + 1, ⟨by omega, all_step hb hk.2 (by simp [cnB]; omega)⟩, (by dsimp only; omega), Sub.less ⟨(SLe.of_eq rfl), SLe.refl _, trivial⟩ (fun _ h => h)⟩
   replace g11 := of_decide_eq_false g11
   refine .pA ?_
   refine .pA ?_
   refine .sG (.pickF rfl rfl rfl) ?_
   refine .sA (.pickF rfl rfl rfl) ?_
   refine .mA ?_
   refine .sG (.moveD rfl rfl) ?_
   refine .sG (.eql rfl rfl rfl) ?_
   refine .sA (.pickF rfl rfl rfl) ?_
   refine .sA (.not rfl rfl) (.nil ?_)
   refine .cond rfl (fun h14 => ?_) (fun h14 => ?_)
   ·replace h14 := bnot_t h14; replace h14 := of_decide_eq_false h14
    refine .sr ?_
    refine .aA (.nil ?_)
    refine .ret ?_
    refine ⟨RetD.eq rfl ?_, trivial⟩
    all_goals (first | rfl | (rw [show cnOk s = false by unfold cnOk; rw [all_no hb (by simp [cnB]; omega), Bool.and_false]]))
   replace h14 := bnot_f h14; replace h14 := of_decide_eq_true h14
   refine .skip ?_
   refine .region ?_
   refine .sA (.add64 rfl rfl rfl (by omega) (by omega)) ?_
   refine .mA (.nil ?_)
   refine ⟨k + 1, ⟨by omega, all_step hb hk.2 (by simp [cnB]; omega)⟩, (by dsimp only; omega), Sub.less ⟨(SLe.of_eq rfl), SLe.refl _, trivial⟩ (fun _ h => h)⟩
  replace g3 := of_decide_eq_false g3
  refine .pA ?_
  refine .pA ?_
  refine .sA (.pickF rfl rfl rfl) ?_
  refine .mA ?_
  refine .sG (.moveD rfl rfl) ?_
  refine .sG (.geq rfl rfl rfl) ?_
  refine .sG (.moveD rfl rfl) ?_
  refine .split 23 rfl (fun g15 => ?_) (fun g15 => ?_)
  ·replace g15 := of_decide_eq_true g15
   refine .sG (.moveD rfl rfl) ?_
   refine .sG (.leq rfl rfl rfl) ?_
   refine .sG (.pickT rfl rfl rfl) ?_
   refine .sA (.pickF rfl rfl rfl) ?_
   refine .mA ?_
   refine .split 28 rfl (fun g16 => ?_) (fun g16 => ?_)
   ·replace g16 := of_decide_eq_true g16
    refine .pA ?_
    refine .pA ?_
    refine .pA ?_
    refine .pass ⟨31, rfl, .inr ⟨rfl, rfl⟩⟩ rfl rfl ?_
    refine .pass ⟨31, rfl, .inr ⟨rfl, rfl⟩⟩ rfl rfl ?_
    refine .pA ?_
    refine .sA (.pickT rfl rfl rfl) ?_
    refine .mA ?_
    refine .pA ?_
    refine .pA ?_
    refine .sA (.pickT rfl rfl rfl) ?_
    refine .sA (.not rfl rfl) (.nil ?_)
    refine .cond rfl (fun h => nomatch h) (fun _ => ?_)
    refine .skip ?_
    refine .region ?_
    refine .sA (.add64 rfl rfl rfl (by omega) (by omega)) ?_
    refine .mA (.nil ?_)
    refine ⟨k + 1, ⟨by omega, all_step hb hk.2 (by simp [cnB]; omega)⟩, (by dsimp only; omega), Sub.less ⟨(SLe.of_eq rfl), SLe.refl _, trivial⟩ (fun _ h => h)⟩
   replace g16 := of_decide_eq_false g16
   refine .sG (.moveD rfl rfl) ?_
   refine .sG (.geq rfl rfl rfl) ?_
   refine .sG (.moveD rfl rfl) ?_
   refine .split 31 rfl (fun g17 => ?_) (fun g17 => ?_)
   ·replace g17 := of_decide_eq_true g17
    refine .sG (.moveD rfl rfl) ?_
    refine .sG (.leq rfl rfl rfl) ?_
    refine .sG (.pickT rfl rfl rfl) ?_
    refine .sA (.pickF rfl rfl rfl) ?_
    refine .mA ?_
    refine .split 36 rfl (fun g18 => ?_) (fun g18 => ?_)
    ·replace g18 := of_decide_eq_true g18
     refine .pA ?_
     refine .pA ?_
     refine .sA (.pickT rfl rfl rfl) ?_
     refine .sA (.not rfl rfl) (.nil ?_)
     refine .cond rfl (fun h => nomatch h) (fun _ => ?_)
     refine .skip ?_
     refine .region ?_
     refine .sA (.add64 rfl rfl rfl (by omega) (by omega)) ?_
     refine .mA (.nil ?_)
     refine ⟨k + 1, ⟨by omega, all_step hb hk.2 (by simp [cnB]; omega)⟩, (by dsimp only; omega), Sub.less ⟨(SLe.of_eq rfl), SLe.refl _, trivial⟩ (fun _ h => h)⟩
    replace g18 := of_decide_eq_false g18
    refine .sG (.moveD rfl rfl) ?_
    refine .sG (.eql rfl rfl rfl) ?_
    refine .sA (.pickF rfl rfl rfl) ?_
    refine .sA (.not rfl rfl) (.nil ?_)
    refine .cond rfl (fun h19 => ?_) (fun h19 => ?_)
    ·replace h19 := bnot_t h19; replace h19 := of_decide_eq_false h19
     refine .sr ?_
     refine .aA (.nil ?_)
     refine .ret ?_
     refine ⟨RetD.eq rfl ?_, trivial⟩
     all_goals (first | rfl | (rw [show cnOk s = false by unfold cnOk; rw [all_no hb (by simp [cnB]; omega), Bool.and_false]]))
    replace h19 := bnot_f h19; replace h19 := of_decide_eq_true h19
    refine .skip ?_
    refine .region ?_
    refine .sA (.add64 rfl rfl rfl (by omega) (by omega)) ?_
    refine .mA (.nil ?_)
    refine ⟨k + 1, ⟨by omega, all_step hb hk.2 (by simp [cnB]; omega)⟩, (by dsimp only; omega), Sub.less ⟨(SLe.of_eq rfl), SLe.refl _, trivial⟩ (fun _ h => h)⟩
   replace g17 := of_decide_eq_false g17
   refine .pA ?_
   refine .pA ?_
   refine .sG (.pickF rfl rfl rfl) ?_
   refine .sA (.pickF rfl rfl rfl) ?_
   refine .mA ?_
   refine .sG (.moveD rfl rfl) ?_
   refine .sG (.eql rfl rfl rfl) ?_
   refine .sA (.pickF rfl rfl rfl) ?_
   refine .sA (.not rfl rfl) (.nil ?_)
   refine .cond rfl (fun h20 => ?_) (fun h20 => ?_)
   ·replace h20 := bnot_t h20; replace h20 := of_decide_eq_false h20
    refine .sr ?_
    refine .aA (.nil ?_)
    refine .ret ?_
    refine ⟨RetD.eq rfl ?_, trivial⟩
    all_goals (first | rfl | (rw [show cnOk s = false by unfold cnOk; rw [all_no hb (by simp [cnB]; omega), Bool.and_false]]))
   replace h20 := bnot_f h20; replace h20 := of_decide_eq_true h20
   refine .skip ?_
   refine .region ?_
   refine .sA (.add64 rfl rfl rfl (by omega) (by omega)) ?_
   refine .mA (.nil ?_)
   refine ⟨k + 1, ⟨by omega, all_step hb hk.2 (by simp [cnB]; omega)⟩, (by dsimp only; omega), Sub.less ⟨(SLe.of_eq rfl), SLe.refl _, trivial⟩ (fun _ h => h)⟩
  replace g15 := of_decide_eq_false g15
  refine .pA ?_
  refine .pA ?_
  refine .sG (.pickF rfl rfl rfl) ?_
  refine .sA (.pickF rfl rfl rfl) ?_
  refine .mA ?_
  refine .sG (.moveD rfl rfl) ?_
  refine .sG (.geq rfl rfl rfl) ?_
  refine .sG (.moveD rfl rfl) ?_
  refine .split 31 rfl (fun g21 => ?_) (fun g21 => ?_)
  ·replace g21 := of_decide_eq_true g21
   refine .sG (.moveD rfl rfl) ?_
   refine .sG (.leq rfl rfl rfl) ?_
   refine .sG (.pickT rfl rfl rfl) ?_
   refine .sA (.pickF rfl rfl rfl) ?_
   refine .mA ?_
   refine .split 36 rfl (fun g22 => ?_) (fun g22 => ?_)
   ·replace g22 := of_decide_eq_true g22
    refine .pA ?_
    refine .pA ?_
    refine .sA (.pickT rfl rfl rfl) ?_
    refine .sA (.not rfl rfl) (.nil ?_)
    refine .cond rfl (fun h => nomatch h) (fun _ => ?_)
    refine .skip ?_
    refine .region ?_
    refine .sA (.add64 rfl rfl rfl (by omega) (by omega)) ?_
    refine .mA (.nil ?_)
    refine ⟨k + 1, ⟨by omega, all_step hb hk.2 (by simp [cnB]; omega)⟩, (by dsimp only; omega), Sub.less ⟨(SLe.of_eq rfl), SLe.refl _, trivial⟩ (fun _ h => h)⟩
   replace g22 := of_decide_eq_false g22
   refine .sG (.moveD rfl rfl) ?_
   refine .sG (.eql rfl rfl rfl) ?_
   refine .sA (.pickF rfl rfl rfl) ?_
   refine .sA (.not rfl rfl) (.nil ?_)
   refine .cond rfl (fun h23 => ?_) (fun h23 => ?_)
   ·replace h23 := bnot_t h23; replace h23 := of_decide_eq_false h23
    refine .sr ?_
    refine .aA (.nil ?_)
    refine .ret ?_
    refine ⟨RetD.eq rfl ?_, trivial⟩
    all_goals (first | rfl | (rw [show cnOk s = false by unfold cnOk; rw [all_no hb (by simp [cnB]; omega), Bool.and_false]]))
   replace h23 := bnot_f h23; replace h23 := of_decide_eq_true h23
   refine .skip ?_
   refine .region ?_
   refine .sA (.add64 rfl rfl rfl (by omega) (by omega)) ?_
   refine .mA (.nil ?_)
   refine ⟨k + 1, ⟨by omega, all_step hb hk.2 (by simp [cnB]; omega)⟩, (by dsimp only; omega), Sub.less ⟨(SLe.of_eq rfl), SLe.refl _, trivial⟩ (fun _ h => h)⟩
  replace g21 := of_decide_eq_false g21
  refine .pA ?_
  refine .pA ?_
  refine .sG (.pickF rfl rfl rfl) ?_
  refine .sA (.pickF rfl rfl rfl) ?_
  refine .mA ?_
  refine .sG (.moveD rfl rfl) ?_
  refine .sG (.eql rfl rfl rfl) ?_
  refine .sA (.pickF rfl rfl rfl) ?_
  refine .sA (.not rfl rfl) (.nil ?_)
  refine .cond rfl (fun h24 => ?_) (fun h24 => ?_)
  ·replace h24 := bnot_t h24; replace h24 := of_decide_eq_false h24
   refine .sr ?_
   refine .aA (.nil ?_)
   refine .ret ?_
   refine ⟨RetD.eq rfl ?_, trivial⟩
   all_goals (first | rfl | (rw [show cnOk s = false by unfold cnOk; rw [all_no hb (by simp [cnB]; omega), Bool.and_false]]))
  replace h24 := bnot_f h24; replace h24 := of_decide_eq_true h24
  refine .skip ?_
  refine .region ?_
  refine .sA (.add64 rfl rfl rfl (by omega) (by omega)) ?_
  refine .mA (.nil ?_)
  refine ⟨k + 1, ⟨by omega, all_step hb hk.2 (by simp [cnB]; omega)⟩, (by dsimp only; omega), Sub.less ⟨(SLe.of_eq rfl), SLe.refl _, trivial⟩ (fun _ h => h)⟩
 replace h2 := of_decide_eq_false h2
 obtain rfl : k = s.size := by omega
 rw [show cnOk s = true by unfold cnOk; rw [decide_eq_true h4, all_end hk.2]; rfl]
 refine .exit ?_
 refine .sr ?_
 refine .aA (.nil ?_)
 refine .ret ?_
 refine ⟨RetD.eq rfl ?_, trivial⟩
 all_goals (first | rfl | (rw [show cnOk s = false by unfold cnOk; rw [all_no hb (by simp [cnB]; omega), Bool.and_false]]))

set_option maxRecDepth 100000 in
set_option maxHeartbeats 1000000 in
theorem c_chkN (n : Nt) (hn : n.name.size ≤ 9223372036854775807) (ht : n.text.size ≤ 9223372036854775807) : ACall Tryd.prog 20 [.agg n.ds] (.v (.int .i64 (ntF n))) := by
 refine acall_of (n := 34) (ds' := [.v (.int .i64 (ntF n))]) Tryd.func20 rfl (by kernel_rfl) rfl [2] rfl rfl ?_
 intro B w0 F0 fr
 refine .sr ?_
 refine .sA (.box rfl rfl rfl) ?_
 refine .aA (.nil ?_)
 refine .seq ?_
 refine .sr ?_
 refine .sA (.fieldAddr rfl fo_54_0 rfl) ?_
 refine .sA (.load rfl sc_9 rfl) ?_
 refine .sA (.call rfl (.cons (.rfl' rfl) .nil) (c_pName n.name hn)) ?_
 refine .sA (.not rfl rfl) (.nil ?_)
 refine .cond rfl (fun h1 => ?_) (fun h1 => ?_)
 ·replace h1 := bnot_t h1
  have n0 : isName n.name.data.toList = false := h1
  rw [show ntF n = 5 from if_pos n0]
  refine .sr ?_
  refine .aA (.nil ?_)
  refine .ret ?_
  refine ⟨RetD.eq rfl ?_, trivial⟩
  all_goals (first | rfl | (rw [show ntF n = 3 from (if_neg n0).trans (if_pos (by rw [any_all, all_no hb (by simp [badC]; omega)]; rfl))]))
 replace h1 := bnot_f h1
 have n0 : ¬ isName n.name.data.toList = false := by rw [h1]; decide
 refine .skip ?_
 refine .seq ?_
 refine .sr ?_
 refine .sA (.fieldAddr rfl fo_54_1 rfl) ?_
 refine .sA (.load rfl sc_9 rfl) ?_
 refine .sA (.lenStr rfl st_9 rfl) ?_
 refine .mA (.nil ?_)
 refine .block ?_
 refine .loop (G := Nat) (fun k => Env.of [(12, .d (.v (.int .i64 (k : Int)))), (11, .d (.v (.int .i64 (n.text.size : Int)))), (1, .d (.fp n.ds))]) (fun k => []) (fun k => k ≤ n.text.size ∧ (n.text.data.toList.take k).all (fun c => !badC c) = true) (fun k => n.text.size - k) 0 ⟨Nat.zero_le _, rfl⟩ (Sub.less ⟨(SLe.of_eq rfl), SLe.refl _, SLe.refl _, trivial⟩ (fun _ h => h)) ?_
 intro k hk
 refine .sr ?_
 refine .sA (.lss rfl rfl rfl) (.nil ?_)
 refine .seq ?_
 refine .cond rfl (fun h2 => ?_) (fun h2 => ?_)
 ·replace h2 := of_decide_eq_true h2
  have hlt : k < n.text.size := by omega
  obtain ⟨b, hb⟩ := byte_at n.text hlt
  refine .skip ?_
  refine .seq ?_
  refine .block ?_
  refine .sr ?_
  refine .mA ?_
  refine .aA (.nil ?_)
  refine .sr ?_
  refine .sA (.fieldAddr rfl fo_54_1 rfl) ?_
  refine .sA (.load rfl sc_9 rfl) ?_
  refine .mA ?_
  refine .sA (.indexStr rfl st_9 rfl rfl k rfl hb) ?_
  refine .aA (.nil ?_)
  refine .sr ?_
  refine .mA ?_
  refine .sA (.lss rfl rfl rfl) ?_
  refine .mA ?_
  refine .split 21 rfl (fun g3 => ?_) (fun g3 => ?_)
  ·replace g3 := of_decide_eq_true g3
   refine .sG (.moveD rfl rfl) ?_
   refine .sG (.neq rfl rfl rfl) ?_
   refine .sA (.pickT rfl rfl rfl) ?_
   refine .mA ?_
   refine .split 25 rfl (fun g4 => ?_) (fun g4 => ?_)
   ·replace g4 := of_decide_eq_true g4
    refine .pA ?_
    refine .pA ?_
    refine .sA (.pickT rfl rfl rfl) (.nil ?_)
    refine .cond rfl (fun _ => ?_) (fun h => nomatch h)
    refine .sr ?_
    refine .aA (.nil ?_)
    refine .ret ?_
    refine ⟨RetD.eq rfl ?_, trivial⟩
    all_goals (first | rfl | (rw [show ntF n = 3 from (if_neg n0).trans (if_pos (by rw [any_all, all_no hb (by simp [badC]; omega)]; rfl))]))
   replace g4 := of_decide_eq_false g4
   refine .sG (.moveD rfl rfl) ?_
   refine .sG (.gtr rfl rfl rfl) ?_
   refine .sA (.pickF rfl rfl rfl) (.nil ?_)
   refine .cond rfl (fun h5 => ?_) (fun h5 => ?_)
   ·replace h5 := of_decide_eq_true h5
    refine .sr ?_
    refine .aA (.nil ?_)
    refine .ret ?_
    refine ⟨RetD.eq rfl ?_, trivial⟩
    all_goals (first | rfl | (rw [show ntF n = 3 from (if_neg n0).trans (if_pos (by rw [any_all, all_no hb (by simp [badC]; omega)]; rfl))]))
   replace h5 := of_decide_eq_false h5
   refine .skip ?_
   refine .region ?_
   refine .sA (.add64 rfl rfl rfl (by omega) (by omega)) ?_
   refine .mA (.nil ?_)
   refine ⟨k + 1, ⟨by omega, all_step hb hk.2 (by simp [badC]; omega)⟩, (by dsimp only; omega), Sub.less ⟨(SLe.of_eq rfl), SLe.refl _, SLe.refl _, trivial⟩ (fun _ h => h)⟩
  replace g3 := of_decide_eq_false g3
  refine .pA ?_
  refine .pA ?_
  refine .sA (.pickF rfl rfl rfl) ?_
  refine .mA ?_
  refine .sG (.moveD rfl rfl) ?_
  refine .sG (.gtr rfl rfl rfl) ?_
  refine .sA (.pickF rfl rfl rfl) (.nil ?_)
  refine .cond rfl (fun h6 => ?_) (fun h6 => ?_)
  ·replace h6 := of_decide_eq_true h6
   refine .sr ?_
   refine .aA (.nil ?_)
   refine .ret ?_
   refine ⟨RetD.eq rfl ?_, trivial⟩
   all_goals (first | rfl | (rw [show ntF n = 3 from (if_neg n0).trans (if_pos (by rw [any_all, all_no hb (by simp [badC]; omega)]; rfl))]))
  replace h6 := of_decide_eq_false h6
  refine .skip ?_
  refine .region ?_
  refine .sA (.add64 rfl rfl rfl (by omega) (by omega)) ?_
  refine .mA (.nil ?_)
  refine ⟨k + 1, ⟨by omega, all_step hb hk.2 (by simp [badC]; omega)⟩, (by dsimp only; omega), Sub.less ⟨(SLe.of_eq rfl), SLe.refl _, SLe.refl _, trivial⟩ (fun _ h => h)⟩
 replace h2 := of_decide_eq_false h2
 obtain rfl : k = n.text.size := by omega
 have hA : n.text.data.toList.any badC = false := by rw [any_all, all_end hk.2]; rfl
 have n1 : ntF n = if 200 < n.text.size then 2 else 0 := (if_neg n0).trans (if_neg (by rw [hA]; decide))
 refine .exit ?_
 refine .seq ?_
 refine .sr ?_
 refine .sA (.fieldAddr rfl fo_54_1 rfl) ?_
 refine .sA (.load rfl sc_9 rfl) ?_
 refine .sA (.lenStr rfl st_9 rfl) ?_
 refine .sA (.gtr rfl rfl rfl) (.nil ?_)
 refine .cond rfl (fun h7 => ?_) (fun h7 => ?_)
 ·replace h7 := of_decide_eq_true h7
  rw [n1, if_pos (by omega)]
  refine .sr ?_
  refine .aA (.nil ?_)
  refine .ret ?_
  refine ⟨RetD.eq rfl ?_, trivial⟩
  all_goals (first | rfl | (rw [show ntF n = 3 from (if_neg n0).trans (if_pos (by rw [any_all, all_no hb (by simp [badC]; omega)]; rfl))]))
 replace h7 := of_decide_eq_false h7
 rw [n1, if_neg (by omega)]
 refine .skip ?_
 refine .sr ?_
 refine .aA (.nil ?_)
 refine .ret ?_
 refine ⟨RetD.eq rfl ?_, trivial⟩
 all_goals (first | rfl | (rw [show ntF n = 3 from (if_neg n0).trans (if_pos (by rw [any_all, all_no hb (by simp [badC]; omega)]; rfl))]))

end Go.Proofs.YtagdgclfnbiahaaDoor

namespace Go.Proofs.YtagdgclfnbiahaaDoor
open Go.RowKit
set_option linter.unusedVariables false

/-- f returns a struct whose parts are as ss', some of them own objects; the object vid is that struct. -/
def XSCall (P : Program) (f : FuncId) (ss : List S) (σ σ' : Obs) (chg : Nat → Bool) (s : S) : Prop := Enters P f ∧
  ∀ (F : Nat → Prop) (ρ : Nat → Value) (B : Nat) (w : World) (vs : List Value), (∀ b, F b → b < w.heap.size) → B ≤ w.heap.size → ObsOk B F ρ w σ → RepSL F ρ w vs ss →
    Calls P f vs.toArray w fun e w' => ∃ v F' ρ', e = .returned v ∧ RepS F' ρ' w' v s ∧ XEnd B F ρ w σ F' ρ' w' σ' chg

theorem args_R {P : Program} {n : Nat} {ss : List S} {σ : Obs} {chg : Nat → Bool} {F : Nat → Prop} {ρ : Nat → Value} {B : Nat} {w : World} {vs : List Value} {m : Nat} (hN : m = n) (hle : ss.length ≤ n) (hF : ∀ b, F b → b < w.heap.size) (hB : B ≤ w.heap.size) (hσ : ObsOk B F ρ w σ) (hv : RepSL F ρ w vs ss) :
    R ⟨P, n, B, w, F, (fun b => w.heap.size ≤ b ∨ ownB σ ρ b), fun i => !(chg i), ρ⟩ (Env.argsS 0 ss) σ { tmps := vs.toArray ++ Array.replicate (m - vs.toArray.size) undef, defers := [] } w := by
  refine ⟨F, ρ, ?_, rfl, hF, fun b hb => hb, fun b hb => .inl hb, Kept.refl _ _, hB, fun t => ?_, hσ, fun b hb => .inl hb, fun p hp g hg => .inr ⟨p, hp, hg⟩, fun i _ => rfl⟩
  · simp [hN, hv.1]; omega
  · by_cases ht : t < ss.length
    · have := Env.argsS_get ss 0 t ht
      rw [Nat.zero_add] at this
      rw [this]
      have hvt : t < vs.length := by rw [hv.1]; exact ht
      have : (vs.toArray ++ Array.replicate (m - vs.toArray.size) undef).getD t undef = vs[t] := by
        rw [Array.getD_eq_getD_getElem?, Array.getElem?_append_left (by simpa using hvt)]
        simp [hvt]
      rw [this]
      exact hv.2 t hvt ht
    · have := Env.argsS_out ss 0 t (by omega)
      rw [Nat.zero_add] at this
      rw [this]
      exact .d (.any _)
/-- What a result in a cell comes to. -/
theorem res_cell {cx : Cx} {F : Nat → Prop} {ρ : Nat → Value} {e : Env} {σ : Obs} {a : Act} {w : World} {fn : Func} {b t size cid : Nat} {ss : List S} (h : R0 cx F ρ e σ a w) (hr : fn.results = #[.cell b t]) (hT : AggT cx.P t size) (he : e b = .ptr cid 0) (hm : (cid, Ob.cells ss) ∈ σ) (hl : ss.length = size) :
    ∃ cs : List Value, (results fn a.tmps).run cx.P w = .ok (.agg cs.toArray) w ∧ cs.length = ss.length ∧ ∀ j (h1 : j < cs.length) (h2 : j < ss.length), cs[j].oneCell' = true ∧ RepS F ρ w cs[j] ss[j] := by
  obtain ⟨g, ty, cs, k1, k2, k3, k4, k5, k6⟩ := h.obs.ok _ hm
  dsimp only at k1
  have hv : a.tmps.getD b undef = .pointer (some ⟨g, 0, none⟩) := by
    have := h.env b
    rw [he] at this
    exact ptr_at this (by rw [k1]; rfl)
  have hcells : (loadCells ⟨g, 0, none⟩ cs.length).run cx.P w = .ok cs.toArray w := run_loadCells_list w _ cs (fun j v hj => by
    rw [addr_add, cell_of_row w g (0 + j) cs.toArray ty (0, 0) k4]
    simpa using hj)
  have hn : cs.length = size := by omega
  rw [hn] at hcells
  refine ⟨cs, ?_, k5, k6⟩
  have h1 : (List.mapM (resSem a.tmps) [ResultVar.cell b t] : Sem (List Value)).run cx.P w = .ok [.agg cs.toArray] w := by
    rw [List.mapM_cons, Sem.run_bind]
    have h2 : (resSem a.tmps (.cell b t)).run cx.P w = .ok (.agg cs.toArray) w := by
      simp only [resSem, hv, asAddr, Sem.run_bind, Sem.run_pure, Result.andThen_ok, loadVar, hT.agg w, if_true, hT.size w, hcells]
    rw [h2]
    rfl
  unfold results
  rw [hr, Sem.run_bind]
  have h2 : (Array.mapM (fun r => match r with | ResultVar.tmp t => pure (a.tmps.getD t undef) | ResultVar.cell b t => do loadVar t (← asAddr (a.tmps.getD b undef))) [ResultVar.cell b t].toArray : Sem (Array Value)).run cx.P w = .ok [Value.agg cs.toArray].toArray w := by
    rw [List.mapM_toArray, Sem.run_map]
    have h4 : (List.mapM (fun r => match r with | ResultVar.tmp t => pure (a.tmps.getD t undef) | ResultVar.cell b t => do loadVar t (← asAddr (a.tmps.getD b undef))) [ResultVar.cell b t] : Sem (List Value)).run cx.P w = .ok [.agg cs.toArray] w := h1
    rw [h4]
    rfl
  exact (congrArg (fun r => Result.andThen r _) h2).trans rfl
def RetXC (b : Nat) (ds : List D) (σ' : Obs) : Post := fun ex e σ => match ex with
  | .ret => (∃ cid, e b = .ptr cid 0 ∧ (cid, Ob.cells (ds.map S.d)) ∈ σ) ∧ AllIn σ σ'
  | .normal => (∃ cid, e b = .ptr cid 0 ∧ (cid, Ob.cells (ds.map S.d)) ∈ σ) ∧ AllIn σ σ'
  | _ => False
def RetXV (b vid : Nat) (ss' : List S) (σr : Obs) : Post := fun ex e σ => match ex with
  | .ret => (∃ cid ssr, e b = .ptr cid 0 ∧ (cid, Ob.cells ssr) ∈ σ ∧ ssr.map (S.kill vid) = ss' ∧ Obs.fresh vid σr = true ∧ Obs.kill vid σr = σr) ∧ AllIn σ σr
  | .normal => (∃ cid ssr, e b = .ptr cid 0 ∧ (cid, Ob.cells ssr) ∈ σ ∧ ssr.map (S.kill vid) = ss' ∧ Obs.fresh vid σr = true ∧ Obs.kill vid σr = σr) ∧ AllIn σ σr
  | _ => False
/-- Its result: a struct with own parts, out of a cell. -/
theorem xval_of {P : Program} {f : FuncId} {fn : Func} {c : Code} {n b t size vid : Nat} {ss ss' : List S} {σ σr : Obs} {chg : Nat → Bool} (hf : P.funcs[f]? = some fn) (hb : fn.body = some c) (hn : (fn.name == "runtime.NumGoroutine") = false) (hN : fn.ntmps = n)
    (hr : fn.results = #[.cell b t]) (hT : AggT P t size) (hl : ss'.length = size) (hle' : Nat.ble ss.length n = true) (hvid : chg vid = true)
    (h : ∀ B w0 F0 fr ρ0, AWP ⟨P, n, B, w0, F0, fr, fun i => !(chg i), ρ0⟩ c (Env.argsS 0 ss) σ (RetXV b vid ss' σr)) : XSCall P f ss σ ((vid, .val ss') :: σr) chg (.own vid) := by
  have hle : ss.length ≤ n := Nat.le_of_ble_eq_true hle'
  refine ⟨Enters.of hf hn (by rw [hb]; rfl), fun F ρ B w vs hF hB hσ hv => ?_⟩
  refine calls_of_wp hf hb ?_
  refine wp_mono (h _ _ _ _ _ _ _ (args_R hN hle hF hB hσ hv)) ?_
  rintro ex a w' ⟨e', σe, hq, F', ρ', hr'⟩
  have hends : (∃ cid ssr, e' b = .ptr cid 0 ∧ (cid, Ob.cells ssr) ∈ σe ∧ ssr.map (S.kill vid) = ss' ∧ Obs.fresh vid σr = true ∧ Obs.kill vid σr = σr) ∧ AllIn σe σr →
      bodyPost P fn (fun e w' => ∃ v F' ρ', e = .returned v ∧ RepS F' ρ' w' v (.own vid) ∧ XEnd B F ρ w σ F' ρ' w' ((vid, .val ss') :: σr) chg) .ret a w' := by
    rintro ⟨⟨cid, ssr, h1, h2, h3, h4, h5⟩, hin⟩
    have hin := hin.mem
    have hls : ssr.length = size := by rw [← hl, ← h3]; simp
    obtain ⟨cs, k1, k2, k3⟩ := res_cell hr' hr hT h1 h2 hls
    have hT := hr'.turn (ρ' := fun j => if j = vid then .agg cs.toArray else ρ' j) (id := vid) (ob := .val ss') (row := none) (w' := w') (F' := F') (fun j hj => by simp [hj])
      ⟨rfl, rfl, rfl, Nat.le_refl _, fun _ _ _ => rfl⟩ (by unfold Cx.free; dsimp only; rw [hvid]; rfl) (fun g hg => by simp at hg) (fun b hb => hb) (fun b hb => .inl hb) hr'.lt
      ⟨cs, by simp, by rw [← h3]; simpa using k2, fun j hj hj' => by
        subst h3
        rw [List.getElem_map]
        have hj2 : j < ssr.length := by simpa using hj'
        exact ⟨(k3 j hj hj2).1, (k3 j hj hj2).2.kill vid (fun i hi => by simp [hi])⟩⟩ (fun g hg => by simp [blk] at hg) ((vid, .val ss') :: σr) (fun p hp => by
        rcases List.mem_cons.1 hp with rfl | hp
        · exact .inl rfl
        · rw [← h5] at hp
          obtain ⟨q, hq, rfl⟩ := Obs.mem_kill hp
          exact .inr ⟨q, hin q hq, Obs.fresh_spec h4 q hq, rfl⟩)
    refine ⟨hr'.defers, _, k1, _, F', _, rfl, ?_, hT.base, hT.new, hT.lt, hT.below, hT.obs, hT.kown, fun i hi => hT.fixed i (by show (!(chg i)) = true; rw [hi]; rfl)⟩
    have := RepS.own (F := F') (ρ := fun j => if j = vid then Value.agg cs.toArray else ρ' j) (w := w') vid
    simpa using this
  cases ex with
  | ret => exact hends hq
  | normal => exact hends hq
  | exit id => exact hq.elim
  | goto l => exact hq.elim
  | panic c => exact hq.elim
  | outgrown => exact hq.elim
section
variable {cx : Cx} {ops : Array Oper} {o : Oper} {rest : List Oper} {e : Env} {σ : Obs} {Q : Post}
theorem AOps.callXS {f : FuncId} {xs : List Operand} {ts : Array TypeId} {ss : List S} {σc σ' : Obs} {chg : Nat → Bool} {s : S} (hg : o.guard = none) (hd : DstOk cx.N o)
    (ho : o.op = .call { callee := .value (.func f), args := xs.toArray, argTypes := ts }) (ha : ArgsS e xs ss) (h : XSCall cx.P f ss σc σ' chg s) (hin : AllIn σ σc)
    (h1 : Obs.allIds (fun i => !(chg i)) (Obs.dels σc σ) = true) (h2 : Obs.allIds (fun i => Obs.allIds (fun j => !(Nat.beq i j)) (Obs.dels σc σ)) σ' = true) (h3 : ∀ i, chg i = true → cx.fixp i = false)
    (k : AOps cx ops rest ((e.killP chg).put o.dst s) (Obs.join σ' (Obs.killP chg (Obs.dels σc σ))) Q) : AOps cx ops (o :: rest) e σ Q := by
  intro a w ⟨F, ρ, hr⟩
  have h4 := h.2 F ρ cx.B w _ hr.lt hr.hB (hr.obs.sub hin.mem) (ArgsS.rep hr.env ha)
  have h5 := h.1 (xs.map a.eval).toArray w
  have hx : (execOp a.eval o).run cx.P w = .ok (.enter f (xs.map a.eval).toArray) w := by
    unfold execOp
    simp only [ho, resolve, Deferred.ofValue, Act.eval, invoke, Sem.run_bind, Sem.run_pure, Result.andThen_ok]
    simpa using h5
  refine wpList_plain hg fun K hK => ?_
  unfold Oper.wp
  rw [hx]
  refine h4.mono fun _ w' ⟨v, F', ρ', he, hv, hE⟩ => ?_
  subst he
  exact hK _ _ (k _ _ ⟨F', ρ', (hr.after hin.mem hE h1 h2 h3).put (Ext.refl hE.lt) hv hd⟩)
end
end Go.Proofs.YtagdgclfnbiahaaDoor

namespace Go.Proofs.YtagdgclfnbiahaaDoor
open Go.RowKit
set_option linter.unusedVariables false

def RetXT (t : Nat) (s : S) (σ' : Obs) : Post := fun ex e σ => match ex with
  | .ret => SLe (e t) s ∧ AllIn σ σ'
  | .normal => SLe (e t) s ∧ AllIn σ σ'
  | _ => False
/-- f returns what lies in a slot, be it an own object. -/
theorem xtmp_of {P : Program} {f : FuncId} {fn : Func} {c : Code} {n t : Nat} {ss : List S} {s : S} {σ σr : Obs} {chg : Nat → Bool} (hf : P.funcs[f]? = some fn) (hb : fn.body = some c) (hn : (fn.name == "runtime.NumGoroutine") = false) (hN : fn.ntmps = n)
    (hr : fn.results = #[.tmp t]) (hle' : Nat.ble ss.length n = true)
    (h : ∀ B w0 F0 fr ρ0, AWP ⟨P, n, B, w0, F0, fr, fun i => !(chg i), ρ0⟩ c (Env.argsS 0 ss) σ (RetXT t s σr)) : XSCall P f ss σ σr chg s := by
  have hle : ss.length ≤ n := Nat.le_of_ble_eq_true hle'
  refine ⟨Enters.of hf hn (by rw [hb]; rfl), fun F ρ B w vs hF hB hσ hv => ?_⟩
  refine calls_of_wp hf hb ?_
  refine wp_mono (h _ _ _ _ _ _ _ (args_R hN hle hF hB hσ hv)) ?_
  rintro ex a w' ⟨e', σe, hq, F', ρ', hr'⟩
  have hends : SLe (e' t) s ∧ AllIn σe σr → bodyPost P fn (fun e w' => ∃ v F' ρ', e = .returned v ∧ RepS F' ρ' w' v s ∧ XEnd B F ρ w σ F' ρ' w' σr chg) .ret a w' := by
    rintro ⟨h1, hin⟩
    have hin := hin.mem
    have hres : (results fn a.tmps).run P w' = .ok (a.tmps.getD t undef) w' := by
      unfold results
      rw [hr, Sem.run_bind]
      have h2 : (Array.mapM (fun r => match r with | ResultVar.tmp t => pure (a.tmps.getD t undef) | ResultVar.cell b t => do loadVar t (← asAddr (a.tmps.getD b undef))) [ResultVar.tmp t].toArray : Sem (Array Value)).run P w' = .ok [a.tmps.getD t undef].toArray w' := by
        rw [List.mapM_toArray, Sem.run_map]
        rfl
      exact (congrArg (fun r => Result.andThen r _) h2).trans rfl
    exact ⟨hr'.defers, _, hres, _, F', ρ', rfl, h1 _ _ _ _ (hr'.env t), hr'.base, hr'.new, hr'.lt, hr'.below, hr'.obs.sub hin, fun p hp => hr'.kown p (hin p hp), fun i hi => hr'.fixed i (by show (!(chg i)) = true; rw [hi]; rfl)⟩
  cases ex with
  | ret => exact hends hq
  | normal => exact hends hq
  | exit id => exact hq.elim
  | goto l => exact hq.elim
  | panic c => exact hq.elim
  | outgrown => exact hq.elim
end Go.Proofs.YtagdgclfnbiahaaDoor

namespace Go.Proofs.YtagdgclfnbiahaaDoor
open Go.RowKit
set_option linter.unusedVariables false

/-! Types. -/
namespace TySBC
theorem cv_3_5 : convB Tryd.prog 3 5 .u8 = true := by kernel_rfl
end TySBC
open TyXA TyXB TySBA TySBB TySBC

set_option linter.unusedSimpArgs false
theorem putB_snoc : ∀ (k : Nat) (n : Int), putB n (k + 1) = putB n k ++ [UInt8.ofNat (n / (256 ^ k : Nat) % 256).toNat]
  | 0, n => by show [UInt8.ofNat (n % 256).toNat] = [] ++ [UInt8.ofNat (n / 1 % 256).toNat]; rw [Int.ediv_one]; rfl
  | k + 1, n => by
    have ih := putB_snoc k (n / 256)
    show UInt8.ofNat (n % 256).toNat :: putB (n / 256) (k + 1) = UInt8.ofNat (n % 256).toNat :: putB (n / 256) k ++ _
    rw [ih, List.cons_append, Int.ediv_ediv_of_nonneg (by decide), Nat.pow_succ, Nat.mul_comm]
    simp
theorem u8B (z : Int) : IntKind.u8.wrap z = ((UInt8.ofNat (z % 256).toNat).toNat : Int) := by
  rw [IntKind.wrap_u8]
  show z % 256 = (((z % 256).toNat % 256 : Nat) : Int)
  omega
theorem pow_next (n : Int) (k : Nat) : n / ((256 ^ k : Nat) : Int) / 2 ^ (8 : Int).toNat = n / ((256 ^ (k + 1) : Nat) : Int) := by
  rw [Int.ediv_ediv_of_nonneg (Int.natCast_nonneg _), Nat.pow_succ]
  simp

set_option maxRecDepth 100000 in
set_option maxHeartbeats 1000000 in
theorem c_put (els : List UInt8) (n : Int) (m : Nat) (hm : m ≤ 8) (hl : els.length ≤ 1000000000) : XSCall Tryd.prog 22 [.own 901, .d (.v (.int .i64 n)), .d (.v (.int .i64 (m : Int)))] [(901, .row 5 1 (els.map u8D))] [(901, .row 5 1 ((els ++ putB n m).map u8D))] (fun i => Nat.beq i 901) (.own 901) := by
 refine xtmp_of (n := 19) (t := 6) Tryd.func22 rfl (by kernel_rfl) rfl rfl rfl ?_
 intro B w0 F0 fr ρ0
 refine .sr ?_
 refine .aA (.nil ?_)
 refine .seq ?_
 refine .sr ?_
 refine .mA ?_
 refine .mA (.nil ?_)
 refine .block ?_
 refine .loop (G := Nat) (fun k => Env.of [(8, .d (.v (.int .i64 (k : Int)))), (7, .d (.v (.int .i64 (m : Int)))), (0, .own 901), (1, .d (.v (.int .i64 (n / ((256 ^ k : Nat) : Int)))))]) (fun k => [(901, .row 5 1 ((els ++ putB n k).map u8D))]) (fun k => k ≤ m) (fun k => m - k) 0 (Nat.zero_le _) (Sub.less ⟨(SLe.of_eq rfl), SLe.refl _, SLe.refl _, (SLe.i64 (by simp)), trivial⟩ (by simp only [putB, List.append_nil]; exact fun _ h => h)) ?_
 intro k hk
 refine .sr ?_
 refine .sA (.lss rfl rfl rfl) (.nil ?_)
 refine .seq ?_
 refine .cond rfl (fun h1 => ?_) (fun h1 => ?_)
 ·replace h1 := of_decide_eq_true h1
  have hlt : k < m := by omega
  refine .skip ?_
  refine .seq ?_
  refine .block ?_
  refine .sr ?_
  refine .sA (.moveO rfl rfl) ?_
  refine .mA ?_
  refine .sA (.convInt rfl cv_3_5 rfl) ?_
  rw [u8B]
  refine .sA (.buildSlice rfl et_28 (.cons rfl rfl rfl .nil) rfl (by decide)) ?_
  -- append 14
  refine .append rfl rfl rfl rfl et_28 rfl (.head _) rfl (by simp [D.parts]) (by simp [putB_len]; omega) (by simp [putB_len]; omega) ?_
  refine .sA (.assignO rfl rfl) (.nil ?_)
  refine .region ?_
  refine .mA ?_
  refine .sA (.shrG rfl rfl rfl (by decide) (by decide)) ?_
  rw [pow_next]
  refine .aA (.nil ?_)
  refine .region ?_
  refine .sA (.add64 rfl rfl rfl (by omega) (by omega)) ?_
  refine .mA (.nil ?_)
  refine ⟨k + 1, (by omega), (by dsimp only; omega), Sub.less ⟨(SLe.of_eq rfl), SLe.refl _, SLe.refl _, SLe.refl _, trivial⟩ (by dsimp only; rw [putB_snoc, ← List.append_assoc, List.map_append (l₁ := els ++ putB n k)]; exact fun _ h => h)⟩
 replace h1 := of_decide_eq_false h1
 obtain rfl : k = m := by omega
 refine .exit ?_
 refine .sr ?_
 refine .sA (.moveO rfl rfl) ?_
 refine .sA (.assignO rfl rfl) (.nil ?_)
 refine .ret ?_
 exact ⟨SLe.of_eq rfl, .head _, trivial⟩

set_option maxRecDepth 100000 in
set_option maxHeartbeats 1000000 in
theorem c_put0 (n : Int) (m : Nat) (hm : m ≤ 8) : OCall Tryd.prog 22 [.v (.slice none 0 0), .v (.int .i64 n), .v (.int .i64 (m : Int))] 5 1 ((putB n m).map u8D) := by
 refine ocall_of (n := 19) Tryd.func22 rfl (by kernel_rfl) rfl 6 rfl rfl ?_
 intro B w0 F0 fr
 refine .sr ?_
 refine .aA (.nil ?_)
 refine .seq ?_
 refine .sr ?_
 refine .mA ?_
 refine .mA (.nil ?_)
 refine .block ?_
 refine .adopt 0 901 5 1 rfl rfl ?_
 refine .loop (G := Nat) (fun k => Env.of [(8, .d (.v (.int .i64 (k : Int)))), (7, .d (.v (.int .i64 (m : Int)))), (0, .own 901), (1, .d (.v (.int .i64 (n / ((256 ^ k : Nat) : Int)))))]) (fun k => [(901, .row 5 1 ((putB n k).map u8D))]) (fun k => k ≤ m) (fun k => m - k) 0 (Nat.zero_le _) (Sub.less ⟨(SLe.of_eq rfl), SLe.refl _, SLe.refl _, (SLe.i64 (by simp)), trivial⟩ (fun _ h => h)) ?_
 intro k hk
 refine .sr ?_
 refine .sA (.lss rfl rfl rfl) (.nil ?_)
 refine .seq ?_
 refine .cond rfl (fun h1 => ?_) (fun h1 => ?_)
 ·replace h1 := of_decide_eq_true h1
  have hlt : k < m := by omega
  refine .skip ?_
  refine .seq ?_
  refine .block ?_
  refine .sr ?_
  refine .sA (.moveO rfl rfl) ?_
  refine .mA ?_
  refine .sA (.convInt rfl cv_3_5 rfl) ?_
  rw [u8B]
  refine .sA (.buildSlice rfl et_28 (.cons rfl rfl rfl .nil) rfl (by decide)) ?_
  -- append 14
  refine .append rfl rfl rfl rfl et_28 rfl (.head _) rfl (by simp [D.parts]) (by simp [putB_len]; omega) (by simp [putB_len]; omega) ?_
  refine .sA (.assignO rfl rfl) (.nil ?_)
  refine .region ?_
  refine .mA ?_
  refine .sA (.shrG rfl rfl rfl (by decide) (by decide)) ?_
  rw [pow_next]
  refine .aA (.nil ?_)
  refine .region ?_
  refine .sA (.add64 rfl rfl rfl (by omega) (by omega)) ?_
  refine .mA (.nil ?_)
  refine ⟨k + 1, (by omega), (by dsimp only; omega), Sub.less ⟨(SLe.of_eq rfl), SLe.refl _, SLe.refl _, SLe.refl _, trivial⟩ (by dsimp only; rw [putB_snoc, List.map_append]; exact fun _ h => h)⟩
 replace h1 := of_decide_eq_false h1
 obtain rfl : k = m := by omega
 refine .exit ?_
 refine .sr ?_
 refine .sA (.moveO rfl rfl) ?_
 refine .sA (.assignO rfl rfl) (.nil ?_)
 refine .ret ?_
 refine ⟨901, rfl, mem_row_eq (.head _) ?_⟩
 rfl

end Go.Proofs.YtagdgclfnbiahaaDoor
