/- Walks and laws over abstract values, merged by tools/merge.py. No statement of the seat. -/
import Derived.Laws.Cover3
import Derived.Shelf.SlSortCmp.WholeK
import Derived.Lib.RowBridge
import Derived.StillTailTactics
import Derived.Test.YtekenfknoakboaaGreatDoorXO4

namespace Go.Proofs.YtekenfknoakboaaGreatDoor
open Go.RowKit
set_option linter.unusedVariables false

/-! Types. -/
namespace TyU4
theorem et_45 : ElemTy Tryz.prog 45 3 1 8 (.int .i64 0) := ⟨by kernel_rfl, by kernel_rfl, by kernel_rfl, by decide⟩
theorem sc_3 : Scal Tryz.prog 3 := .of (by kernel_rfl)
theorem sc_45 : Scal Tryz.prog 45 := .of (by kernel_rfl)
theorem sc_9 : Scal Tryz.prog 9 := .of (by kernel_rfl)
end TyU4
open TyU4


open Go.Lib
/-- The number of the first one; -1: there is none. -/
def idxBy {α : Type} (p : α → Bool) (l : List α) : Int := if l.any p then (l.findIdx p : Int) else -1
def grpFB (g : Grp) (b : ByteArray) : Int := if nameOk g.name = false then 5 else if sle g.name b = true then 8 else grpF0 g
def dealFB (c : Ctr) (d : Deal) (b : ByteArray) : Int := if nameOk d.name = false then 5 else if sle d.name b = true then 8 else dealF0 c d
def okGrp (g : Grp) : Prop := g.name.size ≤ 9223372036854775807 ∧ ∀ s ∈ g.cut, s.party.size ≤ 9223372036854775807


end Go.Proofs.YtekenfknoakboaaGreatDoor


namespace Go.Proofs.YtekenfknoakboaaGreatDoor
open Go.RowKit
set_option linter.unusedVariables false

/-- f, called with what reads as ds, returns a new row whose elements read as els, and that nobody else has. -/
def OCall (P : Program) (f : FuncId) (ds : List D) (ee size : Nat) (els : List (List D)) : Prop := Enters P f ∧
  ∀ (F : Nat → Prop) (w : World) (vs : List Value), (∀ b, F b → b < w.heap.size) → RepL F w vs ds →
    Calls P f vs.toArray w fun r w' => ∃ v F', r = .returned v ∧ Ext F w F' w' ∧ ObOk w.heap.size F' (fun _ => v) w' 0 (.row ee size els)

section
variable {cx : Cx} {ops : Array Oper} {o : Oper} {rest : List Oper} {e : Env} {σ : Obs} {Q : Post}
end

theorem AOps.le {cx : Cx} {ops : Array Oper} {rest : List Oper} {e : Env} {σ : Obs} {Q : Post} (t : Nat) {s' : S} {s : S} (ht : e t = s) (h : SLe s s') (k : AOps cx ops rest (e.put (some t) s') σ Q) : AOps cx ops rest e σ Q := fun a w ⟨F, ρ, hr⟩ =>
  k a w ⟨F, ρ, hr.size, hr.defers, hr.lt, hr.base, hr.new, hr.below, hr.hB, fun u => by
    by_cases hu : u = t
    · subst hu
      rw [Env.put_same]
      have := hr.env u
      rw [ht] at this
      exact h F ρ w _ this
    · rw [Env.put_other _ _ _ _ hu]
      exact hr.env u, hr.obs, hr.up, hr.kown, hr.fixed⟩

section
variable {P : Program} {B : Nat} {ops : Array Oper} {o : Oper} {e : Env} {σ : Obs}
end

/-! ## Contracts -/
def RetO (t ee size : Nat) (els : List (List D)) : Post := fun ex e σ => match ex with
  | .ret => ∃ id, e t = .own id ∧ (id, Ob.row ee size els) ∈ σ
  | .normal => ∃ id, e t = .own id ∧ (id, Ob.row ee size els) ∈ σ
  | _ => False
end Go.Proofs.YtekenfknoakboaaGreatDoor


namespace Go.Proofs.YtekenfknoakboaaGreatDoor
open Go.RowKit
set_option linter.unusedVariables false

/-- One operation, from worlds that keep what was there at the beginning. -/
def AOpK (cx : Cx) (ops : Array Oper) (o : Oper) (e : Env) (σ : Obs) (s : S) : Prop :=
  ∀ (F : Nat → Prop) (ρ : Nat → Value) (w : World) (a : Act), Kept cx.fr cx.w0 w → (∀ b, F b → b < w.heap.size) → (∀ t, t ∈ o.looksAt ops → RepS F ρ w (a.tmps.getD t undef) (e t)) → ObsOk cx.B F ρ w σ →
    o.wp cx.P a w (fun a' w' => ∃ v F', a' = a.put o.dst v ∧ RepS F' ρ w' v s ∧ Ext F w F' w') (fun _ _ _ => False)
def KRun (cx : Cx) (ops : Array Oper) (σ : Obs) : List Oper → Env → (Env → Prop) → Prop
  | [], e, Qe => Qe e
  | o :: l, e, Qe => DstOk cx.N o ∧ ((∃ s, GW ops o e true ∧ AOpK cx ops o e σ s ∧ KRun cx ops σ l (e.put o.dst s) Qe) ∨ (GW ops o e false ∧ KRun cx ops σ l (e.put o.dst (.d (.v undef))) Qe))

def KStep (cx : Cx) (ops : Array Oper) (σ : Obs) (o : Oper) (e : Env) (s : S) : Prop :=
  (GW ops o e true ∧ AOpK cx ops o e σ s) ∨ (GW ops o e false ∧ s = .d (.v undef))

def anyK (cx : Cx) (ops : Array Oper) (σ : Obs) (Qe : Env → Prop) : Nat → Array Bool → Env → Prop
  | 0, listed, e => Region.ready .any ops listed = [] ∧ Qe e
  | fuel + 1, listed, e => (Region.ready .any ops listed = [] → Qe e) ∧
      ∀ i ∈ Region.ready .any ops listed, ∀ o, ops[i]? = some o → ∃ s, KStep cx ops σ o e s ∧ anyK cx ops σ Qe fuel (listed.setIfInBounds i true) (e.put o.dst s)

end Go.Proofs.YtekenfknoakboaaGreatDoor


namespace Go.Proofs.YtekenfknoakboaaGreatDoor
open Go.RowKit
set_option linter.unusedVariables false

/-- What it is as data, while the own objects rest. -/
inductive Snap (σ : Obs) : S → D → Prop where
  | d (x : D) : Snap σ (.d x) x
  | any (s : S) : Snap σ s .any
  | le {s : S} {d d' : D} (h : Snap σ s d) (k : Le d d') : Snap σ s d'
  | row {id e size : Nat} {els : List (List D)} (h : (id, Ob.row e size els) ∈ σ) : Snap σ (.own id) (.sl els)
  | rowS {id e size : Nat} {els : List (List S)} {ds : List (List D)} (h : (id, Ob.rowS e size els) ∈ σ) (hl : els.length = ds.length) (hs : ∀ i (h1 : i < els.length) (h2 : i < ds.length), els[i].length = ds[i].length)
      (hr : ∀ i (h1 : i < els.length) (h2 : i < ds.length) j (h3 : j < els[i].length) (h4 : j < ds[i].length), Snap σ els[i][j] ds[i][j]) : Snap σ (.own id) (.sl ds)
  | val {id : Nat} {ss : List S} {ds : List D} (h : (id, Ob.val ss) ∈ σ) (hl : ss.length = ds.length) (hr : ∀ i (h1 : i < ss.length) (h2 : i < ds.length), Snap σ ss[i] ds[i]) : Snap σ (.own id) (.agg ds)
  | ptr {id off : Nat} {ss : List S} {ds : List D} (h : (id, Ob.cells ss) ∈ σ) (hl : off + ds.length ≤ ss.length) (hr : ∀ i (h1 : off + i < ss.length) (h2 : i < ds.length), Snap σ ss[off + i] ds[i]) : Snap σ (.ptr id off) (.fp ds)
  | ptrS {id e size k : Nat} {els : List (List S)} {ds : List D} (h : (id, Ob.rowS e size els) ∈ σ) (hk : k < els.length) (hl : els[k].length = ds.length) (hr : ∀ j (h1 : j < els[k].length) (h2 : j < ds.length), Snap σ els[k][j] ds[j]) : Snap σ (.ptr id (k * size)) (.fp ds)
  | clo {f : FuncId} {caps : List Cap} {ds : List D} (hl : caps.length = ds.length) (hr : ∀ i (h1 : i < caps.length) (h2 : i < ds.length), Snap σ caps[i].toS ds[i]) : Snap σ (.clo f caps) (.clo (.func f) ds)

/-- Data that holds no memory. -/
inductive Plain : D → Prop where
  | v (x : Value) : Plain (.v x)
  | any : Plain .any
  | agg (ds : List D) (h : ∀ d ∈ ds, Plain d) : Plain (.agg ds)
  | tup (ds : List D) (h : ∀ d ∈ ds, Plain d) : Plain (.tup ds)
def SnapArgs (e : Env) (σ : Obs) : List Operand → List D → Prop
  | [], [] => True
  | x :: xs, d :: ds => Snap σ (e.ev x) d ∧ SnapArgs e σ xs ds
  | _, _ => False
section
variable {P : Program} {B : Nat} {ops : Array Oper} {o : Oper} {e : Env} {σ : Obs}
/-- What of it is data. -/
def S.weak : S → D
  | .d x => x
  | _ => .any
def Ob.weak : Ob → Ob
  | .rowS e size els => .row e size (els.map fun ss => ss.map S.weak)
  | o => o
def Obs.weak : Obs → Obs
  | [] => []
  | p :: l => (p.1, p.2.weak) :: Obs.weak l
end
section
variable {cx : Cx} {ops : Array Oper} {o : Oper} {rest : List Oper} {e : Env} {σ : Obs} {Q : Post}
/-- Own objects, told anew. -/
theorem AWP.obs {c : Code} {σ' : Obs} (h : ∀ p ∈ σ', p ∈ σ) (k : AWP cx c e σ' Q) : AWP cx c e σ Q := fun a w ⟨F, ρ, hr⟩ => k a w ⟨F, ρ, hr.size, hr.defers, hr.lt, hr.base, hr.new, hr.below, hr.hB, hr.env, hr.obs.sub h, hr.up, fun p hp => hr.kown p (h p hp), hr.fixed⟩
theorem AllIn.of {σ : Obs} : ∀ {l : Obs}, (∀ p ∈ l, p ∈ σ) → AllIn σ l
  | [], _ => trivial
  | x :: l, h => ⟨h x (by simp), AllIn.of fun p hp => h p (List.mem_cons_of_mem _ hp)⟩
end
end Go.Proofs.YtekenfknoakboaaGreatDoor


namespace Go.Proofs.YtekenfknoakboaaGreatDoor
open Go.RowKit
set_option linter.unusedVariables false

/-- One cell's worth. -/
def OneS (σ : Obs) (s : S) : Prop := (∃ x : D, s = .d x ∧ x.one = true ∧ x.parts = [x]) ∨ ∃ i ee size els, s = .own i ∧ (i, Ob.row ee size els) ∈ σ
theorem OneS.d {σ : Obs} {x : D} (h1 : x.one = true) (h2 : x.parts = [x]) : OneS σ (.d x) := .inl ⟨x, rfl, h1, h2⟩
theorem OneS.own {σ : Obs} {i ee size : Nat} {els : List (List D)} (h : (i, Ob.row ee size els) ∈ σ) : OneS σ (.own i) := .inr ⟨i, ee, size, els, rfl, h⟩
theorem OneS.cell {σ : Obs} {s : S} (h : OneS σ s) {B : Nat} {F : Nat → Prop} {ρ : Nat → Value} {w : World} (hσ : ObsOk B F ρ w σ) {u : Value} (hu : RepS F ρ w u s) : ∃ c, u.cells = #[c] ∧ c.oneCell' = true ∧ RepS F ρ w c s := by
  rcases h with ⟨x, rfl, h1, h2⟩ | ⟨i, ee, size, els, rfl, hm⟩
  · obtain ⟨h3, h4⟩ := parts_rep (repS_d hu) h1
    have hl := h3.1
    rw [h2] at hl
    have hs : u.cells.size = 1 := by simpa using hl
    obtain ⟨c, hc⟩ : ∃ c, u.cells = #[c] := by
      have : u.cells.toList.length = 1 := by simpa using hl
      obtain ⟨c, hc⟩ := List.length_eq_one_iff.1 this
      exact ⟨c, by rw [← Array.toList_inj]; exact hc⟩
    refine ⟨c, hc, h4 c (by rw [hc]; simp), .d ?_⟩
    have := h3.2 0 (by rw [hc]; simp) (by rw [h2]; simp)
    simp only [hc, h2] at this
    simpa using this
  · obtain ⟨xs, hown, _⟩ := hσ.ok _ hm
    dsimp only at hown
    have hv : u = ρ i := by cases hu; rfl
    refine ⟨ρ i, ?_, ?_, .own i⟩
    · rw [hv]; rcases hown.2 with ⟨h3, _⟩ | ⟨g', cap, cur, h3, _⟩ <;> rw [h3] <;> rfl
    · rcases hown.2 with ⟨h3, _⟩ | ⟨g', cap, cur, h3, _⟩ <;> rw [h3] <;> rfl
section
variable {cx : Cx} {ops : Array Oper} {o : Oper} {rest : List Oper} {e : Env} {σ : Obs} {Q : Post}
end
/-! A family of own rows: the numbers b + k, b + k + 1, .. -/
def fam (e size : Nat) : Nat → List (List (List D)) → Obs
  | _, [] => []
  | b, x :: l => (b, .row e size x) :: fam e size (b + 1) l
end Go.Proofs.YtekenfknoakboaaGreatDoor


namespace Go.Proofs.YtekenfknoakboaaGreatDoor
open Go.RowKit Go.Shelf Go.Lib Go.Sort
set_option linter.unusedVariables false
set_option linter.unusedSimpArgs false

theorem cell_top {W : World} {b i e : Nat} {cs : Array Value} {v : Value} (hb : b = W.heap.size) (hv : cs[i]? = some v) : (W.alloc (.cells cs e)).cell? ⟨b, i, none⟩ = some v := by
  subst hb
  have h : (W.alloc (.cells cs e)).heap[W.heap.size]? = some (.cells cs e (0, 0)) := heap_alloc_new W _
  rw [cell_of_row _ _ i cs e (0, 0) h, hv]
theorem rngK {α : Type} [Inhabited α] (n : Nat) (i : Nat) (h : i < n) : (Array.range n)[i]! = i := by
  rw [getElem!_pos (Array.range n) i (by simpa using h)]; simp
/-! ## A row of structs, by its elements' numbers -/
section
variable {α : Type} [Inhabited α]
theorem put_blockG (enc : α → List Value) (k : Nat) {w : World} {g n e : Nat} {cur : Array Value} {os : Array Obj} {zs : Array α} (h : w.heap[g]? = some (.cells cur e (0, 0))) :
    (Sort.grow (putRowK enc k (Sort.ahead w n) g 0 zs) os).heap[g]? = some (.cells (Sort.putCells id 0 (flatK enc k zs) cur) e (0, 0)) ∧
    (∀ j, j < w.heap.size → j ≠ g → (Sort.grow (putRowK enc k (Sort.ahead w n) g 0 zs) os).heap[j]? = w.heap[j]?) := by
  unfold putRowK
  have hg : g < w.heap.size := (Array.getElem?_eq_some_iff.1 h).1
  have hs : ∀ j, j < w.heap.size → (Sort.grow (Sort.putRow id (Sort.ahead w n) g 0 (flatK enc k zs)) os).heap[j]? = (Sort.putRow id (Sort.ahead w n) g 0 (flatK enc k zs)).heap[j]? := fun j hj => Sort.heap_grow_old _ _ (by rw [Sort.size_putRow]; exact hj)
  refine ⟨?_, fun j hj hne => ?_⟩
  · rw [hs g hg]
    show (w.heap.modify g _)[g]? = _
    rw [Array.getElem?_modify, if_pos rfl, h]
    rfl
  · rw [hs j hj]
    show (w.heap.modify g _)[j]? = _
    rw [Array.getElem?_modify, if_neg (Ne.symm hne)]
theorem put_cellsG (enc : α → List Value) (k : Nat) (zs : Array α) (cur : Array Value) (hl : zs.size * k ≤ cur.size) (i c : Nat) (hi : i < zs.size) (hc : c < k) : (Sort.putCells id 0 (flatK enc k zs) cur)[i * k + c]? = some ((enc zs[i]!)[c]!) := by
  have hk0 : 0 < k := by omega
  have hb : i * k + c < zs.size * k := by
    have := Nat.mul_le_mul_right k (show i + 1 ≤ zs.size by omega)
    rw [Nat.add_mul, Nat.one_mul] at this
    omega
  unfold Sort.putCells
  rw [Array.getElem?_mapIdx, Array.getElem?_eq_getElem (by omega), Option.map_some, if_pos ⟨Nat.zero_le _, by rw [size_flatK]; omega⟩]
  rw [Nat.sub_zero, get_flatK enc k zs _ hb]
  have e1 : (i * k + c) / k = i := by rw [Nat.mul_comm, Nat.mul_add_div hk0, Nat.div_eq_of_lt hc, Nat.add_zero]
  have e2 : (i * k + c) % k = c := by rw [Nat.mul_comm, Nat.mul_add_mod, Nat.mod_eq_of_lt hc]
  rw [e1, e2]
  rfl
end
theorem repSL_fn {F : Nat → Prop} {ρ : Nat → Value} {w : World} {vs : List Value} {id : Nat} {f : Fn} (h : RepSL F ρ w vs [.own id, .d (.clo f [])]) : vs = [ρ id, .func f #[] #[]] := by
  obtain ⟨v, u, rfl⟩ : ∃ v u, vs = [v, u] := by
    match vs, h.1 with
    | [v, u], _ => exact ⟨v, u, rfl⟩
  have h1 := h.2 0 (by simp) (by simp)
  have h2 := h.2 1 (by simp) (by simp)
  simp only [List.getElem_cons_zero, List.getElem_cons_succ] at h1 h2
  cases h1
  have h3 := repS_d h2
  cases h3 with
  | clo _ cs _ hl _ =>
    have : cs = [] := List.eq_nil_of_length_eq_zero hl
    subst this
    rfl

/-! ## Sorted lists, whatever the order -/
section
variable {α : Type} (cf : α → α → Int)
def sortF (l : List α) : List α := l.mergeSort fun x y => !(ltOf cf y x)
def DistF (l : List α) : Prop := l.Pairwise fun x y => ltOf cf x y = true ∨ ltOf cf y x = true
def RiseF (l : List α) : Prop := l.Pairwise fun x y => ltOf cf x y = true
variable {cf}
theorem sortF_perm (l : List α) : (sortF cf l).Perm l := List.mergeSort_perm l _
theorem sortF_pw (hO : SWO (ltOf cf)) (l : List α) : (sortF cf l).Pairwise fun x y => ltOf cf y x = false := by
  unfold sortF
  have := List.pairwise_mergeSort (le := fun x y => !(ltOf cf y x)) (fun a b c h1 h2 => by
    simp only [Bool.not_eq_true'] at h1 h2 ⊢
    exact hO.ntrans _ _ _ h2 h1) (fun a b => by
    rw [Bool.or_eq_true, Bool.not_eq_true', Bool.not_eq_true']
    cases h : ltOf cf b a with
    | false => exact .inl rfl
    | true => exact .inr (hO.asymmA h)) l
  exact this.imp fun h => by simpa using h
theorem distF_symm {l r : List α} (hp : l.Perm r) (h : DistF cf l) : DistF cf r := (hp.pairwise_iff (fun {a b} h => h.symm)).1 h
theorem riseF_of {l : List α} (hd : DistF cf l) (hs : l.Pairwise fun x y => ltOf cf y x = false) : RiseF cf l := by
  refine (List.Pairwise.and hd hs).imp fun {a b} ⟨h2, h3⟩ => ?_
  rcases h2 with h2 | h2
  · exact h2
  · rw [h3] at h2; cases h2
theorem sortF_rise (hO : SWO (ltOf cf)) {l : List α} (h : DistF cf l) : RiseF cf (sortF cf l) := riseF_of (distF_symm (sortF_perm l).symm h) (sortF_pw hO l)
theorem riseF_uniq (hO : SWO (ltOf cf)) {l r : List α} (h1 : RiseF cf l) (h2 : RiseF cf r) (hm : ∀ x, x ∈ l ↔ x ∈ r) : l = r := by
  have nd : ∀ {l : List α}, RiseF cf l → l.Nodup := fun h => h.imp fun {a b} hab e => by rw [e, hO.irrefl] at hab; cases hab
  have hp : l.Perm r := (List.perm_ext_iff_of_nodup (nd h1) (nd h2)).2 hm
  refine List.Perm.eq_of_pairwise (le := fun x y => ltOf cf x y = true) (fun a b _ _ h3 h4 => ?_) h1 h2 hp
  have := hO.asymmA h3
  rw [h4] at this
  cases this
theorem sortF_uniq (hO : SWO (ltOf cf)) {l r : List α} (hd : DistF cf l) (hp : r.Perm l) (hs : r.Pairwise fun x y => ltOf cf y x = false) : r = sortF cf l := by
  refine riseF_uniq hO (riseF_of (distF_symm hp.symm hd) hs) (sortF_rise hO hd) fun x => ?_
  rw [hp.mem_iff, (sortF_perm l).mem_iff]
end
/-- slices.SortFunc at structs of k cells, in whatever world. -/
structure SortT (P : Program) (sf k : Nat) : Prop where
  ent : ∀ args w, (callFunc sf args).run P w = .ok (.enter sf args) w
  nil : ∀ fv w, Calls P sf #[.slice none 0 0, fv] w fun e w' => e = .returned (.tuple #[]) ∧ w' = w
  all : ∀ (enc : Nat → List Value), (∀ x, (enc x).length = k) → (∀ x, ∀ v ∈ enc x, v.oneCell' = true) → ∀ (cf : Nat → Nat → Int), SWO (ltOf cf) → ∀ (g blk cap : Nat) (d : Array Nat) (w : World), (∀ args w, (callFunc g args).run P w = .ok (.enter g args) w) → CmpLays P g #[] enc k cf blk 0 d.size w → HoldsK enc k w blk 0 d → blk < w.heap.size → d.size < 4611686018427387904 →
    Calls P sf #[.slice (some ⟨blk, 0, none⟩) d.size cap, .func (.func g) #[] #[]] w fun e w' => e = .returned (.tuple #[]) ∧ ∃ d' n os, PermIn 0 d.size d d' ∧ SortedIn (ltOf cf) 0 d.size d' ∧ w' = sortWorldK enc k w blk 0 n d' os
section
variable {α : Type} [Inhabited α] (dz : α → List D) (k : Nat) (cf : α → α → Int)
/-- The elements' order, by a closure that looks at their cells. -/
def CmpT (P : Program) (g k : Nat) (dz : α → List D) (cf : α → α → Int) : Prop := ∀ (F : Nat → Prop) (w0 W : World) (x y : α) (xs ys : List Value), xs.length = k → ys.length = k → (∀ i (h : i < xs.length) (h' : i < (dz x).length), Rep F w0 xs[i] (dz x)[i]) → (∀ i (h : i < ys.length) (h' : i < (dz y).length), Rep F w0 ys[i] (dz y)[i]) →
  Calls P g #[.agg xs.toArray, .agg ys.toArray] W fun e w' => e = .returned (.int .i64 (cf x y)) ∧ ∃ q os', w' = grow (W.drewN q) os'
variable {dz k cf}
/-- The cells of the element with a number. -/
def encF (ys : Nat → Nat → Value) (zs : List Value) (k n i : Nat) : List Value := if i < n then (List.range k).map (ys i) else zs
def cfF (cf : α → α → Int) (xs : List α) (i j : Nat) : Int := cf (xs.getD i default) (xs.getD j default)
theorem swoF (hO : SWO (ltOf cf)) (xs : List α) : SWO (ltOf (cfF cf xs)) where
  irrefl x := hO.irrefl (xs.getD x default)
  trans x y z h1 h2 := hO.trans (xs.getD x default) (xs.getD y default) (xs.getD z default) h1 h2
  ntrans x y z h1 h2 := hO.ntrans (xs.getD x default) (xs.getD y default) (xs.getD z default) h1 h2
set_option maxHeartbeats 2000000 in
theorem sort_rcall {P : Program} {sf g : Nat} (T : SortT P sf k) (hO : SWO (ltOf cf)) (eg : ∀ args w, (callFunc g args).run P w = .ok (.enter g args) w) (hC : CmpT P g k dz cf) (hdz : ∀ x, (dz x).length = k)
    (zs : List Value) (hzl : zs.length = k) (hz1 : ∀ v ∈ zs, v.oneCell' = true) (hzr : ∀ F w i (h : i < zs.length) (h' : i < (dz default).length), Rep F w zs[i] (dz default)[i])
    (xs : List α) (hn : xs.length < 4611686018427387904) (hd : DistF cf xs) (e : Nat) : RCall P sf e k (xs.map dz) ((sortF cf xs).map dz) [.clo (.func g) []] (.tup []) := by
  intro id
  refine ⟨T.ent, fun F ρ B w vs hF hB hσ hv => ?_⟩
  obtain rfl := repSL_fn hv
  have hsl : (sortF cf xs).length = xs.length := (sortF_perm xs).length_eq
  have hl : (xs.map dz).length = xs.length := List.length_map ..
  obtain ⟨ys, h1, h2, h3, h4⟩ := hσ.ok _ (List.mem_singleton.2 rfl)
  rw [hl] at h1
  have h1' : w.ownsRow B e k (ρ id) xs.length (flat ys xs.length k) := h1
  have hcell : ∀ i, (hi : i < xs.length) → ∀ c, (hc : c < k) → (ys i c).oneCell' = true ∧ Rep F w (ys i c) ((dz xs[i])[c]'(by rw [hdz]; exact hc)) := fun i hi c hc => by
    have := h3 i (by rw [hl]; exact hi) c (by rw [List.getElem_map, hdz]; exact hc)
    simpa only [List.getElem_map] using this
  rcases h1'.2 with ⟨h5, h6⟩ | ⟨g0, cap, cur, h5, h6, h7, h8, h9, h10, h11⟩
  · have h6' := List.eq_nil_of_length_eq_zero h6
    subst h6'
    rw [h5]
    refine (T.nil (.func (.func g) #[] #[]) w).mono fun e' w' ⟨he, hw⟩ => ?_
    subst hw
    refine ⟨_, F, ρ, he, .tup [] [] rfl (fun i h1 => by simp at h1), fun _ hb => hb, fun _ hb => .inl hb, hF, Kept.refl _ _, ?_, ?_, fun _ _ => rfl⟩
    · have : (sortF cf ([] : List α)).map dz = ([] : List α).map dz := by unfold sortF; rw [List.mergeSort_nil]
      rw [this]
      exact hσ
    · intro p hp b hb
      have : p = (id, .row e k ((sortF cf ([] : List α)).map dz)) := by simpa using hp
      subst this
      rw [h5] at hb
      simp [blk] at hb
  · rw [h5]
    have hg : g0 < w.heap.size := (Array.getElem?_eq_some_iff.1 h7).1
    have hcur : ∀ i c, i < xs.length → c < k → cur[i * k + c]? = some (ys i c) := fun i c hi hc => by
      have hcc := row_cell h1' h5 h7 hi hc
      rwa [cell_of_row w g0 (i * k + c) cur e (0, 0) h7] at hcc
    have hdm : ∀ j, j < xs.length * k → j / k < xs.length ∧ j % k < k ∧ j / k * k + j % k = j := fun j hj => by
      have hk0 : 0 < k := Nat.pos_of_ne_zero fun h => by subst h; simp at hj
      exact ⟨(Nat.div_lt_iff_lt_mul hk0).2 hj, Nat.mod_lt _ hk0, by rw [Nat.mul_comm]; exact Nat.div_add_mod j k⟩
    have hE : ∀ i, (encF ys zs k xs.length i).length = k := fun i => by
      unfold encF
      split
      · simp
      · exact hzl
    have hEat : ∀ i c, i < xs.length → c < k → (encF ys zs k xs.length i)[c]! = ys i c := fun i c hi hc => by
      unfold encF
      rw [if_pos hi, getElem!_pos _ c (by simpa using hc)]
      simp
    have hH : HoldsK (encF ys zs k xs.length) k w g0 0 (Array.range xs.length) := by
      intro j hj
      have hj' : j < xs.length * k := by simpa using hj
      obtain ⟨hpi, hpc, hpe⟩ := hdm j hj'
      have h12 := hcur (j / k) (j % k) hpi hpc
      rw [hpe] at h12
      rw [Nat.zero_add, cell_of_row w g0 j cur e (0, 0) h7, h12, get_flatK _ k _ _ (by simpa using hj'), rngK (α := Nat) _ _ hpi]
      refine ⟨by rw [hEat _ _ hpi hpc]; rfl, ?_⟩
      unfold World.frozen?
      rw [h7]
      simp
    have hRep : ∀ x, ∀ i (h : i < (encF ys zs k xs.length x).length) (h' : i < (dz (xs.getD x default)).length), Rep F w (encF ys zs k xs.length x)[i] (dz (xs.getD x default))[i] := fun x i h h' => by
      have hi : i < k := by rw [hE] at h; exact h
      by_cases hx : x < xs.length
      · have e1 : (encF ys zs k xs.length x)[i] = ys x i := by
          have := hEat x i hx hi
          rwa [getElem!_pos _ i h] at this
        have e2 : xs.getD x default = xs[x] := by rw [List.getD_eq_getElem?_getD, List.getElem?_eq_getElem hx]; rfl
        simp only [e1, e2]
        exact (hcell x hx i hi).2
      · have e1 : encF ys zs k xs.length x = zs := if_neg hx
        have e2 : xs.getD x default = default := by rw [List.getD_eq_getElem?_getD, List.getElem?_eq_none (by omega)]; rfl
        simp only [e1, e2]
        exact hzr F w i (by rw [hzl]; exact hi) _
    have hL : CmpLays P g #[] (encF ys zs k xs.length) k (cfF cf xs) g0 0 (Array.range xs.length).size w := fun m os dk _ x y =>
      hC F w _ (xs.getD x default) (xs.getD y default) _ _ (hE x) (hE y) (hRep x) (hRep y)
    have h := T.all (encF ys zs k xs.length) hE
      (fun x v hv => by
        unfold encF at hv
        by_cases hx : x < xs.length
        · rw [if_pos hx] at hv
          obtain ⟨c, hc, rfl⟩ := List.mem_map.1 hv
          exact (hcell x hx c (List.mem_range.1 hc)).1
        · rw [if_neg hx] at hv
          exact hz1 v hv) (cfF cf xs) (swoF hO xs) g g0 cap (Array.range xs.length) w eg hL hH hg (by simpa using hn)
    rw [show (Array.range xs.length).size = xs.length by simp] at h
    refine h.mono fun e' w' ⟨he, d', n, os, hp, hs, hw⟩ => ?_
    obtain ⟨hp1, _, hp3⟩ := hp
    have hds : d'.size = xs.length := by rw [hp1]; simp
    have hperm : d'.toList.Perm (List.range xs.length) := by
      have e1 : d'.extract 0 xs.length = d' := by rw [← hds]; exact Array.extract_size
      have e2 : (Array.range xs.length).extract 0 xs.length = Array.range xs.length := by
        have := Array.extract_size (xs := Array.range xs.length)
        rwa [show (Array.range xs.length).size = xs.length by simp] at this
      rw [e1, e2] at hp3
      simpa using hp3
    have hlt : ∀ i, i < xs.length → d'[i]! < xs.length := fun i hi => by
      rw [getElem!_pos d' i (by omega)]
      have : d'[i] ∈ d'.toList := by rw [Array.mem_toList_iff]; exact Array.getElem_mem _
      exact List.mem_range.1 (hperm.mem_iff.1 this)
    have hsort : (d'.toList.map fun i => xs.getD i default) = sortF cf xs := by
      refine sortF_uniq hO hd ?_ ?_
      · have h12 := hperm.map fun i => xs.getD i default
        have h13 : (List.range xs.length).map (fun i => xs.getD i default) = xs := by
          apply List.ext_getElem
          · simp
          · intro i a1 a2
            simp [List.getD_eq_getElem?_getD, List.getElem?_eq_getElem a2]
        rwa [h13] at h12
      · rw [List.pairwise_map, List.pairwise_iff_getElem]
        intro i j hi hj hij
        have hj' : j < xs.length := by rw [← hds]; simpa using hj
        have h12 := hs i j (Nat.zero_le _) hij (by rw [← hds]; simpa using hj)
        rw [getElem!_pos d' i (by omega), getElem!_pos d' j (by omega)] at h12
        have h13 : ltOf cf (xs.getD d'[j] default) (xs.getD d'[i] default) = false := h12
        simpa using h13
    have hat : ∀ i, (hi : i < xs.length) → (sortF cf xs)[i]'(by rw [hsl]; exact hi) = xs[d'[i]!]'(hlt i hi) := fun i hi => by
      have h12 : (d'.toList.map fun i => xs.getD i default)[i]? = some (xs[d'[i]!]'(hlt i hi)) := by
        rw [List.getElem?_map, Array.getElem?_toList, Array.getElem?_eq_getElem (by omega)]
        have := hlt i hi
        rw [getElem!_pos d' i (by omega)] at this
        simp only [Option.map_some, List.getD_eq_getElem?_getD, List.getElem?_eq_getElem this, Option.getD_some]
        congr 1
        simp [getElem!_pos d' i (by omega)]
      rw [hsort, List.getElem?_eq_getElem (by rw [hsl]; exact hi)] at h12
      exact Option.some.inj h12
    have hw2 : w' = Sort.grow (putRowK (encF ys zs k xs.length) k (Sort.ahead w n) g0 0 d') os := hw
    obtain ⟨hb1, hb2⟩ := put_blockG (encF ys zs k xs.length) k (n := n) (os := os) (zs := d') h7
    have hsz : w.heap.size ≤ w'.heap.size := by rw [hw2, Sort.size_grow, size_putRowK]; exact Nat.le_add_right _ _
    have hob : ownB [(id, Ob.row e k (xs.map dz))] ρ g0 := ⟨_, List.mem_singleton.2 rfl, by rw [h5]; rfl⟩
    have hnF : ¬ F g0 := h4 g0 (by rw [h5]; rfl)
    have hkeep : ∀ b, F b → w'.heap[b]? = w.heap[b]? := fun b hb => by
      rw [hw2]
      exact hb2 b (hF b hb) (fun e => hnF (e ▸ hb))
    refine ⟨_, F, ρ, he, .tup [] [] rfl (fun i h1 => by simp at h1), fun _ hb => hb, fun _ hb => .inl hb, fun b hb => Nat.lt_of_lt_of_le (hF b hb) hsz, ⟨by rw [hw2]; rfl, by rw [hw2]; rfl, by rw [hw2]; rfl, hsz, fun k hk hne => ?_⟩, ?_, ?_, fun _ _ => rfl⟩
    · rw [hw2]
      exact hb2 k hk (fun he => hne (.inr (he ▸ hob)))
    · refine ⟨fun p hp => ?_, fun p hp q hq hne => ?_, fun p hp q hq _ => ?_⟩
      · have : p = (id, .row e k ((sortF cf xs).map dz)) := by simpa using hp
        subst this
        have hl2 : ((sortF cf xs).map dz).length = xs.length := by rw [List.length_map, hsl]
        have hc2 : ∀ i c, i < xs.length → c < k → (Sort.putCells _root_.id 0 (flatK (encF ys zs k xs.length) k d') cur)[i * k + c]? = some (ys d'[i]! c) := fun i c hi hc => by
          rw [put_cellsG (encF ys zs k xs.length) k d' cur (by rw [hds, h10]; exact Nat.mul_le_mul_right k h8) i c (by omega) hc, hEat _ _ (hlt i hi) hc]
        refine ⟨fun i c => ys d'[i]! c, ?_, fun i hi => by rw [List.getElem_map, hdz], fun i hi c hc => ?_, fun g' hg' => ?_⟩
        · rw [hl2]
          refine ⟨flat_length _ _ _, .inr ⟨g0, cap, _, h5, h6, by rw [hw2]; exact hb1, h8, h9, by simp [Sort.putCells, h10], ?_⟩⟩
          apply List.ext_getElem?
          intro p
          by_cases hp : p < xs.length * k
          · obtain ⟨hpi, hpc, hpe⟩ := hdm p hp
            have := flatten_get (fun i c => ys d'[i]! c) k xs.length (p / k) (p % k) hpi hpc
            rw [hpe] at this
            have h12 := hc2 (p / k) (p % k) hpi hpc
            rw [hpe] at h12
            rw [this, List.getElem?_take, if_pos hp, Array.getElem?_toList, h12]
          · rw [List.getElem?_eq_none (by rw [List.length_take]; omega)]
            exact (List.getElem?_eq_none (by have := flat_length (fun i c => ys d'[i]! c) xs.length k; unfold flat at this; rw [this]; omega)).symm
        · rw [hl2] at hi
          have hc5 : c < k := by rw [List.getElem_map, hdz] at hc; exact hc
          have h12 := hcell d'[i]! (hlt i hi) c hc5
          refine ⟨h12.1, ?_⟩
          simp only [List.getElem_map]
          have h13 := h12.2.mono (F' := F) (w' := w') (fun _ h => h) hkeep
          have e1 := hat i hi
          simp only [e1]
          exact h13
        · rw [h5] at hg'
          simp [blk] at hg'
          subst hg'
          exact hnF
      · have h1 : p = (id, .row e k ((sortF cf xs).map dz)) := by simpa using hp
        have h2 : q = (id, .row e k ((sortF cf xs).map dz)) := by simpa using hq
        rw [h1, h2] at hne
        exact absurd rfl hne
      · have h1 : p = (id, .row e k ((sortF cf xs).map dz)) := by simpa using hp
        have h2 : q = (id, .row e k ((sortF cf xs).map dz)) := by simpa using hq
        rw [h1, h2]
    · intro p hp g' hg'
      have : p = (id, .row e k ((sortF cf xs).map dz)) := by simpa using hp
      subst this
      exact .inr ⟨_, List.mem_singleton.2 rfl, hg'⟩
end
end Go.Proofs.YtekenfknoakboaaGreatDoor
