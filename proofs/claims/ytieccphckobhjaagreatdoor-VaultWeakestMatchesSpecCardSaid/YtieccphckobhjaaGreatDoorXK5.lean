/- Walks and laws over abstract values, merged by tools/merge.py. No statement of the seat. -/
import Derived.MapKept
import Derived.Carry
import Derived.Lib.ConvBytes
import Derived.Lib.Strings
import Derived.Laws.Cover3
import Derived.Shelf.Spec.SlicesInsert
import Derived.Shelf.Spec.SlicesInsertGrow
import Derived.Test.YtieccphckobhjaaGreatDoorXK4

namespace Go.Proofs.YtieccphckobhjaaGreatDoor
open Go.RowKit
set_option linter.unusedVariables false

/-! Types. -/
namespace TyE3
theorem ag_26 : AggT Tryz.prog 26 3 := .of (by kernel_rfl)
theorem ag_65 : AggT Tryz.prog 65 7 := .of (by kernel_rfl)
theorem et_24 : ElemTy Tryz.prog 24 65 7 96 (.agg #[(.string ⟨#[]⟩), (.string ⟨#[]⟩), (.string ⟨#[]⟩), (.int .i64 0), (.int .i64 0), (.int .i64 0), (.slice none 0 0)]) := ⟨by kernel_rfl, by kernel_rfl, by kernel_rfl, by decide⟩
theorem et_63 : ElemTy Tryz.prog 63 3 1 8 (.int .i64 0) := ⟨by kernel_rfl, by kernel_rfl, by kernel_rfl, by decide⟩
theorem fo_26_2 : fieldOff Tryz.prog 26 2 = some 2 := by kernel_rfl
theorem fo_65_0 : fieldOff Tryz.prog 65 0 = some 0 := by kernel_rfl
theorem fo_65_1 : fieldOff Tryz.prog 65 1 = some 1 := by kernel_rfl
theorem fo_65_4 : fieldOff Tryz.prog 65 4 = some 4 := by kernel_rfl
theorem sc_24 : Scal Tryz.prog 24 := .of (by kernel_rfl)
theorem sc_3 : Scal Tryz.prog 3 := .of (by kernel_rfl)
theorem sc_9 : Scal Tryz.prog 9 := .of (by kernel_rfl)
theorem sz_3 : ∀ w, (sizeOf 3).run Tryz.prog w = .ok 1 w := SizeT.of (by kernel_rfl)
theorem sz_65 : ∀ w, (sizeOf 65).run Tryz.prog w = .ok 7 w := SizeT.of (by kernel_rfl)
theorem zt_65 : (Tryz.prog.info? 65).bind (·.zero) = some (.agg #[(.string ⟨#[]⟩), (.string ⟨#[]⟩), (.string ⟨#[]⟩), (.int .i64 0), (.int .i64 0), (.int .i64 0), (.slice none 0 0)]) := by kernel_rfl
end TyE3
open TyE3


section
variable (frm every to : Int)
def nextOf (l : List Cpy) (ns : List Nat) : List Int := List.zipWith (fun c n => dayD frm every c n) l ns
structure Sel (l : List Cpy) (ns : List Nat) (o : List (Tsk × Nat)) : Prop where
  len : ns.length = l.length
  le : ∀ (i : Nat) (c : Cpy) (n : Nat), l[i]? = some c → ns[i]? = some n → n ≤ cntD frm every to c
  mem : ∀ x, x ∈ o ↔ ∃ (i : Nat) (c : Cpy) (n k : Nat), l[i]? = some c ∧ ns[i]? = some n ∧ k < n ∧ x = elD frm every c i k
  sorted : o.Pairwise (tlt cmpT)
  below : ∀ x, x ∈ o → ∀ (i : Nat) (c : Cpy) (n k : Nat), l[i]? = some c → ns[i]? = some n → n ≤ k → k < cntD frm every to c → tlt cmpT x (elD frm every c i k)
  count : o.length = ns.sum
/-- The best one so far. -/
def BestR (L : List Int) (i : Nat) (b : Int) : Prop := (b = -1 ∧ ∀ j y, j < i → L[j]? = some y → ¬ y < to) ∨ ∃ n x, b = ((n : Nat) : Int) ∧ n < i ∧ L[n]? = some x ∧ x < to ∧ ∀ j y, j < i → L[j]? = some y → y < to → x < y ∨ (x = y ∧ n ≤ j)
end
variable {frm every to : Int}
end Go.Proofs.YtieccphckobhjaaGreatDoor


namespace Go.Proofs.YtieccphckobhjaaGreatDoor
open Go.RowKit Go.MapKept
set_option linter.unusedVariables false

/-- m[key] = d: what the map holds then. -/
def MPut (M : List (Value × D)) (key : Value) (d : D) (M' : List (Value × D)) : Prop :=
  (∃ i d0, M[i]? = some (key, d0) ∧ (∀ (j : Nat) (p : Value × D), M[j]? = some p → p.1 = key → j = i) ∧ M' = M.set i (key, d)) ∨ ((∀ p ∈ M, p.1 ≠ key) ∧ M' = M ++ [(key, d)])
/-- m[key]; z: the zero value. -/
def MGet (M : List (Value × D)) (key : Value) (z d : D) : Prop := (∃ i, M[i]? = some (key, d) ∧ ∀ (j : Nat) (p : Value × D), M[j]? = some p → p.1 = key → j = i) ∨ ((∀ p ∈ M, p.1 ≠ key) ∧ d = z)

section
variable {cx : Cx} {ops : Array Oper} {o : Oper} {rest : List Oper} {e : Env} {σ σ' : Obs} {Q : Post}
end
section
variable {P : Program} {B : Nat} {ops : Array Oper} {o : Oper} {e : Env} {σ : Obs}
/-! Closures. -/
def CapsOk (e : Env) : List Operand → List Cap → Prop
  | [], [] => True
  | x :: xs, .p id off :: cs => e.ev x = .ptr id off ∧ CapsOk e xs cs
  | x :: xs, .d y :: cs => e.ev x = .d y ∧ CapsOk e xs cs
  | _, _ => False
theorem CapsOk.nil : CapsOk e [] [] := trivial
theorem CapsOk.d {x : Operand} {xs : List Operand} {y : D} {cs : List Cap} (h : e.ev x = .d y) (k : CapsOk e xs cs) : CapsOk e (x :: xs) (.d y :: cs) := ⟨h, k⟩
end
def Cap.toS : Cap → S
  | .p id off => .ptr id off
  | .d y => .d y
theorem RepCL.toS {F : Nat → Prop} {ρ : Nat → Value} {w : World} : ∀ {cs : List Value} {caps : List Cap}, RepCL F ρ w cs caps → RepSL F ρ w cs (caps.map Cap.toS)
  | [], [], _ => ⟨rfl, fun i h => absurd h (by simp)⟩
  | x :: xs, c :: cs, h => by
    have h1 := RepCL.toS h.2
    refine ⟨by simpa using h1.1, fun i h2 h3 => ?_⟩
    cases i with
    | zero =>
      have h4 := h.1
      cases c with
      | p id off => cases h4 with | p _ _ g hg => exact .ptr id off g hg
      | d y => cases h4 with | d h4 => exact .d h4
    | succ i => exact h1.2 i (by simpa using h2) (by simpa using h3)
  | [], _ :: _, h => h.elim
  | _ :: _, [], h => h.elim
section
variable {cx : Cx} {ops : Array Oper} {o : Oper} {rest : List Oper} {e : Env} {σ : Obs} {Q : Post}
end
/-! Cells. -/
theorem R0.recell {cx : Cx} {F : Nat → Prop} {ρ : Nat → Value} {e : Env} {σ : Obs} {a : Act} {w : World} (hr : R0 cx F ρ e σ a w) {id off : Nat} {ss : List S} {s s' : S} (hm : (id, Ob.cells ss) ∈ σ) (hs : ss[off]? = some s) (h : ∀ x, RepS F ρ w x s → RepS F ρ w x s') :
    R0 cx F ρ e (Obs.upd id (.cells (ss.set off s')) σ) a w := by
  obtain ⟨g, ty, cs, h2, h3, h4, h5, h6, h7⟩ := hr.obs.ok _ hm
  dsimp only at h2
  refine hr.writeOb (g := g) (by rw [h2]; rfl) hm h3 h4 ⟨rfl, rfl, rfl, Nat.le_refl _, fun _ _ _ => rfl⟩ ⟨g, ty, cs, h2, h3, h4, h5, by simp [h6], fun j hj hj' => ⟨(h7 j hj (by simpa using hj')).1, ?_⟩⟩
  rw [List.getElem_set]
  by_cases hj2 : off = j
  · rw [if_pos hj2]
    subst hj2
    have h8 := (h7 off hj (by simpa using hj')).2
    rw [(List.getElem?_eq_some_iff.1 hs).2] at h8
    exact h _ h8
  · rw [if_neg hj2]
    exact (h7 j hj (by simpa using hj')).2
/-- A nil slice in an own cell, taken for an own row of nothing. -/
theorem R0.adoptCell {cx : Cx} {F : Nat → Prop} {ρ : Nat → Value} {e : Env} {σ : Obs} {a : Act} {w : World} (h : R0 cx F ρ e σ a w) {id off : Nat} {ss : List S} (id2 ee size : Nat) (hm : (id, Ob.cells ss) ∈ σ) (hs : ss[off]? = some (.d (.v (.slice none 0 0)))) (hid : ∀ p ∈ σ, p.1 ≠ id2) (hfx : cx.free id2 = true) :
    ∃ ρ', R0 cx F ρ' (e.kill id2) (Obs.upd id (.cells ((ss.map (S.kill id2)).set off (.own id2))) ((id2, .row ee size []) :: Obs.kill id2 σ)) a w := by
  refine ⟨fun j => if j = id2 then .slice none 0 0 else ρ j, ?_⟩
  have h1 := h.turn (ρ' := fun j => if j = id2 then .slice none 0 0 else ρ j) (id := id2) (ob := .row ee size []) (row := none) (w' := w) (F' := F) (fun j hj => by simp [hj])
    ⟨rfl, rfl, rfl, Nat.le_refl _, fun _ _ _ => rfl⟩ hfx (fun g hg => by simp at hg) (fun b hb => hb) (fun b hb => .inl hb) h.lt
    ⟨fun _ _ => undef, by simp [World.ownsRow], fun i hi => by simp at hi, fun i hi => by simp at hi, fun g hg => by simp [blk] at hg⟩ (fun g hg => by simp [blk] at hg) ((id2, .row ee size []) :: Obs.kill id2 σ) (fun p hp => by
      cases hp with
      | head => exact .inl rfl
      | tail _ hp => obtain ⟨q, hq, rfl⟩ := Obs.mem_kill hp; exact .inr ⟨q, hq, hid q hq, rfl⟩)
  have hmk : ∀ {σ : Obs}, (id, Ob.cells ss) ∈ σ → (id, Ob.cells (ss.map (S.kill id2))) ∈ Obs.kill id2 σ := by
    intro σ hh
    induction σ with
    | nil => cases hh
    | cons p l ih =>
      cases hh with
      | head => exact .head _
      | tail _ hh => exact .tail _ (ih hh)
  refine h1.recell (s := .d (.v (.slice none 0 0))) (.tail _ (hmk hm)) (by rw [List.getElem?_map, hs]; rfl) fun x hx => ?_
  rw [repS_v hx]
  have := RepS.own (F := F) (ρ := fun j => if j = id2 then Value.slice none 0 0 else ρ j) (w := w) id2
  simpa using this
theorem AOps.adoptCell {cx : Cx} {ops : Array Oper} {rest : List Oper} {e : Env} {σ : Obs} {Q : Post} (id2 ee size id off : Nat) {ss : List S} (hm : (id, Ob.cells ss) ∈ σ) (hs : ss[off]? = some (.d (.v (.slice none 0 0)))) (hid : Obs.fresh id2 σ = true)
    (k : AOps cx ops rest (e.kill id2) (Obs.upd id (.cells ((ss.map (S.kill id2)).set off (.own id2))) ((id2, .row ee size []) :: Obs.kill id2 σ)) Q) (hfx : cx.free id2 = true := by rfl) : AOps cx ops rest e σ Q := fun a w ⟨_, _, hr⟩ => by
  obtain ⟨ρ', h⟩ := hr.adoptCell id2 ee size hm hs (Obs.fresh_spec hid) hfx
  exact k a w ⟨_, ρ', h⟩
/-- An own block of cells that is written no more: it is data now. -/
theorem R0.freezeCells {cx : Cx} {F : Nat → Prop} {ρ : Nat → Value} {e : Env} {σ : Obs} {a : Act} {w : World} (h : R0 cx F ρ e σ a w) {t id : Nat} {ds : List D} (ht : e t = .ptr id 0) (hm : (id, Ob.cells (ds.map S.d)) ∈ σ) :
    ∃ F', R0 cx F' ρ (e.put (some t) (.d (.fp ds))) (Obs.del id σ) a w := by
  have hF2 : ∀ b, (F b ∨ blk (ρ id) = some b) → b < w.heap.size := fun b hb => by
    rcases hb with hb | hb
    · exact h.lt b hb
    · exact ((h.obs.ok _ hm).blk_lt hb).2
  have keep : ∀ {x : Value} {s : S}, RepS F ρ w x s → RepS (fun b => F b ∨ blk (ρ id) = some b) ρ w x s := fun hx =>
    RepS.turn (row := none) hx h.lt (fun g hg => by simp at hg) ⟨rfl, rfl, rfl, Nat.le_refl _, fun _ _ _ => rfl⟩ (fun b hb => .inl hb)
  refine ⟨fun b => F b ∨ blk (ρ id) = some b, h.size, h.defers, hF2, fun b hb => .inl (h.base b hb), fun b hb => ?_, h.below, h.hB, fun u => ?_, ?_, h.up, fun p hp => h.kown p (Obs.mem_del hp).1, h.fixed⟩
  · rcases hb with hb | hb
    · exact h.new b hb
    · exact .inr (h.kown _ hm b hb)
  · by_cases hu : u = t
    · subst hu
      rw [Env.put_same]
      have h1 := h.env u
      rw [ht] at h1
      obtain ⟨g, ty, cs, h2, h3, h4, h5, h6, h7⟩ := h.obs.ok _ hm
      dsimp only at h2
      have hv := ptr_at h1 (g := g) (by rw [h2]; rfl)
      rw [hv]
      refine .d (.fp ⟨g, 0, none⟩ ds (fun j => cs.getD j undef) (.inr (by rw [h2]; rfl)) (fun j hj => ?_) (fun j hj => ?_) (fun j hj => ?_))
      · have hjc : j < cs.length := by simp at h6; omega
        rw [addr_add, cell_of_row w g (0 + j) cs.toArray ty (0, 0) h5]
        simp [hjc]
      · have hjc : j < cs.length := by simp at h6; omega
        have := (h7 j hjc (by simpa using hj)).1
        simpa [hjc] using this
      · have hjc : j < cs.length := by simp at h6; omega
        have h8 := (h7 j hjc (by simpa using hj)).2
        rw [List.getElem_map] at h8
        have h9 := repS_d (keep h8)
        simpa [hjc] using h9
    · rw [Env.put_other _ _ _ _ hu]
      exact keep (h.env u)
  · refine ⟨fun p hp => ?_, fun p hp q hq => h.obs.apart p (Obs.mem_del hp).1 q (Obs.mem_del hq).1, fun p hp q hq => h.obs.uniq p (Obs.mem_del hp).1 q (Obs.mem_del hq).1⟩
    obtain ⟨h1, h2⟩ := Obs.mem_del hp
    exact (h.obs.ok p h1).more h.lt (fun b hb => .inl hb) fun g hg hf => by
      rcases hf with hf | hf
      · exact (h.obs.ok p h1).nF hg hf
      · exact h.obs.apart p h1 _ hm h2 g hg hf
theorem AWP.freezeCells {cx : Cx} {c : Code} {e : Env} {σ : Obs} {Q : Post} (t : Nat) {id : Nat} {ds : List D} (ht : e t = .ptr id 0) (hm : (id, Ob.cells (ds.map S.d)) ∈ σ) (k : AWP cx c (e.put (some t) (.d (.fp ds))) (Obs.del id σ) Q) : AWP cx c e σ Q :=
  fun a w ⟨_, ρ, hr⟩ => by
    obtain ⟨F', h⟩ := hr.freezeCells ht hm
    exact k a w ⟨F', ρ, h⟩
theorem AOps.freezeCells {cx : Cx} {ops : Array Oper} {rest : List Oper} {e : Env} {σ : Obs} {Q : Post} (t : Nat) {id : Nat} {ds : List D} (ht : e t = .ptr id 0) (hm : (id, Ob.cells (ds.map S.d)) ∈ σ) (k : AOps cx ops rest (e.put (some t) (.d (.fp ds))) (Obs.del id σ) Q) : AOps cx ops rest e σ Q :=
  fun a w ⟨_, ρ, hr⟩ => by
    obtain ⟨F', h⟩ := hr.freezeCells ht hm
    exact k a w ⟨F', ρ, h⟩
end Go.Proofs.YtieccphckobhjaaGreatDoor


namespace Go.Proofs.YtieccphckobhjaaGreatDoor
open Go.RowKit
set_option linter.unusedVariables false

theorem S.kill_kill (id : Nat) (s : S) : (s.kill id).kill id = s.kill id := by
  cases s with
  | d x => rfl
  | own i => cases h : Nat.beq i id <;> simp only [S.kill, h]
  | ptr i off => cases h : Nat.beq i id <;> simp only [S.kill, h]
  | clo f caps => cases h : Cap.anyP (fun i => Nat.beq i id) caps <;> simp only [S.kill, h]
theorem R0.killEnv {cx : Cx} {F : Nat → Prop} {ρ : Nat → Value} {e : Env} {σ : Obs} {a : Act} {w : World} (h : R0 cx F ρ e σ a w) (id : Nat) : R0 cx F ρ (e.kill id) σ a w :=
  ⟨h.size, h.defers, h.lt, h.base, h.new, h.below, h.hB, fun t => (h.env t).kill id (fun _ _ => rfl), h.obs, h.up, h.kown, h.fixed⟩

/-- The operation that makes the block. -/
def QF (dst id : Nat) (s0 : S) (ob : Ob) (e0 : Env) (σ : Obs) : Post := fun ex e' σ' => match ex with
  | .normal => e' = (e0.kill id).put (some dst) s0 ∧ σ' = (id, ob) :: Obs.kill id σ
  | _ => False
/-- What a region makes: the slot, the object, how the slot reads, what the object is. -/
structure Fr where
  dst : Nat
  id : Nat
  s0 : S
  ob : Ob
def frObs (Φ : List Fr) : Obs := Φ.map fun f => (f.id, f.ob)
structure FrOk (cx : Cx) (Φ : List Fr) (σ : Obs) : Prop where
  uid : ∀ f ∈ Φ, ∀ g ∈ Φ, f.id = g.id → f = g
  udst : ∀ f ∈ Φ, ∀ g ∈ Φ, f.dst = g.dst → f = g
  own : ∀ f ∈ Φ, f.s0.kill f.id = .d .any ∧ f.s0 ≠ .d .any
  other : ∀ f ∈ Φ, ∀ g ∈ Φ, g.id ≠ f.id → g.s0.kill f.id = g.s0 ∧ g.ob.kill f.id = g.ob
  fresh : ∀ f ∈ Φ, Obs.fresh f.id σ = true
  kill : ∀ f ∈ Φ, Obs.kill f.id σ = σ
  free : ∀ f ∈ Φ, cx.free f.id = true
theorem FrOk.one {cx : Cx} {σ : Obs} {f : Fr} (h1 : f.s0.kill f.id = .d .any) (h2 : f.s0 ≠ .d .any) (h3 : Obs.fresh f.id σ = true) (h4 : Obs.kill f.id σ = σ) (h5 : cx.free f.id = true) : FrOk cx [f] σ where
  uid := fun a ha b hb _ => by rw [List.mem_singleton] at ha hb; rw [ha, hb]
  udst := fun a ha b hb _ => by rw [List.mem_singleton] at ha hb; rw [ha, hb]
  own := fun a ha => by rw [List.mem_singleton] at ha; subst ha; exact ⟨h1, h2⟩
  other := fun a ha b hb hne => by rw [List.mem_singleton] at ha hb; subst ha; subst hb; exact absurd rfl hne
  fresh := fun a ha => by rw [List.mem_singleton] at ha; subst ha; exact h3
  kill := fun a ha => by rw [List.mem_singleton] at ha; subst ha; exact h4
  free := fun a ha => by rw [List.mem_singleton] at ha; subst ha; exact h5
def FreshOp (cx : Cx) (ops : Array Oper) (τ : Obs) (f : Fr) (o : Oper) (e : Env) : Prop :=
  o.dst = some f.dst ∧ ∀ (e0 : Env) (σ : Obs), (∀ p ∈ τ, p ∈ σ) → (∀ t, t ∈ o.looksAt ops → e0 t = e t) → Obs.fresh f.id σ = true → AOps cx ops [o] e0 σ (QF f.dst f.id f.s0 f.ob e0 σ)
def notDst (Φ : List Fr) (o : Oper) : Prop := ∀ f ∈ Φ, o.dst ≠ some f.dst
def XStep (cx : Cx) (ops : Array Oper) (σ : Obs) (Φ : List Fr) (o : Oper) (e : Env) (s : S) : Prop :=
  (GW ops o e true ∧ ((∃ f ∈ Φ, FreshOp cx ops σ f o e ∧ s = f.s0) ∨ (AOp cx.P cx.B ops o e σ s ∧ notDst Φ o ∧ ∀ f ∈ Φ, s.kill f.id = s ∨ ∃ t, t ∈ o.looksAt ops ∧ (e t).kill f.id ≠ e t))) ∨ (GW ops o e false ∧ s = .d (.v undef) ∧ notDst Φ o)
def XRun (cx : Cx) (ops : Array Oper) (σ : Obs) (Φ : List Fr) : List Oper → Env → (Env → Prop) → Prop
  | [], e, Qe => (∀ f ∈ Φ, e f.dst = f.s0) ∧ Qe e
  | o :: l, e, Qe => DstOk cx.N o ∧ ∃ s, XStep cx ops σ Φ o e s ∧ XRun cx ops σ Φ l (e.put o.dst s) Qe
def anyX (cx : Cx) (ops : Array Oper) (σ : Obs) (Φ : List Fr) (Qe : Env → Prop) : Nat → Array Bool → Env → Prop
  | 0, listed, e => Region.ready .any ops listed = [] ∧ Qe e
  | fuel + 1, listed, e => (Region.ready .any ops listed = [] → Qe e) ∧
      ∀ i ∈ Region.ready .any ops listed, ∀ o, ops[i]? = some o → ∃ s, XStep cx ops σ Φ o e s ∧ anyX cx ops σ Φ Qe fuel (listed.setIfInBounds i true) (e.put o.dst s)
def RelX (cx : Cx) (ops : Array Oper) (σ : Obs) (Φ : List Fr) (listed : Array Bool) (e : Env) (a : Act) (w : World) : Prop :=
  ∃ Δ : List Fr, (∀ g ∈ Δ, g ∈ Φ) ∧ (∀ g ∈ Δ, ∃ i o, ops[i]? = some o ∧ listed.getD i false = true ∧ o.dst = some g.dst) ∧ (∀ g ∈ Δ, e g.dst = g.s0) ∧ (∀ f ∈ Φ, ¬ f ∈ Δ → ∀ t, (e t).kill f.id = e t) ∧ R cx e (frObs Δ ++ σ) a w
section
variable {cx : Cx} {ops : Array Oper} {σ : Obs} {Φ : List Fr} {e : Env} {Qe : Env → Prop} {o : Oper} {l : List Oper}
def Holds (p : Fr → Prop) : List Fr → Prop
  | [] => True
  | f :: l => p f ∧ Holds p l
theorem Holds.all {p : Fr → Prop} : ∀ {l : List Fr}, Holds p l → ∀ f ∈ l, p f
  | [], _, f, hf => by cases hf
  | g :: l, h, f, hf => by
    cases hf with
    | head => exact h.1
    | tail _ hf => exact Holds.all h.2 f hf
theorem XRun.nil (hd : Holds (fun f => e f.dst = f.s0) Φ) (h : Qe e) : XRun cx ops σ Φ [] e Qe := ⟨hd.all, h⟩
def neDst (o : Oper) (dst : Nat) : Bool := match o.dst with | none => true | some t => !(Nat.beq t dst)
theorem neDst_spec {dst : Nat} (h : neDst o dst = true) : o.dst ≠ some dst := fun he => by unfold neDst at h; rw [he] at h; simp at h
def neAll (Φ : List Fr) (o : Oper) : Bool := Φ.all fun f => neDst o f.dst
theorem ev_same {e0 e : Env} {x : Operand} (h : ∀ t, x = .tmp t → e0 t = e t) : e0.ev x = e.ev x := by
  cases x with
  | tmp t => exact h t rfl
  | const v => rfl
  | global g => rfl
  | func f => rfl
theorem XRun.alloc {t : Nat} {z : Value} {zs : List Value} (f : Fr) (hf : f ∈ Φ) (hg : GW ops o e true) (hgn : o.guard = none) (ht : o.dst = some f.dst) (hd : Nat.blt f.dst cx.N = true) (ho : o.op = .alloc t) (hz : (cx.P.info? t).bind (·.zero) = some z) (hzc : z.cells.toList = zs) (h1 : zs.all (·.oneCell') = true) (hob : f.ob = .cells ((zs.map D.v).map S.d)) (hs : f.s0 = .ptr f.id 0)
    (k : XRun cx ops σ Φ l (e.put (some f.dst) f.s0) Qe) (hfx : cx.free f.id = true := by rfl) : XRun cx ops σ Φ (o :: l) e Qe :=
  ⟨by unfold DstOk; rw [ht]; exact hd, _, .inl ⟨hg, .inl ⟨f, hf, ⟨ht, fun e0 σ _ _ hfr => AOps.alloc f.id hgn ht hd ho hz hzc h1 hfr (.nil ⟨by rw [hs], by rw [hob]⟩) hfx⟩, rfl⟩⟩, by rw [ht]; exact k⟩
end
def Env.killAll : List Fr → Env → Env
  | [], e => e
  | f :: l, e => Env.killAll l (e.kill f.id)
theorem kill_comm (i j : Nat) (s : S) : (s.kill i).kill j = (s.kill j).kill i := by
  cases s with
  | d x => rfl
  | own k => cases h1 : Nat.beq k i <;> cases h2 : Nat.beq k j <;> simp only [S.kill, h1, h2]
  | ptr k off => cases h1 : Nat.beq k i <;> cases h2 : Nat.beq k j <;> simp only [S.kill, h1, h2]
  | clo f caps => cases h1 : Cap.anyP (fun k => Nat.beq k i) caps <;> cases h2 : Cap.anyP (fun k => Nat.beq k j) caps <;> simp only [S.kill, h1, h2]
end Go.Proofs.YtieccphckobhjaaGreatDoor


namespace Go.Proofs.YtieccphckobhjaaGreatDoor
open Go.RowKit
set_option linter.unusedVariables false

/-- What is so stays so while what was there is kept. -/
def Stays (T : World → Prop) : Prop := ∀ w w', Kept (fun b => w.heap.size ≤ b) w w' → T w → T w'
/-- A contract that wants T of the world. -/
def ACallT (P : Program) (T : World → Prop) (f : FuncId) (ds : List D) (d : D) : Prop := Enters P f ∧
  ∀ (F : Nat → Prop) (w : World) (vs : List Value), T w → (∀ b, F b → b < w.heap.size) → RepL F w vs ds → Calls P f vs.toArray w fun e w' => ∃ v F', e = .returned v ∧ Rep F' w' v d ∧ Ext F w F' w'
/-! ## Operations -/

end Go.Proofs.YtieccphckobhjaaGreatDoor


namespace Go.Proofs.YtieccphckobhjaaGreatDoor
open Go.RowKit
set_option linter.unusedVariables false

/-- The type of bytes. -/
structure U8T (P : Program) (t : TypeId) : Prop where
  hu : P.underlying t = some (.int .u8)
def at0' (l : List UInt8) (i : Nat) : UInt8 := l.getD i 0
section
variable {cx : Cx} {ops : Array Oper} {o : Oper} {rest : List Oper} {e : Env} {σ : Obs} {Q : Post}
end

section
variable {P : Program} {B : Nat} {ops : Array Oper} {o : Oper} {e : Env} {σ : Obs}
end

section
variable {P : Program} {B : Nat} {ops : Array Oper} {o : Oper} {e : Env} {σ : Obs}
end
end Go.Proofs.YtieccphckobhjaaGreatDoor


namespace Go.Proofs.YtieccphckobhjaaGreatDoor
open Go.RowKit
set_option linter.unusedVariables false

/-- f, called with what reads as ds, returns a new row whose elements read as els, and that nobody else has. -/
def OCall (P : Program) (f : FuncId) (ds : List D) (ee size : Nat) (els : List (List D)) : Prop := Enters P f ∧
  ∀ (F : Nat → Prop) (w : World) (vs : List Value), (∀ b, F b → b < w.heap.size) → RepL F w vs ds →
    Calls P f vs.toArray w fun r w' => ∃ v F', r = .returned v ∧ Ext F w F' w' ∧ ObOk w.heap.size F' (fun _ => v) w' 0 (.row ee size els)

theorem OCall.eq {P : Program} {f : FuncId} {ds : List D} {ee size : Nat} {els els' : List (List D)} (h : OCall P f ds ee size els) (he : els = els') : OCall P f ds ee size els' := he ▸ h
theorem obOk_base {B B' : Nat} {F : Nat → Prop} {ρ ρ' : Nat → Value} {w : World} {id id' ee size : Nat} {els : List (List D)} (h : ObOk B F ρ w id (.row ee size els)) (hB : B' ≤ B) (he : ρ id = ρ' id') : ObOk B' F ρ' w id' (.row ee size els) := by
  obtain ⟨xs, h1, h2, h3, h4⟩ := h
  rw [he] at h1 h4
  refine ⟨xs, ⟨h1.1, ?_⟩, h2, h3, h4⟩
  rcases h1.2 with h5 | ⟨g, cap, cur, h5, h6, h7⟩
  · exact .inl h5
  · exact .inr ⟨g, cap, cur, h5, Nat.le_trans hB h6, h7⟩

/-- A new own object, where more is data now. -/
theorem R0.newObF {cx : Cx} {F F' : Nat → Prop} {ρ : Nat → Value} {e : Env} {σ : Obs} {a : Act} {w w' : World} (hr : R0 cx F ρ e σ a w) {id dst : Nat} {ob : Ob} {v : Value} (hid : ∀ p ∈ σ, p.1 ≠ id) (hd : dst < cx.N) (hE : Ext F w F' w')
    (hob : ObOk cx.B F' (fun j => if j = id then v else ρ j) w' id ob) (hnew : ∀ g, blk v = some g → w.heap.size ≤ g) (hfx : cx.free id = true) :
    ∃ ρ', R0 cx F' ρ' ((e.kill id).put (some dst) (.own id)) ((id, ob) :: Obs.kill id σ) (a.put (some dst) v) w' := by
  refine ⟨fun j => if j = id then v else ρ j, ?_⟩
  have h2 := hr.turn (ρ' := fun j => if j = id then v else ρ j) (id := id) (ob := ob) (row := none) (w' := w') (F' := F') (fun j hj => by simp [hj])
    ⟨hE.below.os, hE.below.tape, hE.below.output, hE.below.size, fun k hk _ => hE.below.block k hk⟩ hfx (fun g hg => by simp at hg) hE.up hE.new hE.lt hob
    (fun g hg => by rw [if_pos rfl] at hg; exact .inr (hnew g hg)) ((id, ob) :: Obs.kill id σ) (fun p hp => by
      cases hp with
      | head => exact .inl rfl
      | tail _ hp => obtain ⟨q, hq, rfl⟩ := Obs.mem_kill hp; exact .inr ⟨q, hq, hid q hq, rfl⟩)
  exact h2.put (o := ⟨some dst, .ready 0, 0, "", #[], none⟩) (v := v) (s := .own id) (Ext.refl h2.lt) (by
      have := RepS.own (F := F') (ρ := fun j => if j = id then v else ρ j) (w := w') id
      simpa using this) (by simpa [DstOk, Nat.blt_eq] using hd)

section
variable {cx : Cx} {ops : Array Oper} {o : Oper} {rest : List Oper} {e : Env} {σ : Obs} {Q : Post}
theorem AOps.callO {f : FuncId} {xs : List Operand} {ts : Array TypeId} {ds : List D} {ee size dst : Nat} {els : List (List D)} (id : Nat) (hg : o.guard = none) (ht : o.dst = some dst) (hdn : Nat.blt dst cx.N = true)
    (ho : o.op = .call { callee := .value (.func f), args := xs.toArray, argTypes := ts }) (ha : ArgsOk e xs ds) (h : OCall cx.P f ds ee size els) (hid : Obs.fresh id σ = true)
    (k : AOps cx ops rest ((e.kill id).put (some dst) (.own id)) ((id, .row ee size els) :: Obs.kill id σ) Q) (hfx : cx.free id = true := by rfl) : AOps cx ops (o :: rest) e σ Q := by
  intro a w ⟨F, ρ, hr⟩
  have hdn' : dst < cx.N := by simpa [Nat.blt_eq] using hdn
  have h4 := h.2 F w (xs.map a.eval) hr.lt (repL_ops ha (fun x _ => ev_rep fun t _ => hr.env t))
  have h5 := h.1 (xs.map a.eval).toArray w
  have hx : (execOp a.eval o).run cx.P w = .ok (.enter f (xs.map a.eval).toArray) w := by
    unfold execOp
    simp only [ho, resolve, Deferred.ofValue, Act.eval, invoke, Sem.run_bind, Sem.run_pure, Result.andThen_ok]
    simpa using h5
  refine wpList_plain hg fun K hK => ?_
  unfold Oper.wp
  rw [hx]
  refine h4.mono fun _ w' ⟨v, F', he, hE, hob⟩ => ?_
  subst he
  obtain ⟨ρ', h6⟩ := hr.newObF (ob := .row ee size els) (v := v) (Obs.fresh_spec hid) hdn' hE (obOk_base hob hr.hB (by simp)) (fun g hg => (hob.blk_lt hg).1) hfx
  have := k _ _ ⟨F', ρ', h6⟩
  rw [← ht] at this
  exact hK _ _ this
/-- Rows are data from here on; every slot and every cell as before. -/
theorem R0.freeze0 {F : Nat → Prop} {ρ : Nat → Value} {a : Act} {w : World} (h : R0 cx F ρ e σ a w) {id ee size : Nat} {els : List (List D)} (hm : (id, Ob.row ee size els) ∈ σ) :
    ∃ F', R0 cx F' ρ e (Obs.del id σ) a w ∧ Rep F' w (ρ id) (.sl els) := by
  have hF2 : ∀ b, (F b ∨ blk (ρ id) = some b) → b < w.heap.size := fun b hb => by
    rcases hb with hb | hb
    · exact h.lt b hb
    · exact ((h.obs.ok _ hm).blk_lt hb).2
  refine ⟨fun b => F b ∨ blk (ρ id) = some b, ⟨h.size, h.defers, hF2, fun b hb => .inl (h.base b hb), fun b hb => ?_, h.below, h.hB, fun u => ?_, ?_, h.up, fun p hp => h.kown p (Obs.mem_del hp).1, h.fixed⟩, h.rep_row hm (fun b hb => .inl hb) (fun g hg => .inr hg)⟩
  · rcases hb with hb | hb
    · exact h.new b hb
    · exact .inr (h.kown _ hm b hb)
  · exact RepS.turn (row := none) (h.env u) h.lt (fun g hg => by simp at hg) ⟨rfl, rfl, rfl, Nat.le_refl _, fun _ _ _ => rfl⟩ (fun b hb => .inl hb)
  · refine ⟨fun p hp => ?_, fun p hp q hq => h.obs.apart p (Obs.mem_del hp).1 q (Obs.mem_del hq).1, fun p hp q hq => h.obs.uniq p (Obs.mem_del hp).1 q (Obs.mem_del hq).1⟩
    obtain ⟨h1, h2⟩ := Obs.mem_del hp
    have h3 := h.obs.ok p h1
    have hne : ∀ g, blk (ρ p.1) = some g → blk (ρ id) ≠ some g := fun g hg => h.obs.apart p h1 _ hm h2 g hg
    exact h3.more h.lt (fun b hb => .inl hb) (fun g hg hf => by
      rcases hf with hf | hf
      · exact h3.nF hg hf
      · exact hne g hg hf)
theorem R0.freezeIn {F : Nat → Prop} {ρ : Nat → Value} {a : Act} {w : World} (h : R0 cx F ρ e σ a w) {c off id ee size : Nat} {ss : List S} {els : List (List D)} (hc : (c, Ob.cells ss) ∈ Obs.del id σ) (hs : ss[off]? = some (.own id)) (hm : (id, Ob.row ee size els) ∈ σ) :
    ∃ F', R0 cx F' ρ e (Obs.upd c (.cells (ss.set off (.d (.sl els)))) (Obs.del id σ)) a w := by
  obtain ⟨F', h1, h2⟩ := h.freeze0 hm
  exact ⟨F', h1.recell hc hs fun x hx => by cases hx; exact .d h2⟩
theorem AWP.freezeIn {cd : Code} (c off : Nat) {id ee size : Nat} {ss : List S} {els : List (List D)} (hs : ss[off]? = some (.own id)) (hc : (c, Ob.cells ss) ∈ Obs.del id σ) (hm : (id, Ob.row ee size els) ∈ σ)
    (k : AWP cx cd e (Obs.upd c (.cells (ss.set off (.d (.sl els)))) (Obs.del id σ)) Q) : AWP cx cd e σ Q := fun a w ⟨_, ρ, hr⟩ => by
  obtain ⟨F', h⟩ := hr.freezeIn hc hs hm
  exact k a w ⟨F', ρ, h⟩
end

theorem AOps.le {cx : Cx} {ops : Array Oper} {rest : List Oper} {e : Env} {σ : Obs} {Q : Post} (t : Nat) {s' : S} {s : S} (ht : e t = s) (h : SLe s s') (k : AOps cx ops rest (e.put (some t) s') σ Q) : AOps cx ops rest e σ Q := fun a w ⟨F, ρ, hr⟩ =>
  k a w ⟨F, ρ, hr.size, hr.defers, hr.lt, hr.base, hr.new, hr.below, hr.hB, fun u => by
    by_cases hu : u = t
    · subst hu
      rw [Env.put_same]
      have := hr.env u
      rw [ht] at this
      exact h F ρ w _ this
    · rw [Env.put_other _ _ _ _ hu]
      exact hr.env u, hr.obs, hr.up, hr.kown, hr.fixed⟩

section
variable {P : Program} {B : Nat} {ops : Array Oper} {o : Oper} {e : Env} {σ : Obs}
end

/-! ## Contracts -/
def RetO (t ee size : Nat) (els : List (List D)) : Post := fun ex e σ => match ex with
  | .ret => ∃ id, e t = .own id ∧ (id, Ob.row ee size els) ∈ σ
  | .normal => ∃ id, e t = .own id ∧ (id, Ob.row ee size els) ∈ σ
  | _ => False
theorem ocall_of {P : Program} {f : FuncId} {fn : Func} {c : Code} {n ee size : Nat} {ds : List D} {els : List (List D)} (hf : P.funcs[f]? = some fn) (hb : fn.body = some c) (hn : (fn.name == "runtime.NumGoroutine") = false) (hN : fn.ntmps = n)
    (t : Nat) (hr : fn.results = #[.tmp t]) (hle' : Nat.ble ds.length n = true) (h : ∀ B w0 F0 fr, AWP ⟨P, n, B, w0, F0, fr, fun _ => false, fun _ => undef⟩ c (Env.args 0 ds) [] (RetO t ee size els)) : OCall P f ds ee size els := by
  have hle : ds.length ≤ n := Nat.le_of_ble_eq_true hle'
  refine ⟨Enters.of hf hn (by rw [hb]; rfl), fun F w vs hF hv => ?_⟩
  refine calls_of_wp hf hb ?_
  have hR : R ⟨P, n, w.heap.size, w, F, (fun b => w.heap.size ≤ b), fun _ => false, fun _ => undef⟩ (Env.args 0 ds) [] { tmps := vs.toArray ++ Array.replicate (fn.ntmps - vs.toArray.size) undef, defers := [] } w := by
    refine ⟨F, fun _ => undef, ?_, rfl, hF, fun b hb => hb, fun b hb => .inl hb, Kept.refl _ _, Nat.le_refl _, fun t => ?_, ⟨fun p hp => by simp at hp, fun p hp => by simp at hp, fun p hp => by simp at hp⟩, fun b hb => hb, fun p hp => by simp at hp, fun i hi => by simp at hi⟩
    · simp [hN, hv.1]; omega
    · by_cases ht : t < ds.length
      · have := Env.args_get ds 0 t ht
        rw [Nat.zero_add] at this
        rw [this]
        have hvt : t < vs.length := by rw [hv.1]; exact ht
        have : (vs.toArray ++ Array.replicate (fn.ntmps - vs.toArray.size) undef).getD t undef = vs[t] := by
          rw [Array.getD_eq_getD_getElem?, Array.getElem?_append_left (by simpa using hvt)]
          simp [hvt]
        rw [this]
        exact .d (hv.2 t hvt ht)
      · have := Env.args_out ds 0 t (by omega)
        rw [Nat.zero_add] at this
        rw [this]
        exact .d (.any _)
  refine wp_mono (h _ _ _ _ _ _ hR) ?_
  rintro ex a w' ⟨e', σ', hq, F', ρ', hr'⟩
  have hres : (results fn a.tmps).run P w' = .ok (a.tmps.getD t undef) w' := by
    have key : ∀ (ts : List Nat), (List.mapM (fun r => match r with | .tmp t => pure (a.tmps.getD t undef) | .cell b t => do loadVar t (← asAddr (a.tmps.getD b undef))) (ts.map ResultVar.tmp) : Sem (List Value)).run P w' = .ok (ts.map fun t => a.tmps.getD t undef) w' := by
      intro ts
      induction ts with
      | nil => rfl
      | cons t ts ih =>
        rw [List.map_cons, List.mapM_cons, Sem.run_bind]
        simp only [Sem.run_pure, Result.andThen_ok, Sem.run_bind, ih, List.map_cons]
    unfold results
    rw [hr, Sem.run_bind]
    have h2 : (Array.mapM (fun r => match r with | ResultVar.tmp t => pure (a.tmps.getD t undef) | ResultVar.cell b t => do loadVar t (← asAddr (a.tmps.getD b undef))) (([t] : List Nat).map ResultVar.tmp).toArray : Sem (Array Value)).run P w' = .ok (([t] : List Nat).map fun t => a.tmps.getD t undef).toArray w' := by
      rw [List.mapM_toArray, Sem.run_map, key]
      rfl
    refine (congrArg (fun r => Result.andThen r _) h2).trans ?_
    simp only [Result.andThen_ok]
    rfl
  have hends : (∃ id, e' t = .own id ∧ (id, Ob.row ee size els) ∈ σ') → bodyPost P fn (fun r w' => ∃ v F', r = .returned v ∧ Ext F w F' w' ∧ ObOk w.heap.size F' (fun _ => v) w' 0 (.row ee size els)) .ret a w' := by
    rintro ⟨id, h1, h2⟩
    have h3 := hr'.env t
    rw [h1] at h3
    have h4 : a.tmps.getD t undef = ρ' id := by generalize a.tmps.getD t undef = v at h3; cases h3; rfl
    refine ⟨hr'.defers, _, hres, _, F', rfl, ⟨hr'.base, fun b hb => (hr'.new b hb).imp (fun x => x) fun x => x, hr'.lt, ⟨hr'.below.os, hr'.below.tape, hr'.below.output, hr'.below.size, fun k hk => hr'.below.block k hk (fun hf => by have h5 : w.heap.size ≤ k := hf; omega)⟩⟩, obOk_base (hr'.obs.ok _ h2) (Nat.le_refl _) h4.symm⟩
  cases ex with
  | ret => exact hends hq
  | normal => exact hends hq
  | exit id => exact hq.elim
  | goto l => exact hq.elim
  | panic c => exact hq.elim
  | outgrown => exact hq.elim
end Go.Proofs.YtieccphckobhjaaGreatDoor


namespace Go.Proofs.YtieccphckobhjaaGreatDoor
open Go.RowKit
set_option linter.unusedVariables false

/-- One operation, from worlds that keep what was there at the beginning. -/
def AOpK (cx : Cx) (ops : Array Oper) (o : Oper) (e : Env) (σ : Obs) (s : S) : Prop :=
  ∀ (F : Nat → Prop) (ρ : Nat → Value) (w : World) (a : Act), Kept cx.fr cx.w0 w → (∀ b, F b → b < w.heap.size) → (∀ t, t ∈ o.looksAt ops → RepS F ρ w (a.tmps.getD t undef) (e t)) → ObsOk cx.B F ρ w σ →
    o.wp cx.P a w (fun a' w' => ∃ v F', a' = a.put o.dst v ∧ RepS F' ρ w' v s ∧ Ext F w F' w') (fun _ _ _ => False)
def KRun (cx : Cx) (ops : Array Oper) (σ : Obs) : List Oper → Env → (Env → Prop) → Prop
  | [], e, Qe => Qe e
  | o :: l, e, Qe => DstOk cx.N o ∧ ((∃ s, GW ops o e true ∧ AOpK cx ops o e σ s ∧ KRun cx ops σ l (e.put o.dst s) Qe) ∨ (GW ops o e false ∧ KRun cx ops σ l (e.put o.dst (.d (.v undef))) Qe))

theorem KRun.nil {cx : Cx} {ops : Array Oper} {σ : Obs} {e : Env} {Qe : Env → Prop} (h : Qe e) : KRun cx ops σ [] e Qe := h
def KStep (cx : Cx) (ops : Array Oper) (σ : Obs) (o : Oper) (e : Env) (s : S) : Prop :=
  (GW ops o e true ∧ AOpK cx ops o e σ s) ∨ (GW ops o e false ∧ s = .d (.v undef))

def anyK (cx : Cx) (ops : Array Oper) (σ : Obs) (Qe : Env → Prop) : Nat → Array Bool → Env → Prop
  | 0, listed, e => Region.ready .any ops listed = [] ∧ Qe e
  | fuel + 1, listed, e => (Region.ready .any ops listed = [] → Qe e) ∧
      ∀ i ∈ Region.ready .any ops listed, ∀ o, ops[i]? = some o → ∃ s, KStep cx ops σ o e s ∧ anyK cx ops σ Qe fuel (listed.setIfInBounds i true) (e.put o.dst s)

end Go.Proofs.YtieccphckobhjaaGreatDoor


namespace Go.Proofs.YtieccphckobhjaaGreatDoor
open Go.RowKit
set_option linter.unusedVariables false

/-- What it is as data, while the own objects rest. -/
inductive Snap (σ : Obs) : S → D → Prop where
  | d (x : D) : Snap σ (.d x) x
  | any (s : S) : Snap σ s .any
  | le {s : S} {d d' : D} (h : Snap σ s d) (k : Le d d') : Snap σ s d'
  | row {id e size : Nat} {els : List (List D)} (h : (id, Ob.row e size els) ∈ σ) : Snap σ (.own id) (.sl els)
  | rowS {id e size : Nat} {els : List (List S)} {ds : List (List D)} (h : (id, Ob.rowS e size els) ∈ σ) (hl : els.length = ds.length) (hs : ∀ i (h1 : i < els.length) (h2 : i < ds.length), els[i].length = ds[i].length)
      (hr : ∀ i (h1 : i < els.length) (h2 : i < ds.length) j (h3 : j < els[i].length) (h4 : j < ds[i].length), Snap σ els[i][j] ds[i][j]) : Snap σ (.own id) (.sl ds)
  | val {id : Nat} {ss : List S} {ds : List D} (h : (id, Ob.val ss) ∈ σ) (hl : ss.length = ds.length) (hr : ∀ i (h1 : i < ss.length) (h2 : i < ds.length), Snap σ ss[i] ds[i]) : Snap σ (.own id) (.agg ds)
  | ptr {id off : Nat} {ss : List S} {ds : List D} (h : (id, Ob.cells ss) ∈ σ) (hl : off + ds.length ≤ ss.length) (hr : ∀ i (h1 : off + i < ss.length) (h2 : i < ds.length), Snap σ ss[off + i] ds[i]) : Snap σ (.ptr id off) (.fp ds)
  | ptrS {id e size k : Nat} {els : List (List S)} {ds : List D} (h : (id, Ob.rowS e size els) ∈ σ) (hk : k < els.length) (hl : els[k].length = ds.length) (hr : ∀ j (h1 : j < els[k].length) (h2 : j < ds.length), Snap σ els[k][j] ds[j]) : Snap σ (.ptr id (k * size)) (.fp ds)
  | clo {f : FuncId} {caps : List Cap} {ds : List D} (hl : caps.length = ds.length) (hr : ∀ i (h1 : i < caps.length) (h2 : i < ds.length), Snap σ caps[i].toS ds[i]) : Snap σ (.clo f caps) (.clo (.func f) ds)

theorem obS_row {B : Nat} {F : Nat → Prop} {ρ : Nat → Value} {w : World} {σ : Obs} (h : ObsOk B F ρ w σ) {id ee size : Nat} {els : List (List S)} (hm : (id, Ob.rowS ee size els) ∈ σ) (hne : 0 < els.length) :
    ∃ g cap, ∃ vs : Nat → Nat → Value, ρ id = .slice (some ⟨g, 0, none⟩) els.length cap ∧ blk (ρ id) = some g ∧ els.length ≤ cap ∧ cap ≤ 9223372036854775807 ∧ (∀ k j, k < els.length → j < size → w.cell? ⟨g, k * size + j, none⟩ = some (vs k j)) ∧
      (∀ k (hk : k < els.length), els[k].length = size) ∧ (∀ k (hk : k < els.length) j (hj : j < els[k].length), (vs k j).oneCell' = true ∧ RepS F ρ w (vs k j) els[k][j]) := by
  obtain ⟨xs, h1, h2, h3, _⟩ := h.ok _ hm
  dsimp only at h1
  rcases h1.2 with ⟨_, h4⟩ | ⟨g, cap, cur, h4, h5, h6, h7, h8, _⟩
  · omega
  · exact ⟨g, cap, xs, h4, by rw [h4]; rfl, h7, by unfold maxLen at h8; omega, fun k j hk hj => row_cell h1 h4 h6 hk hj, h2, h3⟩

theorem Snap.rep {B : Nat} {F : Nat → Prop} {ρ : Nat → Value} {w : World} {σ : Obs} (hσ : ObsOk B F ρ w σ) {s : S} {d : D} (h : Snap σ s d) : ∀ x, RepS F ρ w x s → Rep (endF F ρ σ) w x d := by
  induction h with
  | d y => exact fun x hx => (repS_d hx).mono (fun b hb => .inl hb) fun _ _ => rfl
  | any s => exact fun x _ => .any x
  | le h k ih => exact fun x hx => k _ _ _ (ih x hx)
  | row hm =>
    intro x hx
    cases hx
    exact ob_rep hσ hm
  | @rowS id e size els ds hm hl hs hr ih =>
    intro x hx
    cases hx
    by_cases hne : 0 < els.length
    · obtain ⟨g, cap, vs, h1, h2, h3, h4, h5, h6, h7⟩ := obS_row hσ hm hne
      rw [h1, hl]
      refine .sl ⟨g, 0, none⟩ cap size ds vs (by omega) h4 (fun _ => .inr ⟨_, hm, h2⟩) (fun i hi => by rw [← hs i (by omega) hi]; exact h6 i (by omega)) (fun i j hi hj => ?_) (fun i j hi hj => ?_) (fun i hi j hj => ?_)
      · rw [addr_add, Nat.zero_add]; exact h5 i j (by omega) hj
      · exact (h7 i (by omega) j (by rw [h6 i (by omega)]; exact hj)).1
      · exact ih i (by omega) hi j (by rw [hs i (by omega) hi]; exact hj) hj _ (h7 i (by omega) j (by rw [hs i (by omega) hi]; exact hj)).2
    · obtain ⟨xs, h1, _⟩ := hσ.ok _ hm
      dsimp only at h1
      have h0 : els.length = 0 := by omega
      have hds : ds = [] := List.eq_nil_of_length_eq_zero (by omega)
      subst hds
      rcases h1.2 with ⟨h4, _⟩ | ⟨g, cap, cur, h4, h5, h6, h7, h8, _⟩
      · rw [h4]; exact .nil
      · rw [h4, h0]
        exact .sl ⟨g, 0, none⟩ cap size [] (fun _ _ => undef) (by simp) (by unfold maxLen at h8; omega) (fun h => absurd h (by simp)) (fun i hi => absurd hi (by simp)) (fun i j hi => absurd hi (by simp)) (fun i j hi => absurd hi (by simp)) (fun i hi => absurd hi (by simp))
  | @val id ss ds hm hl hr ih =>
    intro x hx
    cases hx
    obtain ⟨cs, h1, h2, h3⟩ := hσ.ok _ hm
    dsimp only at h1
    rw [h1]
    exact .agg cs ds (by omega) (fun i hi => (h3 i hi (by omega)).1) (fun i hi hi2 => ih i (by omega) hi2 _ (h3 i hi (by omega)).2)
  | @ptr id off ss ds hm hl hr ih =>
    intro x hx
    obtain ⟨g, ty, cs, h1, h2, h3, h4, h5, h6⟩ := hσ.ok _ hm
    dsimp only at h1
    have hv := ptr_at hx (g := g) (by rw [h1]; rfl)
    rw [hv]
    refine .fp ⟨g, off, none⟩ ds (fun j => cs.getD (off + j) undef) (.inr ⟨_, hm, by rw [h1]; rfl⟩) (fun j hj => ?_) (fun j hj => ?_) (fun j hj => ?_)
    · have hjc : off + j < cs.length := by omega
      rw [addr_add, cell_of_row w g (off + j) cs.toArray ty (0, 0) h4]
      simp [hjc]
    · have hjc : off + j < cs.length := by omega
      have := (h6 (off + j) hjc (by omega)).1
      simpa [hjc] using this
    · have hjc : off + j < cs.length := by omega
      have := ih j (by omega) hj _ (h6 (off + j) hjc (by omega)).2
      simpa [hjc] using this
  | @ptrS id e size k els ds hm hk hl hr ih =>
    intro x hx
    obtain ⟨g, cap, vs, h1, h2, h3, h4, h5, h6, h7⟩ := obS_row hσ hm (by omega)
    have hv := ptr_at hx (g := g) h2
    rw [hv]
    refine .fp ⟨g, k * size, none⟩ ds (fun j => vs k j) (.inr ⟨_, hm, h2⟩) (fun j hj => ?_) (fun j hj => ?_) (fun j hj => ?_)
    · rw [addr_add]
      exact h5 k j hk (by rw [← h6 k hk]; omega)
    · exact (h7 k hk j (by omega)).1
    · exact ih j (by omega) hj _ (h7 k hk j (by omega)).2
  | @clo f caps ds hl hr ih =>
    intro x hx
    cases hx with
    | clo _ cs _ hcs =>
      have h1 := hcs.toS
      have h2 : cs.length = caps.length := by simpa using h1.1
      refine .clo (.func f) cs ds (by omega) fun i hi hi2 => ih i (by omega) hi2 _ ?_
      have h3 := h1.2 i hi (by simp; omega)
      rw [List.getElem_map] at h3
      exact h3

/-- Data that holds no memory. -/
inductive Plain : D → Prop where
  | v (x : Value) : Plain (.v x)
  | any : Plain .any
  | agg (ds : List D) (h : ∀ d ∈ ds, Plain d) : Plain (.agg ds)
  | tup (ds : List D) (h : ∀ d ∈ ds, Plain d) : Plain (.tup ds)
theorem Plain.rep {d : D} (h : Plain d) {F F' : Nat → Prop} {w w' : World} : ∀ x, Rep F w x d → Rep F' w' x d := by
  induction h with
  | v y => intro x hx; cases hx; exact .v _
  | any => exact fun x _ => .any x
  | agg ds h ih =>
    intro x hx
    cases hx with
    | agg cs _ hl hone hr => exact .agg cs ds hl hone fun i h1 h2 => ih _ (List.getElem_mem h2) _ (hr i h1 h2)
  | tup ds h ih =>
    intro x hx
    cases hx with
    | tup cs _ hl hr => exact .tup cs ds hl fun i h1 h2 => ih _ (List.getElem_mem h2) _ (hr i h1 h2)

def SnapArgs (e : Env) (σ : Obs) : List Operand → List D → Prop
  | [], [] => True
  | x :: xs, d :: ds => Snap σ (e.ev x) d ∧ SnapArgs e σ xs ds
  | _, _ => False
theorem SnapArgs.nil {e : Env} {σ : Obs} : SnapArgs e σ [] [] := trivial
theorem SnapArgs.cons {e : Env} {σ : Obs} {x : Operand} {d : D} {xs : List Operand} {ds : List D} {s : S} (hx : e.ev x = s) (h : Snap σ s d) (k : SnapArgs e σ xs ds) : SnapArgs e σ (x :: xs) (d :: ds) := ⟨hx ▸ h, k⟩
theorem SnapArgs.rep {B : Nat} {e : Env} {σ : Obs} {F : Nat → Prop} {ρ : Nat → Value} {w : World} {a : Act} (h : ObsOk B F ρ w σ) : ∀ {xs : List Operand} {ds : List D}, SnapArgs e σ xs ds → (∀ x ∈ xs, RepS F ρ w (a.eval x) (e.ev x)) → RepL (endF F ρ σ) w (xs.map a.eval) ds
  | [], [], _, _ => RepL.nil
  | x :: xs, d :: ds, hd, ha => RepL.cons (hd.1.rep h _ (ha x (by simp))) (SnapArgs.rep h hd.2 fun y hy => ha y (List.mem_cons_of_mem _ hy))
  | [], _ :: _, h, _ => h.elim
  | _ :: _, [], h, _ => h.elim
section
variable {P : Program} {B : Nat} {ops : Array Oper} {o : Oper} {e : Env} {σ : Obs}
/-- What of it is data. -/
def S.weak : S → D
  | .d x => x
  | _ => .any
def Ob.weak : Ob → Ob
  | .rowS e size els => .row e size (els.map fun ss => ss.map S.weak)
  | o => o
def Obs.weak : Obs → Obs
  | [] => []
  | p :: l => (p.1, p.2.weak) :: Obs.weak l
end
section
variable {cx : Cx} {ops : Array Oper} {o : Oper} {rest : List Oper} {e : Env} {σ : Obs} {Q : Post}
theorem AllIn.of {σ : Obs} : ∀ {l : Obs}, (∀ p ∈ l, p ∈ σ) → AllIn σ l
  | [], _ => trivial
  | x :: l, h => ⟨h x (by simp), AllIn.of fun p hp => h p (List.mem_cons_of_mem _ hp)⟩
end
end Go.Proofs.YtieccphckobhjaaGreatDoor


namespace Go.Proofs.YtieccphckobhjaaGreatDoor
open Go.RowKit
set_option linter.unusedVariables false

/-- One cell's worth. -/
def OneS (σ : Obs) (s : S) : Prop := (∃ x : D, s = .d x ∧ x.one = true ∧ x.parts = [x]) ∨ ∃ i ee size els, s = .own i ∧ (i, Ob.row ee size els) ∈ σ
theorem OneS.d {σ : Obs} {x : D} (h1 : x.one = true) (h2 : x.parts = [x]) : OneS σ (.d x) := .inl ⟨x, rfl, h1, h2⟩
theorem OneS.own {σ : Obs} {i ee size : Nat} {els : List (List D)} (h : (i, Ob.row ee size els) ∈ σ) : OneS σ (.own i) := .inr ⟨i, ee, size, els, rfl, h⟩
theorem OneS.cell {σ : Obs} {s : S} (h : OneS σ s) {B : Nat} {F : Nat → Prop} {ρ : Nat → Value} {w : World} (hσ : ObsOk B F ρ w σ) {u : Value} (hu : RepS F ρ w u s) : ∃ c, u.cells = #[c] ∧ c.oneCell' = true ∧ RepS F ρ w c s := by
  rcases h with ⟨x, rfl, h1, h2⟩ | ⟨i, ee, size, els, rfl, hm⟩
  · obtain ⟨h3, h4⟩ := parts_rep (repS_d hu) h1
    have hl := h3.1
    rw [h2] at hl
    have hs : u.cells.size = 1 := by simpa using hl
    obtain ⟨c, hc⟩ : ∃ c, u.cells = #[c] := by
      have : u.cells.toList.length = 1 := by simpa using hl
      obtain ⟨c, hc⟩ := List.length_eq_one_iff.1 this
      exact ⟨c, by rw [← Array.toList_inj]; exact hc⟩
    refine ⟨c, hc, h4 c (by rw [hc]; simp), .d ?_⟩
    have := h3.2 0 (by rw [hc]; simp) (by rw [h2]; simp)
    simp only [hc, h2] at this
    simpa using this
  · obtain ⟨xs, hown, _⟩ := hσ.ok _ hm
    dsimp only at hown
    have hv : u = ρ i := by cases hu; rfl
    refine ⟨ρ i, ?_, ?_, .own i⟩
    · rw [hv]; rcases hown.2 with ⟨h3, _⟩ | ⟨g', cap, cur, h3, _⟩ <;> rw [h3] <;> rfl
    · rcases hown.2 with ⟨h3, _⟩ | ⟨g', cap, cur, h3, _⟩ <;> rw [h3] <;> rfl
section
variable {cx : Cx} {ops : Array Oper} {o : Oper} {rest : List Oper} {e : Env} {σ : Obs} {Q : Post}
end
/-! A family of own rows: the numbers b + k, b + k + 1, .. -/
def fam (e size : Nat) : Nat → List (List (List D)) → Obs
  | _, [] => []
  | b, x :: l => (b, .row e size x) :: fam e size (b + 1) l
end Go.Proofs.YtieccphckobhjaaGreatDoor


namespace Go.Proofs.YtieccphckobhjaaGreatDoor
open Go.RowKit Go.Shelf
set_option linter.unusedVariables false

/-- What Insert does with an own row. -/
structure InsEnd (B : Nat) (e : TypeId) (w : World) (v : Value) (n : Nat) (ys : List Value) (v' : Value) (w' : World) : Prop where
  own : w'.ownsRow B e 1 v' n ys
  turn : Turn w w' (blk v)
  new : ∀ g, blk v' = some g → blk v = some g ∨ w.heap.size ≤ g

end Go.Proofs.YtieccphckobhjaaGreatDoor


namespace Go.Proofs.YtieccphckobhjaaGreatDoor
open Go.RowKit
set_option linter.unusedVariables false

/-- From k on each one waits for all before it but for the first b. -/
def Region.chain1B (ops : Array Oper) (b k : Nat) : Bool := Region.downB ops && Nat.ble k ops.size && Nat.ble b k && (List.range (ops.size - 1)).all fun j =>
  Nat.blt j b || (List.range ops.size).any fun m => Nat.blt j m && (Nat.ble m k || Nat.ble m (j + 1)) && Region.edge ops m j
structure Chain1 (ops : Array Oper) (b k : Nat) : Prop where
  down : Region.downB ops = true
  le : k ≤ ops.size
  bk : b ≤ k
  next : ∀ j, b ≤ j → j < ops.size - 1 → ∃ m, j < m ∧ (m ≤ k ∨ m ≤ j + 1) ∧ Region.edge ops m j = true
theorem Chain1.of {ops : Array Oper} {b k : Nat} (h : Region.chain1B ops b k = true) : Chain1 ops b k := by
  unfold Region.chain1B at h
  simp only [Bool.and_eq_true] at h
  obtain ⟨⟨⟨h1, h2⟩, h5⟩, h3⟩ := h
  refine ⟨h1, Nat.le_of_ble_eq_true h2, Nat.le_of_ble_eq_true h5, fun j hb hj => ?_⟩
  have h4 := List.all_eq_true.1 h3 j (List.mem_range.2 hj)
  rw [Bool.or_eq_true] at h4
  rcases h4 with h4 | h4
  · rw [Nat.blt_eq] at h4; omega
  · obtain ⟨m, _, hm⟩ := List.any_eq_true.1 h4
    simp only [Bool.and_eq_true, Bool.or_eq_true, Nat.blt_eq] at hm
    exact ⟨m, hm.1.1, hm.1.2.imp Nat.le_of_ble_eq_true Nat.le_of_ble_eq_true, hm.2⟩
section
variable {P : Program} {ops : Array Oper} {Q Q0 : Exit → Act → World → Prop} {b k : Nat}
end

def notSelect (o : Oper) : Bool := match o.op with | .select _ _ => false | _ => true
end Go.Proofs.YtieccphckobhjaaGreatDoor


namespace Go.Proofs.YtieccphckobhjaaGreatDoor
open Go.RowKit Go.Shelf
set_option linter.unusedVariables false

def intC (n : Int) : List D := [.v (.int .i64 n)]
section
variable {cx : Cx} {ops : Array Oper} {o : Oper} {rest : List Oper} {e : Env} {σ : Obs} {Q : Post}
end
section
variable {cx : Cx} {ops : Array Oper} {o : Oper} {rest : List Oper} {e : Env} {σ : Obs} {Q : Post}
end
def apartB (ops : Array Oper) (o0 : Oper) : Bool := (List.range ops.size).all fun j => Nat.beq j 0 || Region.edge ops j 0 || ((ops[j]?).map fun oj => o0.apart ops oj).getD true
def dstB (Φ : List Fr) (l : List Oper) : Bool := Φ.all fun f => (List.range l.length).all fun i => (List.range l.length).all fun j => Nat.beq i j || ((l[i]?).map fun o => neDst o f.dst).getD true || ((l[j]?).map fun o => neDst o f.dst).getD true
def openB (l : List Oper) (k2 k : Nat) (o0 : Oper) : Bool := Nat.blt 0 k2 && Nat.ble k2 k && Region.chainB l.toArray k && Region.chain1B (l.take k).toArray 1 k2 && (l.take k).all notSelect && apartB (l.take k).toArray o0 && (Array.all o0.after fun e => !(Region.binds .any e)) && Region.lexFrom .any (l.take k2).toArray (k2 - 1) 1 ((Array.replicate k2 false).setIfInBounds 0 true)
end Go.Proofs.YtieccphckobhjaaGreatDoor


namespace Go.Proofs.YtieccphckobhjaaGreatDoor
open Go.RowKit
set_option linter.unusedVariables false

def OneC (σ : Obs) (s : S) : Prop := OneS σ s ∨ ∃ id off, s = .ptr id off
theorem OneC.cell {σ : Obs} {s : S} (h : OneC σ s) {B : Nat} {F : Nat → Prop} {ρ : Nat → Value} {w : World} (hσ : ObsOk B F ρ w σ) {u : Value} (hu : RepS F ρ w u s) : ∃ c, u.cells = #[c] ∧ c.oneCell' = true ∧ RepS F ρ w c s := by
  rcases h with h | ⟨id, off, rfl⟩
  · exact h.cell hσ hu
  · cases hu with
    | ptr _ _ g hg => exact ⟨_, rfl, rfl, .ptr id off g hg⟩
section
variable {cx : Cx} {ops : Array Oper} {o : Oper} {rest : List Oper} {e : Env} {σ : Obs} {Q : Post}
end
/-! One object takes another's place. -/
def S.ren (i j : Nat) : S → S
  | .own k => match Nat.beq k i with | true => .own j | false => match Nat.beq k j with | true => .d .any | false => .own k
  | .ptr k off => match Nat.beq k i with | true => .ptr j off | false => match Nat.beq k j with | true => .d .any | false => .ptr k off
  | .d x => .d x
  | .clo f caps => .d .any
def Ob.ren (i j : Nat) : Ob → Ob
  | .row e size els => .row e size els
  | .cells ss => .cells (ss.map (S.ren i j))
  | .map M => .map M
  | .rowS e size els => .rowS e size (els.map fun ss => ss.map (S.ren i j))
  | .bts l => .bts l
  | .val ss => .val (ss.map (S.ren i j))
section
variable {cx : Cx} {ops : Array Oper} {rest : List Oper} {e : Env} {σ : Obs} {Q : Post}
end
end Go.Proofs.YtieccphckobhjaaGreatDoor
