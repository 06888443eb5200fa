/- Abstract values: what a value reads as in frozen memory; calls, operations and regions over them. No statement of the seat. -/
import Derived.Test.YtajghehicmlajaaDoorK3
import Derived.Still
namespace Go.Proofs.YtajghehicmlajaaDoor
open Go.RowKit

/-- What a value reads as: exactly this value; anything; a struct by its cells; a tuple; a slice by its elements' cells; a pointer to frozen cells; a closure with what it captured. -/
inductive D where
  | v (x : Value)
  | any
  | agg (ds : List D)
  | tup (ds : List D)
  | sl (els : List (List D))
  | fp (ds : List D)
  | clo (fn : Fn) (caps : List D)

/-- The value reads so in the world; its blocks are among F's. -/
inductive Rep (F : Nat → Prop) (w : World) : Value → D → Prop where
  | v (x : Value) : Rep F w x (.v x)
  | any (x : Value) : Rep F w x .any
  | agg (cs : List Value) (ds : List D) (hl : cs.length = ds.length) (hone : ∀ i (h1 : i < cs.length), cs[i].oneCell' = true) (h : ∀ i (h1 : i < cs.length) (h2 : i < ds.length), Rep F w cs[i] ds[i]) : Rep F w (.agg cs.toArray) (.agg ds)
  | tup (cs : List Value) (ds : List D) (hl : cs.length = ds.length) (h : ∀ i (h1 : i < cs.length) (h2 : i < ds.length), Rep F w cs[i] ds[i]) : Rep F w (.tuple cs.toArray) (.tup ds)
  | nil : Rep F w (.slice none 0 0) (.sl [])
  | sl (ad : Addr) (cap size : Nat) (els : List (List D)) (vs : Nat → Nat → Value) (hc : els.length ≤ cap) (hm : cap ≤ 9223372036854775807) (hF : 0 < els.length → F ad.block)
      (hs : ∀ i (h : i < els.length), els[i].length = size)
      (hcell : ∀ i j, i < els.length → j < size → w.cell? (ad.add (i * size + j)) = some (vs i j))
      (hone : ∀ i j, i < els.length → j < size → (vs i j).oneCell' = true)
      (hrep : ∀ i (h : i < els.length) j (h' : j < els[i].length), Rep F w (vs i j) els[i][j]) : Rep F w (.slice (some ad) els.length cap) (.sl els)
  | fp (ad : Addr) (ds : List D) (vs : Nat → Value) (hF : F ad.block) (hcell : ∀ j, j < ds.length → w.cell? (ad.add j) = some (vs j))
      (hone : ∀ j, j < ds.length → (vs j).oneCell' = true) (hrep : ∀ j (h : j < ds.length), Rep F w (vs j) ds[j]) : Rep F w (.pointer (some ad)) (.fp ds)
  | clo (fn : Fn) (cs : List Value) (caps : List D) (hl : cs.length = caps.length) (h : ∀ i (h1 : i < cs.length) (h2 : i < caps.length), Rep F w cs[i] caps[i]) : Rep F w (.func fn #[] cs.toArray) (.clo fn caps)

theorem Rep.mono {F F' : Nat → Prop} {w w' : World} {x : Value} {d : D} (h : Rep F w x d) (hF : ∀ b, F b → F' b) (hw : ∀ b, F b → w'.heap[b]? = w.heap[b]?) : Rep F' w' x d := by
  induction h with
  | v x => exact .v x
  | any x => exact .any x
  | agg cs ds hl hone _ ih => exact .agg cs ds hl hone ih
  | tup cs ds hl _ ih => exact .tup cs ds hl ih
  | nil => exact .nil
  | sl ad cap size els vs hc hm hF' hs hcell hone _ ih =>
    refine .sl ad cap size els vs hc hm (fun h0 => hF _ (hF' h0)) hs (fun i j hi hj => ?_) hone ih
    rw [← hcell i j hi hj]
    exact World.cell?_of_block (by rw [addr_block]; exact hw _ (hF' (by omega)))
  | fp ad ds vs hF' hcell hone _ ih =>
    refine .fp ad ds vs (hF _ hF') (fun j hj => ?_) hone ih
    rw [← hcell j hj]
    exact World.cell?_of_block (by rw [addr_block]; exact hw _ hF')
  | clo fn cs caps hl _ ih => exact .clo fn cs caps hl ih

/-- From (F, w) to (F', w'): what was there stays, what F' has more is new. -/
structure Ext (F : Nat → Prop) (w : World) (F' : Nat → Prop) (w' : World) : Prop where
  up : ∀ b, F b → F' b
  new : ∀ b, F' b → F b ∨ w.heap.size ≤ b
  lt : ∀ b, F' b → b < w'.heap.size
  below : Below w.heap.size w w'

theorem Ext.refl {F : Nat → Prop} {w : World} (h : ∀ b, F b → b < w.heap.size) : Ext F w F w := ⟨fun _ h => h, fun _ h => .inl h, h, Below.refl _ _⟩
theorem Ext.trans {F F' F'' : Nat → Prop} {w w' w'' : World} (h : Ext F w F' w') (k : Ext F' w' F'' w'') : Ext F w F'' w'' :=
  ⟨fun b hb => k.up b (h.up b hb), fun b hb => by
    rcases k.new b hb with h1 | h1
    · exact h.new b h1
    · exact .inr (Nat.le_trans h.below.size h1), k.lt, h.below.trans (k.below.mono h.below.size)⟩
theorem Ext.of_below {F : Nat → Prop} {w w' : World} (hF : ∀ b, F b → b < w.heap.size) (h : Below w.heap.size w w') : Ext F w F w' :=
  ⟨fun _ h => h, fun _ h => .inl h, fun b hb => Nat.lt_of_lt_of_le (hF b hb) h.size, h⟩

theorem Rep.ext {F F' : Nat → Prop} {w w' : World} {x : Value} {d : D} (h : Rep F w x d) (hF : ∀ b, F b → b < w.heap.size) (he : Ext F w F' w') : Rep F' w' x d :=
  h.mono he.up fun b hb => he.below.block b (hF b hb)

/-- What a slot holds: frozen data; an own row; a pointer into an own block of cells. -/
inductive Cap where
  | p (id off : Nat)
  | d (x : D)
inductive S where
  | d (x : D)
  | own (id : Nat)
  | ptr (id off : Nat)
  | clo (f : FuncId) (caps : List Cap)

def blk : Value → Option Nat
  | .slice (some a) _ _ => some a.block
  | .pointer (some a) => some a.block
  | .map (some b) => some b
  | _ => none

/-- What a closure has captured: a pointer into an own block, or frozen data. -/
inductive RepC (F : Nat → Prop) (ρ : Nat → Value) (w : World) : Value → Cap → Prop where
  | p (id off g : Nat) (h : blk (ρ id) = some g) : RepC F ρ w (.pointer (some ⟨g, off, none⟩)) (.p id off)
  | d {x : Value} {y : D} (h : Rep F w x y) : RepC F ρ w x (.d y)
def RepCL (F : Nat → Prop) (ρ : Nat → Value) (w : World) : List Value → List Cap → Prop
  | [], [] => True
  | x :: xs, c :: cs => RepC F ρ w x c ∧ RepCL F ρ w xs cs
  | _, _ => False
def Cap.anyP (c : Nat → Bool) : List Cap → Bool
  | [] => false
  | .p i _ :: l => match c i with | true => true | false => Cap.anyP c l
  | .d _ :: l => Cap.anyP c l
theorem RepCL.to {F F' : Nat → Prop} {ρ ρ' : Nat → Value} {w w' : World} (c : Nat → Bool) (hd : ∀ x y, Rep F w x y → Rep F' w' x y) (hρ : ∀ i, c i = false → ρ' i = ρ i) : ∀ {cs : List Value} {caps : List Cap}, Cap.anyP c caps = false → RepCL F ρ w cs caps → RepCL F' ρ' w' cs caps
  | [], [], _, _ => trivial
  | x :: xs, .p i off :: cs, hc, h => by
    unfold Cap.anyP at hc
    cases hb : c i with
    | true => rw [hb] at hc; simp at hc
    | false =>
      rw [hb] at hc
      refine ⟨?_, RepCL.to c hd hρ hc h.2⟩
      have h1 := h.1
      cases h1 with
      | p _ _ g hg => exact .p i off g (by rw [hρ i hb]; exact hg)
  | x :: xs, .d y :: cs, hc, h => by
    unfold Cap.anyP at hc
    refine ⟨?_, RepCL.to c hd hρ hc h.2⟩
    have h1 := h.1
    cases h1 with
    | d h1 => exact .d (hd _ _ h1)
  | [], _ :: _, _, h => h.elim
  | _ :: _, [], _, h => h.elim
theorem Cap.anyP_none : ∀ (caps : List Cap), Cap.anyP (fun _ => false) caps = false
  | [] => rfl
  | .p _ _ :: l => Cap.anyP_none l
  | .d _ :: l => Cap.anyP_none l

inductive RepS (F : Nat → Prop) (ρ : Nat → Value) (w : World) : Value → S → Prop where
  | d {x : Value} {y : D} (h : Rep F w x y) : RepS F ρ w x (.d y)
  | own (id : Nat) : RepS F ρ w (ρ id) (.own id)
  | ptr (id off g : Nat) (h : blk (ρ id) = some g) : RepS F ρ w (.pointer (some ⟨g, off, none⟩)) (.ptr id off)
  | clo (f : FuncId) (cs : List Value) (caps : List Cap) (h : RepCL F ρ w cs caps) : RepS F ρ w (.func (.func f) #[] cs.toArray) (.clo f caps)

theorem RepS.ext {F F' : Nat → Prop} {ρ : Nat → Value} {w w' : World} {x : Value} {s : S} (h : RepS F ρ w x s) (hF : ∀ b, F b → b < w.heap.size) (he : Ext F w F' w') : RepS F' ρ w' x s := by
  cases h with
  | d h => exact .d (h.ext hF he)
  | own id => exact .own id
  | ptr id off g h => exact .ptr id off g h
  | clo f cs caps h => exact .clo f cs caps (RepCL.to (fun _ => false) (fun _ _ h => h.ext hF he) (fun _ _ => rfl) (Cap.anyP_none _) h)

/-- The call's own objects: a row of elements (a slice that is appended to or stored into), a block of cells (a boxed variable that is written). -/
inductive Ob where
  | row (e size : Nat) (els : List (List D))
  | cells (ss : List S)
  | map (M : List (Value × D))
  | rowS (e size : Nat) (els : List (List S))

abbrev Obs := List (Nat × Ob)

def ObOk (B : Nat) (F : Nat → Prop) (ρ : Nat → Value) (w : World) (id : Nat) : Ob → Prop
  | .row e size els => ∃ xs : Nat → Nat → Value, w.ownsRow B e size (ρ id) els.length (((List.range els.length).map fun i => (List.range size).map (xs i)).flatten) ∧ (∀ i (h : i < els.length), els[i].length = size) ∧
      (∀ i (h : i < els.length) j (h' : j < els[i].length), (xs i j).oneCell' = true ∧ Rep F w (xs i j) els[i][j]) ∧ (∀ g, blk (ρ id) = some g → ¬ F g)
  | .cells ss => ∃ g e, ∃ cs : List Value, ρ id = .pointer (some ⟨g, 0, none⟩) ∧ B ≤ g ∧ ¬ F g ∧ w.heap[g]? = some (.cells cs.toArray e (0, 0)) ∧ cs.length = ss.length ∧
      (∀ j (h : j < cs.length) (h' : j < ss.length), cs[j].oneCell' = true ∧ RepS F ρ w cs[j] ss[j])
  | .map M => ∃ b, ∃ es : Array MapEntry, ∃ clock, ρ id = .map (some b) ∧ B ≤ b ∧ ¬ F b ∧ w.heap[b]? = some (.map es clock) ∧ es.size = M.length ∧ (∀ i (h : i < es.size) (h' : i < M.length), es[i].key = M[i].1 ∧ Rep F w es[i].val M[i].2)
  | .rowS e size els => ∃ xs : Nat → Nat → Value, w.ownsRow B e size (ρ id) els.length (((List.range els.length).map fun i => (List.range size).map (xs i)).flatten) ∧ (∀ i (h : i < els.length), els[i].length = size) ∧
      (∀ i (h : i < els.length) j (h' : j < els[i].length), (xs i j).oneCell' = true ∧ RepS F ρ w (xs i j) els[i][j]) ∧ (∀ g, blk (ρ id) = some g → ¬ F g)

/-- All own objects; no two of them in one block. -/
structure ObsOk (B : Nat) (F : Nat → Prop) (ρ : Nat → Value) (w : World) (σ : Obs) : Prop where
  ok : ∀ p ∈ σ, ObOk B F ρ w p.1 p.2
  apart : ∀ p ∈ σ, ∀ q ∈ σ, p.1 ≠ q.1 → ∀ g, blk (ρ p.1) = some g → blk (ρ q.1) ≠ some g
  uniq : ∀ p ∈ σ, ∀ q ∈ σ, p.1 = q.1 → p = q

theorem ownsRow_below {w w' : World} {B e size n : Nat} {v : Value} {xs : List Value} (h : w.ownsRow B e size v n xs) (hb : Below w.heap.size w w') : w'.ownsRow B e size v n xs := owns_below h hb

theorem blk_lt_row {w : World} {B e size n : Nat} {v : Value} {xs : List Value} (h : w.ownsRow B e size v n xs) {g : Nat} (hg : blk v = some g) : B ≤ g ∧ g < w.heap.size := by
  rcases h.2 with ⟨rfl, _⟩ | ⟨g', cap, cur, rfl, h1, h2, _⟩
  · simp [blk] at hg
  · simp [blk] at hg
    subst hg
    exact ⟨h1, (Array.getElem?_eq_some_iff.1 h2).1⟩

theorem ObOk.blk_lt {B : Nat} {F : Nat → Prop} {ρ : Nat → Value} {w : World} {id : Nat} {o : Ob} (h : ObOk B F ρ w id o) {g : Nat} (hg : blk (ρ id) = some g) : B ≤ g ∧ g < w.heap.size := by
  cases o with
  | row e size els => obtain ⟨xs, h1, _⟩ := h; exact blk_lt_row h1 hg
  | cells ss =>
    obtain ⟨g', e, cs, h1, h2, _, h3, _⟩ := h
    rw [h1] at hg
    simp [blk] at hg
    subst hg
    exact ⟨h2, (Array.getElem?_eq_some_iff.1 h3).1⟩
  | map M =>
    obtain ⟨b, es, cl, h1, h2, _, h3, _⟩ := h
    rw [h1] at hg
    simp [blk] at hg
    subst hg
    exact ⟨h2, (Array.getElem?_eq_some_iff.1 h3).1⟩
  | rowS e size els => obtain ⟨xs, h1, _⟩ := h; exact blk_lt_row h1 hg

theorem ObOk.nF {B : Nat} {F : Nat → Prop} {ρ : Nat → Value} {w : World} {id : Nat} {o : Ob} (h : ObOk B F ρ w id o) {g : Nat} (hg : blk (ρ id) = some g) : ¬ F g := by
  cases o with
  | row e size els => obtain ⟨xs, _, _, _, h4⟩ := h; exact h4 g hg
  | cells ss =>
    obtain ⟨g', e, cs, h1, _, h2, _⟩ := h
    rw [h1] at hg
    simp [blk] at hg
    subst hg
    exact h2
  | map M =>
    obtain ⟨b, es, cl, h1, _, h2, _⟩ := h
    rw [h1] at hg
    simp [blk] at hg
    subst hg
    exact h2
  | rowS e size els => obtain ⟨xs, _, _, _, h4⟩ := h; exact h4 g hg

theorem ObOk.ext {B : Nat} {F F' : Nat → Prop} {ρ : Nat → Value} {w w' : World} {id : Nat} {o : Ob} (h : ObOk B F ρ w id o) (hF : ∀ b, F b → b < w.heap.size) (he : Ext F w F' w') : ObOk B F' ρ w' id o := by
  cases o with
  | row e size els =>
    have h0 := h
    obtain ⟨xs, h1, h2, h3, h4⟩ := h
    refine ⟨xs, ownsRow_below h1 he.below, h2, fun i hi j hj => ⟨(h3 i hi j hj).1, (h3 i hi j hj).2.ext hF he⟩, fun g hg hf => ?_⟩
    rcases he.new g hf with h5 | h5
    · exact h4 g hg h5
    · have := (blk_lt_row h1 hg).2; omega
  | cells ss =>
    obtain ⟨g, e, cs, h1, h2, h3, h4, h5, h6⟩ := h
    have hg := (Array.getElem?_eq_some_iff.1 h4).1
    refine ⟨g, e, cs, h1, h2, fun hf => ?_, by rw [he.below.block g hg]; exact h4, h5, fun j hj hj' => ⟨(h6 j hj hj').1, (h6 j hj hj').2.ext hF he⟩⟩
    rcases he.new g hf with h7 | h7
    · exact h3 h7
    · omega
  | map M =>
    obtain ⟨b, es, cl, h1, h2, h3, h4, h5, h6⟩ := h
    have hg := (Array.getElem?_eq_some_iff.1 h4).1
    refine ⟨b, es, cl, h1, h2, fun hf => ?_, by rw [he.below.block b hg]; exact h4, h5, fun i hi hi' => ⟨(h6 i hi hi').1, (h6 i hi hi').2.ext hF he⟩⟩
    rcases he.new b hf with h7 | h7
    · exact h3 h7
    · omega
  | rowS e size els =>
    obtain ⟨xs, h1, h2, h3, h4⟩ := h
    refine ⟨xs, ownsRow_below h1 he.below, h2, fun i hi j hj => ⟨(h3 i hi j hj).1, (h3 i hi j hj).2.ext hF he⟩, fun g hg hf => ?_⟩
    rcases he.new g hf with h5 | h5
    · exact h4 g hg h5
    · have := (blk_lt_row h1 hg).2; omega

theorem ObsOk.ext {B : Nat} {F F' : Nat → Prop} {ρ : Nat → Value} {w w' : World} {σ : Obs} (h : ObsOk B F ρ w σ) (hF : ∀ b, F b → b < w.heap.size) (he : Ext F w F' w') : ObsOk B F' ρ w' σ :=
  ⟨fun p hp => (h.ok p hp).ext hF he, h.apart, h.uniq⟩

/-- What the slots hold. -/
abbrev Env := Nat → S
def Env.put (e : Env) (dst : Option Nat) (s : S) : Env := fun u => match dst with | none => e u | some t => match Nat.beq u t with | true => s | false => e u
def Env.of : List (Nat × S) → Env
  | [], _ => .d .any
  | (t, s) :: l, u => match Nat.beq u t with | true => s | false => Env.of l u
def Env.ev (e : Env) : Operand → S
  | .tmp t => e t
  | .const x => .d (.v x)
  | .global g => .d (.v (.pointer (some ⟨g, 0, none⟩)))
  | .func f => .d (.v (.func (.func f) #[] #[]))

theorem Env.put_same (e : Env) (t : Nat) (s : S) : e.put (some t) s t = s := by simp [Env.put]
theorem Env.put_other (e : Env) (t u : Nat) (s : S) (h : u ≠ t) : e.put (some t) s u = e u := by
  have : Nat.beq u t = false := by rw [Bool.eq_false_iff]; exact fun hh => h (Nat.eq_of_beq_eq_true hh)
  simp [Env.put, this]
theorem Env.put_none (e : Env) (s : S) : e.put none s = e := rfl
theorem Env.put_comm (e : Env) (x y : Option Nat) (s s' : S) (h : ∀ d, x = some d → y ≠ some d) : (e.put x s).put y s' = (e.put y s').put x s := by
  cases x with
  | none => rfl
  | some t =>
    cases y with
    | none => rfl
    | some u =>
      have hne : u ≠ t := fun hh => h t rfl (by rw [hh])
      funext k
      by_cases h1 : k = t
      · subst h1
        rw [Env.put_same, Env.put_other _ _ _ _ (Ne.symm hne), Env.put_same]
      · rw [Env.put_other (e.put (some u) s') _ _ _ h1]
        by_cases h2 : k = u
        · subst h2; rw [Env.put_same, Env.put_same]
        · rw [Env.put_other _ _ _ _ h2, Env.put_other _ _ _ _ h2, Env.put_other _ _ _ _ h1]

/-- Where a walk stands: the program, how many slots, the heap's size and the world at the beginning, what was frozen then. -/
structure Cx where
  P : Program
  N : Nat
  B : Nat
  w0 : World
  F0 : Nat → Prop
  fr : Nat → Prop
  fixp : Nat → Bool
  ρ0 : Nat → Value
/-- May the object's value change? -/
def Cx.free (cx : Cx) (id : Nat) : Bool := !(cx.fixp id)
theorem Cx.free_ne {cx : Cx} {id : Nat} (h : cx.free id = true) : ∀ i, cx.fixp i = true → i ≠ id := fun i hi he => by
  unfold Cx.free at h
  rw [← he, hi] at h
  simp at h
/-- What was there stays, but for what may change. -/
structure Kept (fr : Nat → Prop) (w w' : World) : Prop where
  os : w'.os = w.os
  tape : w'.tape = w.tape
  output : w'.output = w.output
  size : w.heap.size ≤ w'.heap.size
  block : ∀ k, k < w.heap.size → ¬ fr k → w'.heap[k]? = w.heap[k]?
theorem Kept.refl (fr : Nat → Prop) (w : World) : Kept fr w w := ⟨rfl, rfl, rfl, Nat.le_refl _, fun _ _ _ => rfl⟩
theorem Kept.below {fr : Nat → Prop} {w w1 w2 : World} (h : Kept fr w w1) (k : Below w1.heap.size w1 w2) : Kept fr w w2 :=
  ⟨k.os.trans h.os, k.tape.trans h.tape, k.output.trans h.output, Nat.le_trans h.size k.size, fun b hb hf => by rw [k.block b (Nat.lt_of_lt_of_le hb h.size), h.block b hb hf]⟩

/-- The state of a call: slots and own objects as told. -/
structure R0 (cx : Cx) (F : Nat → Prop) (ρ : Nat → Value) (e : Env) (σ : Obs) (a : Act) (w : World) : Prop where
  size : a.tmps.size = cx.N
  defers : a.defers = []
  lt : ∀ b, F b → b < w.heap.size
  base : ∀ b, cx.F0 b → F b
  new : ∀ b, F b → cx.F0 b ∨ cx.fr b
  below : Kept cx.fr cx.w0 w
  hB : cx.B ≤ w.heap.size
  env : ∀ t, RepS F ρ w (a.tmps.getD t undef) (e t)
  obs : ObsOk cx.B F ρ w σ
  up : ∀ b, cx.w0.heap.size ≤ b → cx.fr b
  kown : ∀ p ∈ σ, ∀ g, blk (ρ p.1) = some g → cx.fr g
  fixed : ∀ i, cx.fixp i = true → ρ i = cx.ρ0 i
def R (cx : Cx) (e : Env) (σ : Obs) (a : Act) (w : World) : Prop := ∃ F ρ, R0 cx F ρ e σ a w

abbrev Post := Exit → Env → Obs → Prop
def lift (cx : Cx) (Q : Post) : Exit → Act → World → Prop := fun ex a w => ∃ e σ, Q ex e σ ∧ R cx e σ a w

/-- The code, from every such state, comes to its end as Q says. -/
def AWP (cx : Cx) (c : Code) (e : Env) (σ : Obs) (Q : Post) : Prop := ∀ a w, R cx e σ a w → c.wp cx.P (lift cx Q) a w
def AOps (cx : Cx) (ops : Array Oper) (rest : List Oper) (e : Env) (σ : Obs) (Q : Post) : Prop := ∀ a w, R cx e σ a w → wpList cx.P ops (lift cx Q) rest a w

/-- One operation that only reads what is told and makes at most new memory. -/
def AOp (P : Program) (B : Nat) (ops : Array Oper) (o : Oper) (e : Env) (σ : Obs) (s : S) : Prop :=
  ∀ (F : Nat → Prop) (ρ : Nat → Value) (w : World) (a : Act), (∀ b, F b → b < w.heap.size) → (∀ t, t ∈ o.looksAt ops → RepS F ρ w (a.tmps.getD t undef) (e t)) → ObsOk B F ρ w σ →
    o.wp P a w (fun a' w' => ∃ v F', a' = a.put o.dst v ∧ RepS F' ρ w' v s ∧ Ext F w F' w') (fun _ _ _ => False)

/-- Is the operation wanted (its guard)? -/
def GW (ops : Array Oper) (o : Oper) (e : Env) (b : Bool) : Prop :=
  match o.guard with
  | none => b = true
  | some (j, want) => ∃ t, (ops[j]?).bind (·.dst) = some t ∧ ((∃ c, e t = .d (.v (.bool c)) ∧ b = (c == want)) ∨ (e t = .d (.v undef) ∧ b = false))

theorem getD_of_get? {xs : Array Value} {t : Nat} : (xs.getD t undef) = (xs[t]?).getD undef := by simp [Array.getD_eq_getD_getElem?]

theorem GW.wanted {ops : Array Oper} {o : Oper} {e : Env} {b : Bool} (h : GW ops o e b) {F : Nat → Prop} {ρ : Nat → Value} {w : World} {a : Act}
    (ha : ∀ t, t ∈ o.looksAt ops → RepS F ρ w (a.tmps.getD t undef) (e t)) : Region.wanted o (yielded ops a.tmps) = b := by
  unfold GW at h
  unfold Region.wanted
  cases hg : o.guard with
  | none => simp [hg] at h; simp [h]
  | some p =>
    obtain ⟨j, want⟩ := p
    simp only [hg] at h
    obtain ⟨t, ht, h⟩ := h
    have hl : t ∈ o.looksAt ops := by unfold Oper.looksAt; rw [hg]; simp [ht]
    have hr := ha t hl
    unfold yielded
    simp only [ht, Option.bind_some]
    rcases h with ⟨c, hc, rfl⟩ | ⟨hc, rfl⟩
    · rw [hc] at hr
      generalize hx : a.tmps.getD t undef = x at hr
      cases hr with
      | d hr =>
        cases hr
        rw [getD_of_get?] at hx
        cases hy : a.tmps[t]? with
        | none => rw [hy] at hx; simp [undef] at hx
        | some y =>
          rw [hy] at hx; simp at hx; subst hx
          simp only []
          cases c <;> cases want <;> rfl
    · rw [hc] at hr
      generalize hx : a.tmps.getD t undef = x at hr
      cases hr with
      | d hr =>
        cases hr
        rw [getD_of_get?] at hx
        cases hy : a.tmps[t]? with
        | none => simp
        | some y => rw [hy] at hx; simp at hx; subst hx; simp [undef]

theorem put_getD_same {a : Act} {t : Nat} {v : Value} (h : t < a.tmps.size) : (a.put (some t) v).tmps.getD t undef = v := by
  simp [Act.put, Array.getD_eq_getD_getElem?, h]
theorem put_getD_other {a : Act} {t u : Nat} {v : Value} (h : u ≠ t) : (a.put (some t) v).tmps.getD u undef = a.tmps.getD u undef := by
  simp [Act.put, Array.getD_eq_getD_getElem?, Array.getElem?_setIfInBounds_ne (Ne.symm h)]
theorem put_size {a : Act} {dst : Option Nat} {v : Value} : (a.put dst v).tmps.size = a.tmps.size := by cases dst <;> simp [Act.put]
theorem put_defers {a : Act} {dst : Option Nat} {v : Value} : (a.put dst v).defers = a.defers := by cases dst <;> simp [Act.put]

theorem repS_undef {F : Nat → Prop} {ρ : Nat → Value} {w : World} : RepS F ρ w undef (.d (.v undef)) := .d (.v _)

/-- The slot written is there. -/
def DstOk (N : Nat) (o : Oper) : Prop := (match o.dst with | none => true | some t => Nat.blt t N) = true
theorem DstOk.lt {N : Nat} {o : Oper} {t : Nat} (h : DstOk N o) (ho : o.dst = some t) : t < N := by
  unfold DstOk at h
  rw [ho] at h
  simpa [Nat.blt_eq] using h

theorem R0.put {cx : Cx} {F F' : Nat → Prop} {ρ : Nat → Value} {e : Env} {σ : Obs} {a : Act} {w w' : World} {o : Oper} {v : Value} {s : S} (h : R0 cx F ρ e σ a w) (he : Ext F w F' w') (hs : RepS F' ρ w' v s) (hd : DstOk cx.N o) :
    R0 cx F' ρ (e.put o.dst s) σ (a.put o.dst v) w' where
  size := by rw [put_size]; exact h.size
  defers := by rw [put_defers]; exact h.defers
  lt := he.lt
  base := fun b hb => he.up b (h.base b hb)
  new := fun b hb => by
    rcases he.new b hb with h1 | h1
    · exact h.new b h1
    · exact .inr (h.up _ (Nat.le_trans h.below.size h1))
  below := h.below.below he.below
  hB := Nat.le_trans h.hB he.below.size
  env := fun t => by
    cases ho : o.dst with
    | none => rw [Env.put_none]; exact (h.env t).ext h.lt he
    | some u =>
      have hd' := hd.lt ho
      by_cases hu : t = u
      · subst hu
        rw [Env.put_same, put_getD_same (by rw [h.size]; exact hd')]
        exact hs
      · rw [Env.put_other _ _ _ _ hu, put_getD_other hu]
        exact (h.env t).ext h.lt he
  obs := h.obs.ext h.lt he
  up := h.up
  kown := h.kown
  fixed := h.fixed

theorem R0.drew {cx : Cx} {F : Nat → Prop} {ρ : Nat → Value} {e : Env} {σ : Obs} {a : Act} {w : World} (h : R0 cx F ρ e σ a w) : R0 cx F ρ e σ a { w with drawn := w.drawn + 1 } := by
  have he : Ext F w F w.drew := Ext.of_below h.lt (Below.refl _ _).drew
  have h0 := h.put (o := ⟨none, .ready 0, 0, "", #[], none⟩) he (v := undef) (s := .d (.v undef)) repS_undef rfl
  exact h0

/-! ## Straight regions -/
theorem wp_to {P : Program} {o : Oper} {a : Act} {w : World} {K K' : Act → World → Prop} {Q Q' : Exit → Act → World → Prop} (h : ∀ a w, K a w → K' a w) (hq : ∀ e a w, Q e a w → Q' e a w)
    (hh : o.wp P a w K Q) : o.wp P a w K' Q' := by
  unfold Oper.wp at *
  generalize (execOp a.eval o).run P w = r at *
  cases r with
  | ok n w' =>
    cases n <;> simp only [Oper.upon] at hh ⊢ <;>
      first
        | exact h _ _ hh
        | exact Calls.mono hh (fun e w'' he => by cases e <;> first | exact h _ _ he | exact hq _ _ _ he | exact he.imp fun _ => Exists.imp fun _ => hq _ _ _)
        | exact Rows.mono hh (fun _ _ he => h _ _ he)
  | halt x w' => cases x <;> simp only [Oper.upon] at hh ⊢ <;> first | exact hq _ _ _ hh | exact hh

theorem AOps.nil {cx : Cx} {ops : Array Oper} {e : Env} {σ : Obs} {Q : Post} (h : Q .normal e σ) : AOps cx ops [] e σ Q := fun _ _ hr => ⟨e, σ, h, hr⟩

theorem AOps.cons {cx : Cx} {ops : Array Oper} {o : Oper} {rest : List Oper} {e : Env} {σ : Obs} {Q : Post} {s : S} (hg : GW ops o e true) (hd : DstOk cx.N o) (h : AOp cx.P cx.B ops o e σ s)
    (k : AOps cx ops rest (e.put o.dst s) σ Q) : AOps cx ops (o :: rest) e σ Q := by
  intro a w ⟨F, ρ, hr⟩
  have hw := hg.wanted (fun t _ => hr.env t)
  unfold wpList
  rw [if_pos hw]
  refine .inl ?_
  have h1 := h F ρ w a hr.lt (fun t _ => hr.env t) hr.obs
  refine wp_to ?_ (fun _ _ _ => False.elim) h1
  rintro a' w' ⟨v, F', rfl, hs, he⟩
  exact k _ _ ⟨F', ρ, hr.put he hs hd⟩

/-- The slot written is told by its number. -/
theorem AOps.step {cx : Cx} {ops : Array Oper} {o : Oper} {rest : List Oper} {e : Env} {σ : Obs} {Q : Post} {s : S} {t : Nat} (hg : GW ops o e true) (ht : o.dst = some t) (hd : Nat.blt t cx.N = true) (h : AOp cx.P cx.B ops o e σ s)
    (k : AOps cx ops rest (e.put (some t) s) σ Q) : AOps cx ops (o :: rest) e σ Q :=
  .cons hg (by unfold DstOk; rw [ht]; exact hd) h (by rw [ht]; exact k)
theorem AOps.skip {cx : Cx} {ops : Array Oper} {o : Oper} {rest : List Oper} {e : Env} {σ : Obs} {Q : Post} (hg : GW ops o e false) (hd : DstOk cx.N o)
    (k : AOps cx ops rest (e.put o.dst (.d (.v undef))) σ Q) : AOps cx ops (o :: rest) e σ Q := by
  intro a w ⟨F, ρ, hr⟩
  have hw := hg.wanted (fun t _ => hr.env t)
  unfold wpList
  rw [if_neg (by rw [hw]; simp)]
  exact k _ _ ⟨F, ρ, hr.put (Ext.refl hr.lt) repS_undef hd⟩
theorem AOps.pass {cx : Cx} {ops : Array Oper} {o : Oper} {rest : List Oper} {e : Env} {σ : Obs} {Q : Post} {t : Nat} (hg : GW ops o e false) (ht : o.dst = some t) (hd : Nat.blt t cx.N = true)
    (k : AOps cx ops rest (e.put (some t) (.d (.v undef))) σ Q) : AOps cx ops (o :: rest) e σ Q :=
  .skip hg (by unfold DstOk; rw [ht]; exact hd) (by rw [ht]; exact k)
end Go.Proofs.YtajghehicmlajaaDoor
