/- Abstract values: own rows: adopting nil, append, make, load, store, freezing. No statement of the seat. -/
import Derived.Test.YtajghehicmlajaaDoorA5
namespace Go.Proofs.YtajghehicmlajaaDoor
open Go.RowKit
set_option linter.unusedVariables false

/-- Who refers to an object that has moved is forgotten. -/
def S.kill (id : Nat) : S → S
  | .own i => match Nat.beq i id with | true => .d .any | false => .own i
  | .ptr i off => match Nat.beq i id with | true => .d .any | false => .ptr i off
  | .d x => .d x
  | .clo f caps => match Cap.anyP (fun i => Nat.beq i id) caps with | true => .d .any | false => .clo f caps
def Env.kill (id : Nat) (e : Env) : Env := fun t => (e t).kill id
def Ob.kill (id : Nat) : Ob → Ob
  | .row e size els => .row e size els
  | .cells ss => .cells (ss.map (S.kill id))
  | .map M => .map M
  | .rowS e size els => .rowS e size (els.map fun ss => ss.map (S.kill id))
def Obs.kill (id : Nat) : Obs → Obs
  | [] => []
  | p :: l => (p.1, p.2.kill id) :: Obs.kill id l
/-- The object id is o now. -/
def Obs.upd (id : Nat) (o : Ob) : Obs → Obs
  | [] => []
  | p :: l => match Nat.beq p.1 id with | true => (id, o) :: Obs.upd id o l | false => p :: Obs.upd id o l
def Obs.del (id : Nat) : Obs → Obs
  | [] => []
  | p :: l => match Nat.beq p.1 id with | true => Obs.del id l | false => p :: Obs.del id l

theorem beq_true {a b : Nat} (h : Nat.beq a b = true) : a = b := Nat.eq_of_beq_eq_true h
theorem beq_false {a b : Nat} (h : Nat.beq a b = false) : a ≠ b := fun hh => by subst hh; simp at h

theorem RepS.kill {F : Nat → Prop} {ρ ρ' : Nat → Value} {w : World} {x : Value} {s : S} (id : Nat) (h : RepS F ρ w x s) (hρ : ∀ i, i ≠ id → ρ' i = ρ i) : RepS F ρ' w x (s.kill id) := by
  cases h with
  | d h => exact .d h
  | own i =>
    cases hb : Nat.beq i id with
    | true => simp only [S.kill, hb]; exact .d (.any _)
    | false => simp only [S.kill, hb]; rw [← hρ i (beq_false hb)]; exact .own i
  | ptr i off g h =>
    cases hb : Nat.beq i id with
    | true => simp only [S.kill, hb]; exact .d (.any _)
    | false => simp only [S.kill, hb]; exact .ptr i off g (by rw [hρ i (beq_false hb)]; exact h)
  | clo f cs caps h =>
    cases hb : Cap.anyP (fun i => Nat.beq i id) caps with
    | true => simp only [S.kill, hb]; exact .d (.any _)
    | false => simp only [S.kill, hb]; exact .clo f cs caps (h.to (fun i => Nat.beq i id) (fun _ _ h => h) (fun i hi => hρ i (beq_false hi)) hb)

theorem Obs.mem_kill {id : Nat} : ∀ {σ : Obs} {p : Nat × Ob}, p ∈ Obs.kill id σ → ∃ q ∈ σ, p = (q.1, q.2.kill id)
  | [], _, h => by cases h
  | x :: l, p, h => by
    unfold Obs.kill at h
    cases h with
    | head => exact ⟨x, by simp, rfl⟩
    | tail _ h => obtain ⟨q, hq, he⟩ := Obs.mem_kill h; exact ⟨q, List.mem_cons_of_mem _ hq, he⟩
theorem Obs.mem_upd {id : Nat} {o : Ob} : ∀ {σ : Obs} {p : Nat × Ob}, p ∈ Obs.upd id o σ → (p = (id, o) ∧ ∃ q ∈ σ, q.1 = id) ∨ (p ∈ σ ∧ p.1 ≠ id)
  | [], _, h => by cases h
  | x :: l, p, h => by
    unfold Obs.upd at h
    cases hb : Nat.beq x.1 id with
    | true =>
      rw [hb] at h
      cases h with
      | head => exact .inl ⟨rfl, x, by simp, beq_true hb⟩
      | tail _ h =>
        rcases Obs.mem_upd h with ⟨h1, q, h2, h3⟩ | ⟨h1, h2⟩
        · exact .inl ⟨h1, q, List.mem_cons_of_mem _ h2, h3⟩
        · exact .inr ⟨List.mem_cons_of_mem _ h1, h2⟩
    | false =>
      rw [hb] at h
      cases h with
      | head => exact .inr ⟨by simp, beq_false hb⟩
      | tail _ h =>
        rcases Obs.mem_upd h with ⟨h1, q, h2, h3⟩ | ⟨h1, h2⟩
        · exact .inl ⟨h1, q, List.mem_cons_of_mem _ h2, h3⟩
        · exact .inr ⟨List.mem_cons_of_mem _ h1, h2⟩
theorem Obs.mem_del {id : Nat} : ∀ {σ : Obs} {p : Nat × Ob}, p ∈ Obs.del id σ → p ∈ σ ∧ p.1 ≠ id
  | [], _, h => by cases h
  | x :: l, p, h => by
    unfold Obs.del at h
    cases hb : Nat.beq x.1 id with
    | true => rw [hb] at h; obtain ⟨h1, h2⟩ := Obs.mem_del h; exact ⟨List.mem_cons_of_mem _ h1, h2⟩
    | false =>
      rw [hb] at h
      cases h with
      | head => exact ⟨by simp, beq_false hb⟩
      | tail _ h => obtain ⟨h1, h2⟩ := Obs.mem_del h; exact ⟨List.mem_cons_of_mem _ h1, h2⟩

/-- From w to w' one own block may have turned, and new ones have come. -/
structure Turn (w w' : World) (row : Option Nat) : Prop where
  os : w'.os = w.os
  tape : w'.tape = w.tape
  output : w'.output = w.output
  size : w.heap.size ≤ w'.heap.size
  block : ∀ k, k < w.heap.size → some k ≠ row → w'.heap[k]? = w.heap[k]?
theorem Turn.below {B : Nat} {w w' : World} {row : Option Nat} (h : Turn w w' row) (hB : B ≤ w.heap.size) (hr : ∀ g, row = some g → B ≤ g) : Below B w w' :=
  ⟨h.os, h.tape, h.output, h.size, fun k hk => h.block k (by omega) (fun he => by have := hr k he.symm; omega)⟩

theorem RepS.turn {F F' : Nat → Prop} {ρ : Nat → Value} {w w' : World} {x : Value} {s : S} {row : Option Nat} (h : RepS F ρ w x s) (hF : ∀ b, F b → b < w.heap.size) (hr : ∀ g, row = some g → ¬ F g) (ht : Turn w w' row) (hu : ∀ b, F b → F' b) : RepS F' ρ w' x s := by
  cases h with
  | d h => exact .d (h.mono hu fun b hb => ht.block b (hF b hb) (fun he => hr b he.symm hb))
  | own i => exact .own i
  | ptr i off g h => exact .ptr i off g h
  | clo f cs caps h => exact .clo f cs caps (h.to (fun _ => false) (fun _ _ h => h.mono hu fun b hb => ht.block b (hF b hb) (fun he => hr b he.symm hb)) (fun _ _ => rfl) (Cap.anyP_none _))

theorem ownsRow_turn {w w' : World} {row : Option Nat} {B e size n : Nat} {v : Value} {xs : List Value} (h : w.ownsRow B e size v n xs) (ht : Turn w w' row) (hr : ∀ g, blk v = some g → row ≠ some g) : w'.ownsRow B e size v n xs := by
  refine ⟨h.1, ?_⟩
  rcases h.2 with h1 | ⟨g, cap, cur, h1, h2, h3, h4⟩
  · exact .inl h1
  · refine .inr ⟨g, cap, cur, h1, h2, ?_, h4⟩
    rw [ht.block g (Array.getElem?_eq_some_iff.1 h3).1 (fun he => hr g (by rw [h1]; rfl) he.symm)]
    exact h3

/-- An object other than the one that turned. -/
theorem ObOk.turn {B : Nat} {F F' : Nat → Prop} {ρ ρ' : Nat → Value} {w w' : World} {id i : Nat} {o : Ob} {row : Option Nat} (h : ObOk B F ρ w i o) (hi : i ≠ id) (hρ : ∀ j, j ≠ id → ρ' j = ρ j) (hF : ∀ b, F b → b < w.heap.size) (hrF : ∀ g, row = some g → ¬ F g) (ht : Turn w w' row)
    (hr : ∀ g, blk (ρ i) = some g → row ≠ some g) (hu : ∀ b, F b → F' b) (hn : ∀ b, F' b → F b ∨ w.heap.size ≤ b) : ObOk B F' ρ' w' i (o.kill id) := by
  cases o with
  | row e size els =>
    obtain ⟨xs, h1, h2, h3, h4⟩ := h
    refine ⟨xs, by rw [hρ i hi]; exact ownsRow_turn h1 ht hr, h2, fun k hk j hj => ⟨(h3 k hk j hj).1, (h3 k hk j hj).2.mono hu fun b hb => ht.block b (hF b hb) (fun he => hrF b he.symm hb)⟩, fun g hg hf => ?_⟩
    rw [hρ i hi] at hg
    rcases hn g hf with h5 | h5
    · exact h4 g hg h5
    · have := (blk_lt_row h1 hg).2; omega
  | cells ss =>
    obtain ⟨g, e, cs, h1, h2, h3, h4, h5, h6⟩ := h
    have hg := (Array.getElem?_eq_some_iff.1 h4).1
    refine ⟨g, e, cs, by rw [hρ i hi]; exact h1, h2, fun hf => ?_, by rw [ht.block g hg (fun he => hr g (by rw [h1]; rfl) he.symm)]; exact h4, by simp [h5], fun j hj hj' => ⟨(h6 j hj (by simpa using hj')).1, ?_⟩⟩
    · rcases hn g hf with h7 | h7
      · exact h3 h7
      · omega
    · rw [List.getElem_map]
      exact ((h6 j hj (by simpa using hj')).2.turn hF hrF ht hu).kill id hρ
  | map M =>
    obtain ⟨g, es, cl, h1, h2, h3, h4, h5, h6⟩ := h
    have hg := (Array.getElem?_eq_some_iff.1 h4).1
    refine ⟨g, es, cl, by rw [hρ i hi]; exact h1, h2, fun hf => ?_, by rw [ht.block g hg (fun he => hr g (by rw [h1]; rfl) he.symm)]; exact h4, h5, fun j hj hj' => ⟨(h6 j hj hj').1, (h6 j hj hj').2.mono hu fun b hb => ht.block b (hF b hb) (fun he => hrF b he.symm hb)⟩⟩
    rcases hn g hf with h7 | h7
    · exact h3 h7
    · omega
  | rowS e size els =>
    obtain ⟨xs, h1, h2, h3, h4⟩ := h
    refine ⟨xs, by rw [hρ i hi, List.length_map]; exact ownsRow_turn h1 ht hr, fun k hk => by rw [List.getElem_map, List.length_map]; exact h2 k (by simpa using hk), fun k hk j hj => ?_, fun g hg hf => ?_⟩
    · have hk' : k < els.length := by simpa using hk
      have hj' : j < els[k].length := by simpa using hj
      simp only [List.getElem_map]
      exact ⟨(h3 k hk' j hj').1, ((h3 k hk' j hj').2.turn hF hrF ht hu).kill id hρ⟩
    · rw [hρ i hi] at hg
      rcases hn g hf with h5 | h5
      · exact h4 g hg h5
      · have := (blk_lt_row h1 hg).2; omega

theorem Kept.turn {fr : Nat → Prop} {w0 w w' : World} {row : Option Nat} (h : Kept fr w0 w) (ht : Turn w w' row) (hr : ∀ g, row = some g → fr g) : Kept fr w0 w' :=
  ⟨ht.os.trans h.os, ht.tape.trans h.tape, ht.output.trans h.output, Nat.le_trans h.size ht.size, fun k hk hf => by rw [ht.block k (Nat.lt_of_lt_of_le hk h.size) (fun he => hf (hr k he.symm)), h.block k hk hf]⟩

/-- One object has turned: what holds then. -/
theorem R0.turn {cx : Cx} {F F' : Nat → Prop} {ρ ρ' : Nat → Value} {e : Env} {σ : Obs} {a : Act} {w w' : World} {id : Nat} {ob : Ob} {row : Option Nat} (h : R0 cx F ρ e σ a w) (hρ : ∀ j, j ≠ id → ρ' j = ρ j) (ht : Turn w w' row)
    (hfx : cx.free id = true) (hrow : ∀ g, row = some g → cx.fr g ∧ ¬ F g ∧ ∀ p ∈ σ, p.1 ≠ id → blk (ρ p.1) ≠ some g) (hu : ∀ b, F b → F' b) (hn : ∀ b, F' b → F b ∨ w.heap.size ≤ b) (hlt : ∀ b, F' b → b < w'.heap.size)
    (hob : ObOk cx.B F' ρ' w' id ob) (hnew : ∀ g, blk (ρ' id) = some g → row = some g ∨ w.heap.size ≤ g) (σ' : Obs) (hσ : ∀ p ∈ σ', p = (id, ob) ∨ ∃ q ∈ σ, q.1 ≠ id ∧ p = (q.1, q.2.kill id)) :
    R0 cx F' ρ' (e.kill id) σ' a w' where
  size := h.size
  defers := h.defers
  lt := hlt
  base := fun b hb => hu b (h.base b hb)
  new := fun b hb => by
    rcases hn b hb with h1 | h1
    · exact h.new b h1
    · exact .inr (h.up _ (Nat.le_trans h.below.size h1))
  below := h.below.turn ht fun g hg => (hrow g hg).1
  up := h.up
  fixed := fun i hi => by rw [hρ _ (Cx.free_ne hfx i hi)]; exact h.fixed i hi
  kown := fun p hp g hg => by
    rcases hσ p hp with rfl | ⟨q, hq, hqi, rfl⟩
    · rcases hnew g hg with h1 | h1
      · exact (hrow g h1).1
      · exact h.up _ (Nat.le_trans h.below.size h1)
    · simp only at hg
      rw [hρ _ hqi] at hg
      exact h.kown q hq g hg
  hB := Nat.le_trans h.hB ht.size
  env := fun t => ((h.env t).turn h.lt (fun g hg => (hrow g hg).2.1) ht hu).kill id hρ
  obs := by
    have hap : ∀ q ∈ σ, q.1 ≠ id → ∀ g, blk (ρ' id) = some g → blk (ρ q.1) ≠ some g := fun q hq hqi g hg he => by
      rcases hnew g hg with h1 | h1
      · exact (hrow g h1).2.2 q hq hqi he
      · have := ((h.obs.ok q hq).blk_lt he).2; omega
    refine ⟨fun p hp => ?_, fun p hp q hq hne g hg => ?_, fun p hp q hq he => ?_⟩
    · rcases hσ p hp with rfl | ⟨q, hq, hqi, rfl⟩
      · exact hob
      · exact (h.obs.ok q hq).turn hqi hρ h.lt (fun g hg => (hrow g hg).2.1) ht (fun g hg he => (hrow g he).2.2 q hq hqi hg) hu hn
    · rcases hσ p hp with rfl | ⟨p', hp', hpi, rfl⟩
      · rcases hσ q hq with rfl | ⟨q', hq', hqi, rfl⟩
        · exact absurd rfl hne
        · simp only at hg ⊢
          rw [hρ _ hqi]
          exact hap q' hq' hqi g hg
      · simp only at hg hne ⊢
        rw [hρ _ hpi] at hg
        rcases hσ q hq with rfl | ⟨q', hq', hqi, rfl⟩
        · intro he
          exact hap p' hp' hpi g he hg
        · simp only at hne ⊢
          rw [hρ _ hqi]
          exact h.obs.apart p' hp' q' hq' hne g hg
    · rcases hσ p hp with rfl | ⟨p', hp', hpi, rfl⟩
      · rcases hσ q hq with rfl | ⟨q', hq', hqi, rfl⟩
        · rfl
        · exact absurd he.symm hqi
      · rcases hσ q hq with rfl | ⟨q', hq', hqi, rfl⟩
        · exact absurd he hpi
        · have := h.obs.uniq p' hp' q' hq' he
          rw [this]

theorem R0.setSlot {cx : Cx} {F : Nat → Prop} {ρ : Nat → Value} {e : Env} {σ : Obs} {a : Act} {w : World} (h : R0 cx F ρ e σ a w) {t : Nat} {s : S} (hs : RepS F ρ w (a.tmps.getD t undef) s) : R0 cx F ρ (e.put (some t) s) σ a w :=
  ⟨h.size, h.defers, h.lt, h.base, h.new, h.below, h.hB, fun u => by
      by_cases hu : u = t
      · subst hu; rw [Env.put_same]; exact hs
      · rw [Env.put_other _ _ _ _ hu]; exact h.env u, h.obs, h.up, h.kown, h.fixed⟩

/-- A nil slice, taken for an own row of nothing. -/
theorem R0.adopt {cx : Cx} {F : Nat → Prop} {ρ : Nat → Value} {e : Env} {σ : Obs} {a : Act} {w : World} (h : R0 cx F ρ e σ a w) {t : Nat} (id ee size : Nat) (ht : e t = .d (.v (.slice none 0 0))) (hid : ∀ p ∈ σ, p.1 ≠ id) (hfx : cx.free id = true) :
    ∃ ρ', R0 cx F ρ' ((e.kill id).put (some t) (.own id)) ((id, .row ee size []) :: Obs.kill id σ) a w := by
  refine ⟨fun j => if j = id then .slice none 0 0 else ρ j, ?_⟩
  have h1 := h.turn (ρ' := fun j => if j = id then .slice none 0 0 else ρ j) (id := id) (ob := .row ee size []) (row := none) (w' := w) (F' := F) (fun j hj => by simp [hj])
    ⟨rfl, rfl, rfl, Nat.le_refl _, fun _ _ _ => rfl⟩ hfx (fun g hg => by simp at hg) (fun b hb => hb) (fun b hb => .inl hb) h.lt
    ⟨fun _ _ => undef, by simp [World.ownsRow], fun i hi => by simp at hi, fun i hi => by simp at hi, fun g hg => by simp [blk] at hg⟩ (fun g hg => by simp [blk] at hg) ((id, .row ee size []) :: Obs.kill id σ) (fun p hp => by
      cases hp with
      | head => exact .inl rfl
      | tail _ hp => obtain ⟨q, hq, rfl⟩ := Obs.mem_kill hp; exact .inr ⟨q, hq, hid q hq, rfl⟩)
  refine h1.setSlot ?_
  have h2 := h.env t
  rw [ht] at h2
  rw [repS_v h2]
  have := RepS.own (F := F) (ρ := fun j => if j = id then Value.slice none 0 0 else ρ j) (w := w) id
  simpa using this
def Obs.fresh (id : Nat) : Obs → Bool
  | [] => true
  | p :: l => !(Nat.beq p.1 id) && Obs.fresh id l
theorem Obs.fresh_spec {id : Nat} : ∀ {σ : Obs}, Obs.fresh id σ = true → ∀ p ∈ σ, p.1 ≠ id
  | [], _, p, hp => by cases hp
  | x :: l, h, p, hp => by
    simp only [Obs.fresh, Bool.and_eq_true, Bool.not_eq_true'] at h
    cases hp with
    | head => exact beq_false h.1
    | tail _ hp => exact Obs.fresh_spec h.2 p hp
theorem AWP.adopt {cx : Cx} {c : Code} {e : Env} {σ : Obs} {Q : Post} (t id ee size : Nat) (ht : e t = .d (.v (.slice none 0 0))) (hid : Obs.fresh id σ = true)
    (k : AWP cx c ((e.kill id).put (some t) (.own id)) ((id, .row ee size []) :: Obs.kill id σ) Q) (hfx : cx.free id = true := by rfl) : AWP cx c e σ Q := fun a w ⟨_, _, hr⟩ => by
  obtain ⟨ρ', h⟩ := hr.adopt id ee size ht (Obs.fresh_spec hid) hfx
  exact k a w ⟨_, ρ', h⟩
theorem AOps.adopt {cx : Cx} {ops : Array Oper} {rest : List Oper} {e : Env} {σ : Obs} {Q : Post} (t id ee size : Nat) (ht : e t = .d (.v (.slice none 0 0))) (hid : Obs.fresh id σ = true)
    (k : AOps cx ops rest ((e.kill id).put (some t) (.own id)) ((id, .row ee size []) :: Obs.kill id σ) Q) (hfx : cx.free id = true := by rfl) : AOps cx ops rest e σ Q := fun a w ⟨_, _, hr⟩ => by
  obtain ⟨ρ', h⟩ := hr.adopt id ee size ht (Obs.fresh_spec hid) hfx
  exact k a w ⟨_, ρ', h⟩

/-- A row's cells, as one list. -/
def flat (xs : Nat → Nat → Value) (n size : Nat) : List Value := ((List.range n).map fun i => (List.range size).map (xs i)).flatten
theorem flat_length (xs : Nat → Nat → Value) (n size : Nat) : (flat xs n size).length = n * size := by
  unfold flat
  rw [List.length_flatten, List.map_map]
  have : (List.length ∘ fun i => List.map (xs i) (List.range size)) = fun _ => size := by funext k; simp
  rw [this]
  exact sum_const size n
theorem flat_congr {xs ys : Nat → Nat → Value} {n size : Nat} (h : ∀ i j, i < n → j < size → xs i j = ys i j) : flat xs n size = flat ys n size := by
  unfold flat
  congr 1
  apply List.map_congr_left
  intro i hi
  apply List.map_congr_left
  intro j hj
  exact h i j (by simpa using hi) (by simpa using hj)
theorem flat_append (xs ys : Nat → Nat → Value) (n m size : Nat) : flat xs n size ++ flat ys m size = flat (fun i j => if i < n then xs i j else ys (i - n) j) (n + m) size := by
  unfold flat
  rw [List.range_add, List.map_append, List.flatten_append]
  congr 1
  · congr 1
    apply List.map_congr_left
    intro i hi
    have : i < n := by simpa using hi
    simp [this]
  · rw [List.map_map]
    congr 1
    apply List.map_congr_left
    intro i _
    have : ¬ n + i < n := by omega
    simp only [Function.comp, if_neg this, Nat.add_sub_cancel_left]

/-- append(own, x...), x any slice that reads as ys; which block it is in then. -/
theorem wpList_cat2 {P : Program} {ops : Array Oper} {rest : List Oper} {o : Oper} {a : Act} {w : World} {Q : Exit → Act → World → Prop} {t e : TypeId} {size bytes : Nat} {z : Value} (T : ElemTy P t e size bytes z) (s x : Operand) (hgd : o.guard = none)
    (ho : o.op = .call { callee := .builtin .append, args := #[s, x], argTypes := #[t, t] })
    {B n m : Nat} {v vx : Value} {xs ys : List Value} (hown : w.ownsRow B e size v n xs) (hs : a.eval s = v) (hx : a.eval x = vx) (hsl : Sl w size vx m ys)
    (h1 : ∀ u ∈ ys, u.oneCell' = true) (hbytes : (n + m) * bytes ≤ 140737488355328) (hn : n + m ≤ 9223372036854775807) (hB : B ≤ w.heap.size)
    (h : ∀ v' w', w'.ownsRow B e size v' (n + m) (xs ++ ys) → w.grownBy w' v.ownBlock → (v'.ownBlock = v.ownBlock ∨ ∃ g, v'.ownBlock = some g ∧ w.heap.size ≤ g) → wpList P ops Q rest (a.put o.dst v') w') :
    wpList P ops Q (o :: rest) a w := by
  obtain ⟨i, hi, hz0, hz1, hz2⟩ := info_parts T.hi
  rcases hsl.2 with ⟨rfl, rfl⟩ | ⟨ad, cap, rfl, _, _, hc⟩
  · have hys : ys = [] := List.eq_nil_of_length_eq_zero (by simpa using hsl.1)
    subst hys
    refine wpList_append_own_none hgd s x t ho B e i size T.ht hi v n xs hs hown hx ?_
    have := h v w (by simpa using hown) ⟨rfl, rfl, rfl, Nat.le_refl _, fun _ _ _ => rfl⟩ (.inl rfl)
    exact this
  · obtain ⟨v', w', hr, h2, h3, h4, h5⟩ := run_append_own_at (P := P) w B t o.type e i z size bytes T.ht hi hz0 hz1 hz2 T.hz T.hs v n xs hown ad m cap ys hsl.1 (by
      intro j u hj
      have hlt := (List.getElem?_eq_some_iff.1 hj).1
      rw [hc j hlt, ← hj, List.getElem?_eq_getElem hlt]) h1 (by unfold maxLen; omega) hbytes hB
    refine wpList_plain hgd fun K hK => ?_
    unfold Oper.wp execOp
    simp only [ho, resolve, invoke, builtin, Sem.run_bind, Sem.run_pure, Result.andThen_ok, List.map_toArray, List.map_cons, List.map_nil, hs, hx, hr]
    refine hK _ _ (h v' w' h2 h3 ?_)
    rcases h5 with h5 | h5
    · exact .inl h5
    · exact .inr ⟨_, h5, by simp⟩

/-- append(own, x...). -/
theorem AOps.append {cx : Cx} {ops : Array Oper} {o : Oper} {rest : List Oper} {e : Env} {σ : Obs} {Q : Post} {s x : Operand} {t ee size bytes id dst : Nat} {z : Value} {els els2 : List (List D)} (hg : o.guard = none)
    (ho : o.op = .call { callee := .builtin .append, args := #[s, x], argTypes := #[t, t] }) (hd : o.dst = some dst) (hdn' : Nat.blt dst cx.N = true) (T : ElemTy cx.P t ee size bytes z) (hs : e.ev s = .own id) (hm : (id, Ob.row ee size els) ∈ σ)
    (hx : e.ev x = .d (.sl els2)) (hsz : ∀ y ∈ els2, y.length = size) (hb : (els.length + els2.length) * bytes ≤ 140737488355328) (hn : els.length + els2.length ≤ 9223372036854775807)
    (k : AOps cx ops rest ((e.kill id).put (some dst) (.own id)) (Obs.upd id (.row ee size (els ++ els2)) (Obs.kill id σ)) Q) (hfx : cx.free id = true := by rfl) : AOps cx ops (o :: rest) e σ Q := by
  intro a w ⟨F, ρ, hr⟩
  have hdn : dst < cx.N := by simpa [Nat.blt_eq] using hdn'
  have h1 := ev_rep (e := e) (x := s) (a := a) (fun t _ => hr.env t)
  have h2 := ev_rep (e := e) (x := x) (a := a) (fun t _ => hr.env t)
  rw [hs] at h1
  rw [hx] at h2
  obtain ⟨xs, hown, hlen, hrep, hnF⟩ := hr.obs.ok _ hm
  dsimp only at hown hnF
  have hv : a.eval s = ρ id := by generalize a.eval s = v at h1; cases h1; rfl
  -- the source, as a slice of cells
  obtain ⟨ys, hsl, hys⟩ : ∃ ys : Nat → Nat → Value, Sl w size (a.eval x) els2.length (flat ys els2.length size) ∧ ∀ i (h : i < els2.length) j (h' : j < els2[i].length), (ys i j).oneCell' = true ∧ Rep F w (ys i j) els2[i][j] := by
    rcases rep_sl_sl (repS_d h2) with ⟨h3, h4⟩ | ⟨ad, cap, size', vs, h3, hc, hm', hF', hs', hcell, hone, hrep'⟩
    · subst h4
      exact ⟨fun _ _ => undef, by rw [h3]; exact Sl.nil _ _, fun i hi => by simp at hi⟩
    · refine ⟨vs, ⟨flat_length _ _ _, .inr ⟨ad, cap, h3, hc, hm', ?_⟩⟩, fun i hi j hj => ?_⟩
      · intro q hq
        rw [flat_length] at hq
        have hs0 : 0 < size := T.hs
        have e1 : q = (q / size) * size + q % size := by rw [Nat.mul_comm]; exact (Nat.div_add_mod q size).symm
        have hlt1 : q / size < els2.length := Nat.div_lt_of_lt_mul (by rw [Nat.mul_comm]; exact hq)
        have hlt2 : q % size < size := Nat.mod_lt _ hs0
        have hss : size' = size := by rw [← hs' (q / size) hlt1]; exact hsz _ (List.getElem_mem hlt1)
        subst hss
        have h5 := hcell (q / size') (q % size') hlt1 hlt2
        rw [← e1] at h5
        rw [h5]
        have h6 := flatten_get vs size' els2.length (q / size') (q % size') hlt1 hlt2
        rw [← e1] at h6
        have h7 : (flat vs els2.length size')[q]? = some (vs (q / size') (q % size')) := h6
        rw [List.getElem?_eq_getElem (by rw [flat_length]; exact hq)] at h7
        rw [Option.some.inj h7]
      · have hss : size' = size := by rw [← hs' i hi]; exact hsz _ (List.getElem_mem hi)
        exact ⟨hone i j hi (by rw [← hs' i hi]; exact hj), hrep' i hi j hj⟩
  refine wpList_cat2 (B := cx.B) T s x hg ho hown hv rfl hsl ?_ hb hn hr.hB ?_
  · intro u hu
    obtain ⟨q, hq, rfl⟩ := List.getElem_of_mem hu
    rw [flat_length] at hq
    have hs0 : 0 < size := T.hs
    have e1 : q = (q / size) * size + q % size := by rw [Nat.mul_comm]; exact (Nat.div_add_mod q size).symm
    have hlt1 : q / size < els2.length := Nat.div_lt_of_lt_mul (by rw [Nat.mul_comm]; exact hq)
    have hlt2 : q % size < size := Nat.mod_lt _ hs0
    have h6 := flatten_get ys size els2.length (q / size) (q % size) hlt1 hlt2
    rw [← e1] at h6
    have h7 : (flat ys els2.length size)[q]? = some (ys (q / size) (q % size)) := h6
    rw [List.getElem?_eq_getElem (by rw [flat_length]; exact hq)] at h7
    rw [Option.some.inj h7]
    exact (hys _ hlt1 _ (by rw [hsz _ (List.getElem_mem hlt1)]; exact hlt2)).1
  · intro v' w' hown' hgr hat
    rw [hd]
    refine k _ _ ⟨F, fun j => if j = id then v' else ρ j, ?_⟩
    have hnewb : ∀ g, blk v' = some g → (ρ id).ownBlock = some g ∨ w.heap.size ≤ g := by
      intro g hg
      have hg' : v'.ownBlock = some g := by
        rcases hown'.2 with ⟨h3, _⟩ | ⟨g', cap, cur, h3, _⟩
        · rw [h3] at hg; simp [blk] at hg
        · rw [h3] at hg ⊢; simpa [Value.ownBlock, blk] using hg
      rcases hat with h3 | ⟨g2, h3, h4⟩
      · exact .inl (by rw [← h3]; exact hg')
      · rw [h3] at hg'
        exact .inr (by have := Option.some.inj hg'; omega)
    have hob' : ∀ g, (ρ id).ownBlock = some g → blk (ρ id) = some g := by
      intro g hg
      rcases hown.2 with ⟨h3, _⟩ | ⟨g', cap, cur, h3, _⟩
      · rw [h3] at hg; simp [Value.ownBlock] at hg
      · rw [h3] at hg ⊢; simpa [Value.ownBlock, blk] using hg
    have hturn : Turn w w' (ρ id).ownBlock := ⟨hgr.os, hgr.tape, hgr.output, hgr.size, hgr.block⟩
    have h9 := hr.turn (ρ' := fun j => if j = id then v' else ρ j) (id := id) (ob := .row ee size (els ++ els2)) (row := (ρ id).ownBlock) (w' := w') (F' := F) (fun j hj => by simp [hj]) hturn hfx
      (fun g hg => ⟨hr.kown _ hm g (hob' g hg), hnF g (hob' g hg), fun p hp hpi => fun he => hr.obs.apart p hp _ hm hpi g he (hob' g hg)⟩) (fun b hb => hb) (fun b hb => .inl hb)
      (fun b hb => Nat.lt_of_lt_of_le (hr.lt b hb) hgr.size)
      (by
        refine ⟨fun i j => if i < els.length then xs i j else ys (i - els.length) j, ?_, fun i hi => ?_, fun i hi j hj => ?_, fun g hg hf => ?_⟩
        · dsimp only; rw [if_pos rfl, List.length_append]
          have h3 := flat_append xs ys els.length els2.length size
          unfold flat at h3
          rw [← h3]
          exact hown'
        · by_cases hi' : i < els.length
          · rw [List.getElem_append_left hi']; exact hlen i hi'
          · rw [List.getElem_append_right (by omega)]
            exact hsz _ (List.getElem_mem _)
        · have keep : ∀ {u : Value} {d : D}, Rep F w u d → Rep F w' u d := fun h => h.mono (fun b hb => hb) fun b hb => hgr.block b (hr.lt b hb) (fun he => hnF b (hob' b he.symm) hb)
          by_cases hi' : i < els.length
          · simp only [if_pos hi', List.getElem_append_left hi'] at hj ⊢
            exact ⟨(hrep i hi' j hj).1, keep (hrep i hi' j hj).2⟩
          · simp only [if_neg hi', List.getElem_append_right (show els.length ≤ i by omega)] at hj ⊢
            have := hys (i - els.length) (by simp at hi; omega) j hj
            exact ⟨this.1, keep this.2⟩
        · dsimp only at hg; rw [if_pos rfl] at hg
          rcases hnewb g hg with h3 | h3
          · exact hnF g (hob' g h3) hf
          · have := hr.lt g hf; omega)
      (fun g hg => by
        rw [if_pos rfl] at hg
        exact hnewb g hg)
      (Obs.upd id (.row ee size (els ++ els2)) (Obs.kill id σ)) (fun p hp => by
        rcases Obs.mem_upd hp with ⟨h3, _⟩ | ⟨h3, h4⟩
        · exact .inl h3
        · obtain ⟨q, hq, rfl⟩ := Obs.mem_kill h3
          exact .inr ⟨q, hq, h4, rfl⟩)
    have h10 := h9.put (o := ⟨some dst, .ready 0, 0, "", #[], none⟩) (v := v') (s := .own id) (Ext.refl h9.lt) (by
      have := RepS.own (F := F) (ρ := fun j => if j = id then v' else ρ j) (w := w') id
      simpa using this) (by simpa [DstOk, Nat.blt_eq] using hdn)
    exact h10
end Go.Proofs.YtajghehicmlajaaDoor
