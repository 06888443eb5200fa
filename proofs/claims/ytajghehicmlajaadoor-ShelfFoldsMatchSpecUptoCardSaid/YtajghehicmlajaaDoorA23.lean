/- Abstract values: regions that draw their order and make one own block of cells. No statement of the seat. -/
import Derived.Test.YtajghehicmlajaaDoorA22
namespace Go.Proofs.YtajghehicmlajaaDoor
open Go.RowKit
set_option linter.unusedVariables false

theorem S.kill_kill (id : Nat) (s : S) : (s.kill id).kill id = s.kill id := by
  cases s with
  | d x => rfl
  | own i => cases h : Nat.beq i id <;> simp only [S.kill, h]
  | ptr i off => cases h : Nat.beq i id <;> simp only [S.kill, h]
  | clo f caps => cases h : Cap.anyP (fun i => Nat.beq i id) caps <;> simp only [S.kill, h]
theorem Env.kill_kill (id : Nat) (e : Env) : (e.kill id).kill id = e.kill id := by funext t; exact S.kill_kill id (e t)
theorem Env.kill_put {id : Nat} {e : Env} {dst : Option Nat} {s : S} (he : e.kill id = e) (hs : s.kill id = s) : (e.put dst s).kill id = e.put dst s := by
  cases dst with
  | none => exact he
  | some t =>
    funext u
    unfold Env.kill
    by_cases hu : u = t
    · subst hu; rw [Env.put_same, hs]
    · rw [Env.put_other _ _ _ _ hu]; exact congrFun he u
theorem R0.killEnv {cx : Cx} {F : Nat → Prop} {ρ : Nat → Value} {e : Env} {σ : Obs} {a : Act} {w : World} (h : R0 cx F ρ e σ a w) (id : Nat) : R0 cx F ρ (e.kill id) σ a w :=
  ⟨h.size, h.defers, h.lt, h.base, h.new, h.below, h.hB, fun t => (h.env t).kill id (fun _ _ => rfl), h.obs, h.up, h.kown, h.fixed⟩

/-- The operation that makes the block. -/
def QF (dst id : Nat) (s0 : S) (ob : Ob) (e0 : Env) (σ : Obs) : Post := fun ex e' σ' => match ex with
  | .normal => e' = (e0.kill id).put (some dst) s0 ∧ σ' = (id, ob) :: Obs.kill id σ
  | _ => False
/-- What a region makes: the slot, the object, how the slot reads, what the object is. -/
structure Fr where
  dst : Nat
  id : Nat
  s0 : S
  ob : Ob
def frObs (Φ : List Fr) : Obs := Φ.map fun f => (f.id, f.ob)
structure FrOk (cx : Cx) (Φ : List Fr) (σ : Obs) : Prop where
  uid : ∀ f ∈ Φ, ∀ g ∈ Φ, f.id = g.id → f = g
  udst : ∀ f ∈ Φ, ∀ g ∈ Φ, f.dst = g.dst → f = g
  own : ∀ f ∈ Φ, f.s0.kill f.id = .d .any ∧ f.s0 ≠ .d .any
  other : ∀ f ∈ Φ, ∀ g ∈ Φ, g.id ≠ f.id → g.s0.kill f.id = g.s0 ∧ g.ob.kill f.id = g.ob
  fresh : ∀ f ∈ Φ, Obs.fresh f.id σ = true
  kill : ∀ f ∈ Φ, Obs.kill f.id σ = σ
  free : ∀ f ∈ Φ, cx.free f.id = true
theorem FrOk.one {cx : Cx} {σ : Obs} {f : Fr} (h1 : f.s0.kill f.id = .d .any) (h2 : f.s0 ≠ .d .any) (h3 : Obs.fresh f.id σ = true) (h4 : Obs.kill f.id σ = σ) (h5 : cx.free f.id = true) : FrOk cx [f] σ where
  uid := fun a ha b hb _ => by rw [List.mem_singleton] at ha hb; rw [ha, hb]
  udst := fun a ha b hb _ => by rw [List.mem_singleton] at ha hb; rw [ha, hb]
  own := fun a ha => by rw [List.mem_singleton] at ha; subst ha; exact ⟨h1, h2⟩
  other := fun a ha b hb hne => by rw [List.mem_singleton] at ha hb; subst ha; subst hb; exact absurd rfl hne
  fresh := fun a ha => by rw [List.mem_singleton] at ha; subst ha; exact h3
  kill := fun a ha => by rw [List.mem_singleton] at ha; subst ha; exact h4
  free := fun a ha => by rw [List.mem_singleton] at ha; subst ha; exact h5
theorem mem_two {α : Type} {a f g : α} (h : a ∈ [f, g]) : a = f ∨ a = g := by simpa using h
theorem FrOk.two {cx : Cx} {σ : Obs} {f g : Fr} (h1 : f.s0.kill f.id = .d .any) (h2 : f.s0 ≠ .d .any) (h3 : Obs.fresh f.id σ = true) (h4 : Obs.kill f.id σ = σ) (h5 : cx.free f.id = true) (k1 : g.s0.kill g.id = .d .any) (k2 : g.s0 ≠ .d .any) (k3 : Obs.fresh g.id σ = true) (k4 : Obs.kill g.id σ = σ) (k5 : cx.free g.id = true)
    (hid : f.id ≠ g.id) (hdst : f.dst ≠ g.dst) (x1 : g.s0.kill f.id = g.s0) (x2 : g.ob.kill f.id = g.ob) (x3 : f.s0.kill g.id = f.s0) (x4 : f.ob.kill g.id = f.ob) : FrOk cx [f, g] σ where
  uid := fun a ha b hb he => by
    rcases mem_two ha with rfl | rfl <;> rcases mem_two hb with rfl | rfl <;> first | rfl | exact absurd he hid | exact absurd he.symm hid
  udst := fun a ha b hb he => by
    rcases mem_two ha with rfl | rfl <;> rcases mem_two hb with rfl | rfl <;> first | rfl | exact absurd he hdst | exact absurd he.symm hdst
  own := fun a ha => by rcases mem_two ha with rfl | rfl; exact ⟨h1, h2⟩; exact ⟨k1, k2⟩
  other := fun a ha b hb hne => by
    rcases mem_two ha with rfl | rfl <;> rcases mem_two hb with rfl | rfl <;> first | exact absurd rfl hne | exact ⟨x1, x2⟩ | exact ⟨x3, x4⟩
  fresh := fun a ha => by rcases mem_two ha with rfl | rfl; exact h3; exact k3
  kill := fun a ha => by rcases mem_two ha with rfl | rfl; exact h4; exact k4
  free := fun a ha => by rcases mem_two ha with rfl | rfl; exact h5; exact k5
def FreshOp (cx : Cx) (ops : Array Oper) (f : Fr) (o : Oper) (e : Env) : Prop :=
  o.dst = some f.dst ∧ ∀ (e0 : Env) (σ : Obs), (∀ t, t ∈ o.looksAt ops → e0 t = e t) → Obs.fresh f.id σ = true → AOps cx ops [o] e0 σ (QF f.dst f.id f.s0 f.ob e0 σ)
theorem FreshOp.same {cx : Cx} {ops : Array Oper} {f : Fr} {o : Oper} {e e' : Env} (h : FreshOp cx ops f o e) (he : ∀ t, t ∈ o.looksAt ops → e' t = e t) : FreshOp cx ops f o e' :=
  ⟨h.1, fun e0 σ h0 hf => h.2 e0 σ (fun t ht => (h0 t ht).trans (he t ht)) hf⟩
def notDst (Φ : List Fr) (o : Oper) : Prop := ∀ f ∈ Φ, o.dst ≠ some f.dst
def XStep (cx : Cx) (ops : Array Oper) (σ : Obs) (Φ : List Fr) (o : Oper) (e : Env) (s : S) : Prop :=
  (GW ops o e true ∧ ((∃ f ∈ Φ, FreshOp cx ops f o e ∧ s = f.s0) ∨ (AOp cx.P cx.B ops o e σ s ∧ notDst Φ o ∧ ∀ f ∈ Φ, s.kill f.id = s ∨ ∃ t, t ∈ o.looksAt ops ∧ (e t).kill f.id ≠ e t))) ∨ (GW ops o e false ∧ s = .d (.v undef) ∧ notDst Φ o)
theorem XStep.same {cx : Cx} {ops : Array Oper} {σ : Obs} {Φ : List Fr} {o : Oper} {e e' : Env} {s : S} (h : XStep cx ops σ Φ o e s) (he : ∀ t, t ∈ o.looksAt ops → e' t = e t) : XStep cx ops σ Φ o e' s := by
  rcases h with ⟨h1, h2⟩ | ⟨h1, h2⟩
  · exact .inl ⟨h1.same he, h2.imp (fun ⟨f, hf, h, h'⟩ => ⟨f, hf, h.same he, h'⟩) fun h => ⟨h.1.same he, h.2.1, fun f hf => (h.2.2 f hf).imp (fun h => h) fun ⟨t, ht, hn⟩ => ⟨t, ht, by rw [he t ht]; exact hn⟩⟩⟩
  · exact .inr ⟨h1.same he, h2⟩
def XRun (cx : Cx) (ops : Array Oper) (σ : Obs) (Φ : List Fr) : List Oper → Env → (Env → Prop) → Prop
  | [], e, Qe => (∀ f ∈ Φ, e f.dst = f.s0) ∧ Qe e
  | o :: l, e, Qe => DstOk cx.N o ∧ ∃ s, XStep cx ops σ Φ o e s ∧ XRun cx ops σ Φ l (e.put o.dst s) Qe
def anyX (cx : Cx) (ops : Array Oper) (σ : Obs) (Φ : List Fr) (Qe : Env → Prop) : Nat → Array Bool → Env → Prop
  | 0, listed, e => Region.ready .any ops listed = [] ∧ Qe e
  | fuel + 1, listed, e => (Region.ready .any ops listed = [] → Qe e) ∧
      ∀ i ∈ Region.ready .any ops listed, ∀ o, ops[i]? = some o → ∃ s, XStep cx ops σ Φ o e s ∧ anyX cx ops σ Φ Qe fuel (listed.setIfInBounds i true) (e.put o.dst s)
theorem anyX_first {cx : Cx} {ops : Array Oper} {σ : Obs} {Φ : List Fr} {Qe : Env → Prop} {i : Nat} {oi : Oper} {s : S} (hi : ops[i]? = some oi) :
    ∀ (fuel : Nat) (listed : Array Bool) (e : Env),
      (∀ j oj, ops[j]? = some oj → j ≠ i → listed.getD j true = false → (∀ e ∈ oj.after, Region.binds .any e = true → e.on ≠ i) → oi.apart ops oj = true) →
      i ∈ Region.ready .any ops listed → XStep cx ops σ Φ oi e s → anyX cx ops σ Φ Qe fuel (listed.setIfInBounds i true) (e.put oi.dst s) → anyX cx ops σ Φ Qe (fuel + 1) listed e := by
  intro fuel
  induction fuel with
  | zero =>
    intro listed e _ hr hy H
    refine ⟨fun h => (by rw [h] at hr; cases hr), fun j hj o ho => ?_⟩
    by_cases hji : j = i
    · subst hji
      rw [hi] at ho; cases ho
      exact ⟨s, hy, H⟩
    · have := ready_mono hj hji
      rw [H.1] at this
      cases this
  | succ fuel ih =>
    intro listed e hfree hr hy H
    refine ⟨fun h => (by rw [h] at hr; cases hr), fun j hj oj hoj => ?_⟩
    by_cases hji : j = i
    · subst hji
      rw [hi] at hoj; cases hoj
      exact ⟨s, hy, H⟩
    · obtain ⟨sj, h1, h2⟩ := H.2 j (ready_mono hj hji) oj hoj
      obtain ⟨hjun, oj', hoj', hall⟩ := mem_ready.1 hj
      rw [hoj] at hoj'; cases hoj'
      have hnot : ∀ e ∈ oj.after, Region.binds .any e = true → e.on ≠ i := fun e he hb heq => by
        have h1 := hall e he hb
        have h0 := (mem_ready.1 hr).1
        rw [heq] at h1
        rcases Nat.lt_or_ge i listed.size with h' | h'
        · simp [h'] at h0 h1; rw [h0] at h1; cases h1
        · simp [Array.getElem?_eq_none h'] at h1
      obtain ⟨a1, a2, a3⟩ := Oper.apart_spec (hfree j oj hoj hji hjun hnot)
      refine ⟨sj, h1.same (fun t ht => (put_looks a1 t ht).symm), ?_⟩
      refine ih (listed.setIfInBounds j true) (e.put oj.dst sj) (fun k ok hk hki hun hno => ?_) (ready_mono hr (Ne.symm hji)) (hy.same (put_looks a3)) ?_
      · refine hfree k ok hk hki ?_ hno
        by_cases hjk : j = k
        · subst hjk; exact hjun
        · rw [getD_set_ne true hjk] at hun; exact hun
      · rw [Array.setIfInBounds_comm _ _ hji, ← Env.put_comm e oi.dst oj.dst s sj a2]
        exact h2
theorem anyX_lex {cx : Cx} {ops : Array Oper} {σ : Obs} {Φ : List Fr} {Qe : Env → Prop} : ∀ (l : List Oper) (k : Nat) (listed : Array Bool) (e : Env), (∀ j, l[j]? = ops[k + j]?) →
    Region.lexFrom .any ops l.length k listed = true → XRun cx ops σ Φ l e Qe → anyX cx ops σ Φ (fun e => (∀ f ∈ Φ, e f.dst = f.s0) ∧ Qe e) l.length listed e
  | [], _, _, _, _, hB, h => ⟨by simpa [Region.lexFrom] using hB, h⟩
  | o :: l, k, listed, e, hl, hB, h => by
    have h0 : ops[k]? = some o := by simpa using (hl 0).symm
    simp only [List.length_cons, Region.lexFrom, Bool.and_eq_true] at hB
    obtain ⟨⟨hr, hf⟩, hB'⟩ := hB
    have hl' : ∀ j, l[j]? = ops[k + 1 + j]? := fun j => by have := hl (j + 1); simpa [Nat.add_assoc, Nat.add_comm 1 j] using this
    obtain ⟨_, s, hs, hK⟩ := h
    exact anyX_first h0 l.length listed e (Region.free_spec h0 hf) (by simpa using hr) hs (anyX_lex l (k + 1) _ _ hl' hB' hK)
theorem XRun.dsts {cx : Cx} {ops : Array Oper} {σ : Obs} {Φ : List Fr} {Qe : Env → Prop} : ∀ (l : List Oper) (e : Env), XRun cx ops σ Φ l e Qe → ∀ o ∈ l, DstOk cx.N o
  | [], _, _, o, ho => by cases ho
  | x :: l, e, h, o, ho => by
    obtain ⟨h1, s, _, h2⟩ := h
    cases ho with
    | head => exact h1
    | tail _ ho => exact XRun.dsts l _ h2 o ho
def RelX (cx : Cx) (ops : Array Oper) (σ : Obs) (Φ : List Fr) (listed : Array Bool) (e : Env) (a : Act) (w : World) : Prop :=
  ∃ Δ : List Fr, (∀ g ∈ Δ, g ∈ Φ) ∧ (∀ g ∈ Δ, ∃ i o, ops[i]? = some o ∧ listed.getD i false = true ∧ o.dst = some g.dst) ∧ (∀ g ∈ Δ, e g.dst = g.s0) ∧ (∀ f ∈ Φ, ¬ f ∈ Δ → ∀ t, (e t).kill f.id = e t) ∧ R cx e (frObs Δ ++ σ) a w
theorem R.sub {cx : Cx} {e : Env} {σ σ' : Obs} {a : Act} {w : World} (h : R cx e σ a w) (hs : ∀ p ∈ σ', p ∈ σ) : R cx e σ' a w := by
  obtain ⟨F, ρ, h⟩ := h
  exact ⟨F, ρ, h.size, h.defers, h.lt, h.base, h.new, h.below, h.hB, h.env, h.obs.sub hs, h.up, fun q hq => h.kown q (hs q hq), h.fixed⟩
theorem put_put (e : Env) (t : Nat) (s s' : S) : (e.put (some t) s).put (some t) s' = e.put (some t) s' := by
  funext u
  by_cases hu : u = t
  · subst hu; rw [Env.put_same, Env.put_same]
  · rw [Env.put_other _ _ _ _ hu, Env.put_other _ _ _ _ hu, Env.put_other _ _ _ _ hu]
theorem Obs.kill_append (id : Nat) : ∀ (a b : Obs), Obs.kill id (a ++ b) = Obs.kill id a ++ Obs.kill id b
  | [], _ => rfl
  | p :: a, b => by show (p.1, p.2.kill id) :: Obs.kill id (a ++ b) = _; rw [Obs.kill_append id a b]; rfl
theorem kill_frObs {id : Nat} : ∀ {Δ : List Fr}, (∀ g ∈ Δ, g.ob.kill id = g.ob) → Obs.kill id (frObs Δ) = frObs Δ
  | [], _ => rfl
  | g :: Δ, h => by
    show (g.id, g.ob.kill id) :: Obs.kill id (frObs Δ) = _
    rw [h g List.mem_cons_self, kill_frObs fun g hg => h g (List.mem_cons_of_mem _ hg)]
    rfl
theorem fresh_append {id : Nat} {σ : Obs} : ∀ {a : Obs}, (∀ p ∈ a, p.1 ≠ id) → Obs.fresh id σ = true → Obs.fresh id (a ++ σ) = true
  | [], _, h => h
  | p :: a, h1, h => by
    show (!(Nat.beq p.1 id) && Obs.fresh id (a ++ σ)) = true
    rw [fresh_append (fun q hq => h1 q (List.mem_cons_of_mem _ hq)) h, Bool.and_true]
    have := h1 p List.mem_cons_self
    cases hb : Nat.beq p.1 id with
    | true => exact absurd (beq_true hb) this
    | false => rfl
theorem wpAny_of_X {cx : Cx} {ops : Array Oper} {σ : Obs} {Φ : List Fr} {Q : Post} (hd : ∀ o ∈ ops.toList, DstOk cx.N o) (hone : ∀ f ∈ Φ, ∀ (i j : Nat) (o o' : Oper), ops[i]? = some o → ops[j]? = some o' → o.dst = some f.dst → o'.dst = some f.dst → i = j) (ok : FrOk cx Φ σ) :
    ∀ (fuel : Nat) (listed : Array Bool) (e : Env) (a : Act) (w : World), RelX cx ops σ Φ listed e a w →
    anyX cx ops σ Φ (fun e => (∀ f ∈ Φ, e f.dst = f.s0) ∧ Q .normal e (frObs Φ ++ σ)) fuel listed e → wpAny cx.P .any ops (lift cx Q) fuel listed a w := by
  have fin : ∀ (listed : Array Bool) (e : Env) (a : Act) (w : World), RelX cx ops σ Φ listed e a w → ((∀ f ∈ Φ, e f.dst = f.s0) ∧ Q .normal e (frObs Φ ++ σ)) → lift cx Q .normal a w := by
    rintro listed e a w ⟨Δ, h1, _, h2, h3, h4⟩ ⟨h5, h6⟩
    have hall : ∀ f ∈ Φ, f ∈ Δ := fun f hf => Classical.byContradiction fun hn => by
      have h7 := h3 f hf hn f.dst
      rw [h5 f hf, (ok.own f hf).1] at h7
      exact (ok.own f hf).2 h7.symm
    refine ⟨e, _, h6, h4.sub fun p hp => ?_⟩
    rcases List.mem_append.1 hp with hp | hp
    · obtain ⟨f, hf, rfl⟩ := List.mem_map.1 hp
      exact List.mem_append.2 (.inl (List.mem_map.2 ⟨f, hall f hf, rfl⟩))
    · exact List.mem_append.2 (.inr hp)
  have pure : ∀ {e : Env} {o : Oper} {s : S} {Δ : List Fr}, (∀ g ∈ Δ, g ∈ Φ) → (∀ g ∈ Δ, e g.dst = g.s0) → (∀ f ∈ Φ, ¬ f ∈ Δ → ∀ t, (e t).kill f.id = e t) → notDst Φ o → (∀ f ∈ Φ, ¬ f ∈ Δ → s.kill f.id = s) →
      (∀ g ∈ Δ, (e.put o.dst s) g.dst = g.s0) ∧ (∀ f ∈ Φ, ¬ f ∈ Δ → ∀ t, ((e.put o.dst s) t).kill f.id = (e.put o.dst s) t) := by
    intro e o s Δ h1 h2 h3 hn hs
    cases ho : o.dst with
    | none => exact ⟨h2, h3⟩
    | some u =>
      refine ⟨fun g hg => ?_, fun f hf hfn t => ?_⟩
      · rw [Env.put_other _ _ _ _ (fun he => hn g (h1 g hg) (by rw [ho, he]))]; exact h2 g hg
      · by_cases hu : t = u
        · subst hu; rw [Env.put_same]; exact hs f hf hfn
        · rw [Env.put_other _ _ _ _ hu]; exact h3 f hf hfn t
  intro fuel
  induction fuel with
  | zero => exact fun listed e a w hr h => ⟨h.1, fin listed e a w hr h.2⟩
  | succ fuel ih =>
    intro listed e a w hr h
    refine ⟨fun h0 => fin listed e a w hr (h.1 h0), fun i hi => ?_⟩
    obtain ⟨hui, o, ho, _⟩ := mem_ready.1 hi
    obtain ⟨s, hs, hkk⟩ := h.2 i hi o ho
    have hdo : DstOk cx.N o := hd o (Array.mem_toList_iff.2 (Array.mem_of_getElem? ho))
    have hil : i < listed.size := Nat.lt_of_not_le fun hle => by simp [Array.getD_eq_getD_getElem?, Array.getElem?_eq_none hle] at hui
    obtain ⟨Δ, h1, hL, h2, h3, hR⟩ := hr
    have hL' : ∀ g ∈ Δ, ∃ j o, ops[j]? = some o ∧ (listed.setIfInBounds i true).getD j false = true ∧ o.dst = some g.dst := fun g hg => by
      obtain ⟨j, o', q1, q2, q3⟩ := hL g hg
      exact ⟨j, o', q1, getD_set_true q2, q3⟩
    have hR' := hR
    obtain ⟨F, ρ, hr⟩ := hR'
    unfold wpOp
    simp only [ho]
    rcases hs with ⟨hg, ⟨f, hf, ⟨hdst, hop⟩, rfl⟩ | ⟨hop, hne, hsk⟩⟩ | ⟨hg, rfl, hne⟩
    · rw [if_pos (hg.wanted (fun t _ => hr.env t))]
      have hfn : ¬ f ∈ Δ := fun hfd => by
        obtain ⟨j, o', q1, q2, q3⟩ := hL f hfd
        have := hone f hf i j o o' ho q1 hdst q3
        subst this
        rw [getD_tf hil false true, hui] at q2
        simp at q2
      have hgi : ∀ g ∈ Δ, g.id ≠ f.id := fun g hg he => hfn (by rw [← ok.uid g (h1 g hg) f hf he]; exact hg)
      have hek : e.kill f.id = e := funext fun t => h3 f hf hfn t
      have hok : Obs.kill f.id (frObs Δ ++ σ) = frObs Δ ++ σ := by
        rw [Obs.kill_append, ok.kill f hf, kill_frObs fun g hg => (ok.other f hf g (h1 g hg) (hgi g hg)).2]
      have hfr : Obs.fresh f.id (frObs Δ ++ σ) = true := fresh_append (fun p hp => by obtain ⟨g, hg, rfl⟩ := List.mem_map.1 hp; exact hgi g hg) (ok.fresh f hf)
      have h4 := hop e (frObs Δ ++ σ) (fun _ _ => rfl) hfr a w hR
      unfold wpList at h4
      have hw : Region.wanted o (yielded ops a.tmps) = true := hg.wanted (fun t _ => hr.env t)
      rw [if_pos hw] at h4
      rw [hdst] at hkk
      refine h4.imp (wp_to2 ?_ ?_) fun h => ⟨h.1, ?_⟩
      · rintro a' w' ⟨e', σ', ⟨rfl, rfl⟩, hr'⟩
        rw [hok, hek] at hr'
        refine ih _ _ _ _ ⟨f :: Δ, fun g hg => ?_, fun g hg => ?_, fun g hg => ?_, fun k hk hkn t => ?_, hr'⟩ hkk
        · rcases List.mem_cons.1 hg with rfl | hg
          · exact hf
          · exact h1 g hg
        · rcases List.mem_cons.1 hg with rfl | hg
          · exact ⟨i, o, ho, by simp [Array.getD_eq_getD_getElem?, hil], hdst⟩
          · exact hL' g hg
        · rcases List.mem_cons.1 hg with rfl | hg
          · rw [Env.put_same]
          · rw [Env.put_other _ _ _ _ (fun he => hgi g hg (by rw [ok.udst g (h1 g hg) f hf he]))]
            exact h2 g hg
        · have hkf : f.id ≠ k.id := fun he => hkn (by rw [← ok.uid f hf k hk he]; exact List.mem_cons_self)
          by_cases ht : t = f.dst
          · subst ht; rw [Env.put_same]; exact (ok.other k hk f hf hkf).1
          · rw [Env.put_other _ _ _ _ ht]; exact h3 k hk (fun hh => hkn (List.mem_cons_of_mem _ hh)) t
      · rintro ex a' w' hne ⟨e', σ', hq, _⟩
        cases ex <;> first | exact absurd rfl hne | exact hq.elim
      · obtain ⟨a', w', e', σ', hq, _⟩ := h.2
        exact hq.elim
    · rw [if_pos (hg.wanted (fun t _ => hr.env t))]
      refine .inl (wp_to ?_ (fun _ _ _ => False.elim) (hop F ρ w a hr.lt (fun t _ => hr.env t) (hr.obs.sub fun q hq => List.mem_append.2 (.inr hq))))
      rintro a' w' ⟨v, F', rfl, hv, hE⟩
      obtain ⟨p1, p2⟩ := pure (o := o) (s := s) h1 h2 h3 hne fun f hf hfn => by
        rcases hsk f hf with hh | ⟨t, _, hh⟩
        · exact hh
        · exact absurd (h3 f hf hfn t) hh
      exact ih _ _ _ _ ⟨Δ, h1, hL', p1, p2, F', ρ, hr.put hE hv hdo⟩ hkk
    · rw [if_neg (by rw [hg.wanted (fun t _ => hr.env t)]; simp)]
      obtain ⟨p1, p2⟩ := pure (o := o) (s := .d (.v undef)) h1 h2 h3 hne (fun _ _ _ => rfl)
      exact ih _ _ _ _ ⟨Δ, h1, hL', p1, p2, F, ρ, hr.put (Ext.refl hr.lt) repS_undef hdo⟩ hkk
section
variable {cx : Cx} {ops : Array Oper} {σ : Obs} {Φ : List Fr} {e : Env} {Qe : Env → Prop} {o : Oper} {l : List Oper}
def Holds (p : Fr → Prop) : List Fr → Prop
  | [] => True
  | f :: l => p f ∧ Holds p l
theorem Holds.all {p : Fr → Prop} : ∀ {l : List Fr}, Holds p l → ∀ f ∈ l, p f
  | [], _, f, hf => by cases hf
  | g :: l, h, f, hf => by
    cases hf with
    | head => exact h.1
    | tail _ hf => exact Holds.all h.2 f hf
theorem XRun.nil (hd : Holds (fun f => e f.dst = f.s0) Φ) (h : Qe e) : XRun cx ops σ Φ [] e Qe := ⟨hd.all, h⟩
def neDst (o : Oper) (dst : Nat) : Bool := match o.dst with | none => true | some t => !(Nat.beq t dst)
theorem neDst_spec {dst : Nat} (h : neDst o dst = true) : o.dst ≠ some dst := fun he => by unfold neDst at h; rw [he] at h; simp at h
def neAll (Φ : List Fr) (o : Oper) : Bool := Φ.all fun f => neDst o f.dst
theorem neAll_spec (h : neAll Φ o = true) : notDst Φ o := fun f hf => neDst_spec (List.all_eq_true.1 h f hf)
theorem XRun.step {s : S} {t : Nat} (hg : GW ops o e true) (ht : o.dst = some t) (hd : Nat.blt t cx.N = true) (h : AOp cx.P cx.B ops o e σ s) (k : XRun cx ops σ Φ l (e.put (some t) s) Qe) (hne : neAll Φ o = true := by rfl) (hs : Holds (fun f => s.kill f.id = s ∨ ∃ t, t ∈ o.looksAt ops ∧ (e t).kill f.id ≠ e t) Φ := by first | exact ⟨.inl rfl, trivial⟩ | exact ⟨.inl rfl, .inl rfl, trivial⟩ | exact ⟨.inr ⟨_, .head _, S.noConfusion⟩, trivial⟩ | exact ⟨.inr ⟨_, .head _, S.noConfusion⟩, .inl rfl, trivial⟩ | exact ⟨.inl rfl, .inr ⟨_, .head _, S.noConfusion⟩, trivial⟩) : XRun cx ops σ Φ (o :: l) e Qe :=
  ⟨by unfold DstOk; rw [ht]; exact hd, s, .inl ⟨hg, .inr ⟨h, neAll_spec hne, hs.all⟩⟩, by rw [ht]; exact k⟩
theorem XRun.pass {t : Nat} (hg : GW ops o e false) (ht : o.dst = some t) (hd : Nat.blt t cx.N = true) (k : XRun cx ops σ Φ l (e.put (some t) (.d (.v undef))) Qe) (hne : neAll Φ o = true := by rfl) : XRun cx ops σ Φ (o :: l) e Qe :=
  ⟨by unfold DstOk; rw [ht]; exact hd, _, .inr ⟨hg, rfl, neAll_spec hne⟩, by rw [ht]; exact k⟩
theorem ev_same {e0 e : Env} {x : Operand} (h : ∀ t, x = .tmp t → e0 t = e t) : e0.ev x = e.ev x := by
  cases x with
  | tmp t => exact h t rfl
  | const v => rfl
  | global g => rfl
  | func f => rfl
theorem XRun.alloc {t : Nat} {z : Value} {zs : List Value} (f : Fr) (hf : f ∈ Φ) (hg : GW ops o e true) (hgn : o.guard = none) (ht : o.dst = some f.dst) (hd : Nat.blt f.dst cx.N = true) (ho : o.op = .alloc t) (hz : (cx.P.info? t).bind (·.zero) = some z) (hzc : z.cells.toList = zs) (h1 : zs.all (·.oneCell') = true) (hob : f.ob = .cells ((zs.map D.v).map S.d)) (hs : f.s0 = .ptr f.id 0)
    (k : XRun cx ops σ Φ l (e.put (some f.dst) f.s0) Qe) (hfx : cx.free f.id = true := by rfl) : XRun cx ops σ Φ (o :: l) e Qe :=
  ⟨by unfold DstOk; rw [ht]; exact hd, _, .inl ⟨hg, .inl ⟨f, hf, ⟨ht, fun e0 σ _ hfr => AOps.alloc f.id hgn ht hd ho hz hzc h1 hfr (.nil ⟨by rw [hs], by rw [hob]⟩) hfx⟩, rfl⟩⟩, by rw [ht]; exact k⟩
theorem XRun.make {t el : TypeId} {lo c : Operand} {size bytes : Nat} {z : Value} {m : Int} (f : Fr) (hf : f ∈ Φ) (n : Nat) (hg : GW ops o e true) (hgn : o.guard = none) (ht : o.dst = some f.dst) (hd : Nat.blt f.dst cx.N = true) (ho : o.op = .makeSlice t lo c) (T : ElemTy cx.P t el size bytes z) (hl : e.ev lo = .d (.v (.int .i64 m))) (hc : e.ev c = .d (.v (.int .i64 m))) (hmn : m = n) (hb : bytes * n ≤ 281474976710656) (hn : n ≤ 9223372036854775807)
    (h1 : z.cells.toList.all (·.oneCell') = true) (hob : f.ob = .row el size (List.replicate n (z.cells.toList.map D.v))) (hs : f.s0 = .own f.id) (k : XRun cx ops σ Φ l (e.put (some f.dst) f.s0) Qe) (hfx : cx.free f.id = true := by rfl) : XRun cx ops σ Φ (o :: l) e Qe :=
  ⟨by unfold DstOk; rw [ht]; exact hd, _, .inl ⟨hg, .inl ⟨f, hf, ⟨ht, fun e0 σ he hfr => by
    have h2 : e0.ev lo = e.ev lo := ev_same fun t ht => he t (looks_op (by rw [ho, ht]; simp [Op.operands]))
    have h3 : e0.ev c = e.ev c := ev_same fun t ht => he t (looks_op (by rw [ho, ht]; simp [Op.operands]))
    exact AOps.makeI f.id n hgn ht hd ho T (h2.trans hl) (h3.trans hc) hmn hb hn h1 hfr (.nil ⟨by rw [hs], by rw [hob]⟩) hfx⟩, rfl⟩⟩, by rw [ht]; exact k⟩
theorem XRun.split (t : Nat) {b : Bool} (ht : e t = .d (.v (.bool b))) (h1 : b = true → XRun cx ops σ Φ l (e.put (some t) (.d (.v (.bool true)))) Qe) (h0 : b = false → XRun cx ops σ Φ l (e.put (some t) (.d (.v (.bool false)))) Qe) : XRun cx ops σ Φ l e Qe := by
  cases b with
  | true => have := h1 rfl; rwa [Env.put_id ht] at this
  | false => have := h0 rfl; rwa [Env.put_id ht] at this
end
def Env.killAll : List Fr → Env → Env
  | [], e => e
  | f :: l, e => Env.killAll l (e.kill f.id)
theorem kill_comm (i j : Nat) (s : S) : (s.kill i).kill j = (s.kill j).kill i := by
  cases s with
  | d x => rfl
  | own k => cases h1 : Nat.beq k i <;> cases h2 : Nat.beq k j <;> simp only [S.kill, h1, h2]
  | ptr k off => cases h1 : Nat.beq k i <;> cases h2 : Nat.beq k j <;> simp only [S.kill, h1, h2]
  | clo f caps => cases h1 : Cap.anyP (fun k => Nat.beq k i) caps <;> cases h2 : Cap.anyP (fun k => Nat.beq k j) caps <;> simp only [S.kill, h1, h2]
theorem killAll_kill (id : Nat) : ∀ (Φ : List Fr) (e : Env), (∀ t, (e t).kill id = e t) → ∀ t, (Env.killAll Φ e t).kill id = Env.killAll Φ e t
  | [], _, h => h
  | f :: l, e, h => killAll_kill id l (e.kill f.id) fun t => by unfold Env.kill; rw [kill_comm, h t]
theorem killAll_all : ∀ (Φ : List Fr) (e : Env), ∀ f ∈ Φ, ∀ t, (Env.killAll Φ e t).kill f.id = Env.killAll Φ e t
  | g :: l, e, f, hf, t => by
    rcases List.mem_cons.1 hf with rfl | hf
    · exact killAll_kill f.id l (e.kill f.id) (fun t => S.kill_kill f.id (e t)) t
    · exact killAll_all l (e.kill g.id) f hf t
theorem R.killAll {cx : Cx} {σ : Obs} {a : Act} {w : World} : ∀ (Φ : List Fr) {e : Env}, R cx e σ a w → R cx (Env.killAll Φ e) σ a w
  | [], _, h => h
  | f :: l, _, ⟨F, ρ, h⟩ => R.killAll l ⟨F, ρ, h.killEnv f.id⟩
/-- A region that draws its order; some of its first k operations make own objects; those from k on wait for all before them. -/
theorem AWP.drawFresh {cx : Cx} {rid : Nat} {l : List Oper} {e : Env} {σ : Obs} {Q : Post} (k : Nat) (Φ : List Fr) (ok : FrOk cx Φ σ) (hm : cx.P.follows .mixedOrders = true) (hB : Region.lexB .any (l.take k).toArray = true) (hC : Region.chainB l.toArray k = true) (hlk : (Φ.all fun f => (List.range (l.take k).length).all fun i => (List.range (l.take k).length).all fun j => Nat.beq i j || (((l.take k)[i]?).map fun o => neDst o f.dst).getD true || (((l.take k)[j]?).map fun o => neDst o f.dst).getD true) = true)
    (h : XRun cx (l.take k).toArray σ Φ (l.take k) (Env.killAll Φ e) (fun e => AOps cx l.toArray (l.drop k) e (frObs Φ ++ σ) Q)) : AWP cx (.region rid l.toArray true) e σ Q := by
  intro a w ⟨F, ρ, hr⟩
  simp only [Region.lexB, Bool.and_eq_true] at hB
  have hch := Chain.of hC
  have hkl : k ≤ l.length := by simpa using hch.le
  have h1 := anyX_lex (l.take k) 0 (Array.replicate (l.take k).toArray.size false) (Env.killAll Φ e) (by simp) (by simpa using hB.2) h
  have hone : ∀ f ∈ Φ, ∀ (i j : Nat) (o o' : Oper), (l.take k).toArray[i]? = some o → (l.take k).toArray[j]? = some o' → o.dst = some f.dst → o'.dst = some f.dst → i = j := fun f hf i j o o' hi hj ho ho' => by
    rw [List.getElem?_toArray] at hi hj
    have h3 := List.all_eq_true.1 (List.all_eq_true.1 (List.all_eq_true.1 hlk f hf) i (List.mem_range.2 (List.getElem?_eq_some_iff.1 hi).1)) j (List.mem_range.2 (List.getElem?_eq_some_iff.1 hj).1)
    rw [hi, hj] at h3
    simp only [Option.map_some, Option.getD_some, Bool.or_eq_true] at h3
    rcases h3 with (h3 | h3) | h3
    · exact Nat.eq_of_beq_eq_true h3
    · exact absurd ho (neDst_spec h3)
    · exact absurd ho' (neDst_spec h3)
  have h2 := wpAny_of_X (cx := cx) (ops := (l.take k).toArray) (Q := fun ex e σ => match ex with | .normal => AOps cx l.toArray (l.drop k) e σ Q | _ => False) (by simpa using XRun.dsts _ _ h) hone ok _ _ (Env.killAll Φ e) a _
    ⟨[], fun g hg => (nomatch hg), fun g hg => (nomatch hg), fun g hg => (nomatch hg), fun f hf _ t => killAll_all Φ e f hf t, R.killAll Φ ⟨F, ρ, hr.drew⟩⟩ h1
  refine wp_region_any hm (wpAny_split hch (ops0 := (l.take k).toArray) (by simp; omega) (fun j hj => by simp [hj]) ?_ ?_ (l.take k).length _ _ _ _ _ (by simp; omega) (by simp) ?_ ?_ ?_ (by simp; omega) h2)
  · rintro a w ⟨e, σ, h3, h4⟩
    have := h3 a w h4
    simpa using this
  · rintro ex a w hne ⟨e, σ, h3, _⟩
    cases ex <;> first | exact absurd rfl hne | exact h3.elim
  · intro j hj d
    have h5 : j < l.length := by omega
    have h6 : j < min k l.length := by omega
    simp [Array.getD_eq_getD_getElem?, h5, h6]
  · intro j hj hj2
    have : j < l.length := by simpa using hj2
    simp [Array.getD_eq_getD_getElem?, this]
  · intro i o ho hi
    have : i < l.length := by simpa using (Array.getElem?_eq_some_iff.1 ho).1
    simp [Array.getD_eq_getD_getElem?, this] at hi
end Go.Proofs.YtajghehicmlajaaDoor
