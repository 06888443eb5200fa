/- Abstract values: drawn regions, code, loops, calls. No statement of the seat. -/
import Derived.Test.YtajghehicmlajaaDoorA1
import Derived.Deep.LoopGhost
namespace Go.Proofs.YtajghehicmlajaaDoor
open Go.RowKit

/-! ## Regions that draw their order -/
def DRun (cx : Cx) (ops : Array Oper) (σ : Obs) : List Oper → Env → (Env → Prop) → Prop
  | [], e, Qe => Qe e
  | o :: l, e, Qe => DstOk cx.N o ∧ ((∃ s, GW ops o e true ∧ AOp cx.P cx.B ops o e σ s ∧ DRun cx ops σ l (e.put o.dst s) Qe) ∨ (GW ops o e false ∧ DRun cx ops σ l (e.put o.dst (.d (.v undef))) Qe))

theorem DRun.nil {cx : Cx} {ops : Array Oper} {σ : Obs} {e : Env} {Qe : Env → Prop} (h : Qe e) : DRun cx ops σ [] e Qe := h
theorem DRun.cons {cx : Cx} {ops : Array Oper} {σ : Obs} {e : Env} {Qe : Env → Prop} {o : Oper} {l : List Oper} {s : S} (hg : GW ops o e true) (hd : DstOk cx.N o) (h : AOp cx.P cx.B ops o e σ s)
    (k : DRun cx ops σ l (e.put o.dst s) Qe) : DRun cx ops σ (o :: l) e Qe := ⟨hd, .inl ⟨s, hg, h, k⟩⟩
theorem DRun.skip {cx : Cx} {ops : Array Oper} {σ : Obs} {e : Env} {Qe : Env → Prop} {o : Oper} {l : List Oper} (hg : GW ops o e false) (hd : DstOk cx.N o)
    (k : DRun cx ops σ l (e.put o.dst (.d (.v undef))) Qe) : DRun cx ops σ (o :: l) e Qe := ⟨hd, .inr ⟨hg, k⟩⟩

theorem DRun.step {cx : Cx} {ops : Array Oper} {σ : Obs} {e : Env} {Qe : Env → Prop} {o : Oper} {l : List Oper} {s : S} {t : Nat} (hg : GW ops o e true) (ht : o.dst = some t) (hd : Nat.blt t cx.N = true) (h : AOp cx.P cx.B ops o e σ s)
    (k : DRun cx ops σ l (e.put (some t) s) Qe) : DRun cx ops σ (o :: l) e Qe := .cons hg (by unfold DstOk; rw [ht]; exact hd) h (by rw [ht]; exact k)
theorem DRun.pass {cx : Cx} {ops : Array Oper} {σ : Obs} {e : Env} {Qe : Env → Prop} {o : Oper} {l : List Oper} {t : Nat} (hg : GW ops o e false) (ht : o.dst = some t) (hd : Nat.blt t cx.N = true)
    (k : DRun cx ops σ l (e.put (some t) (.d (.v undef))) Qe) : DRun cx ops σ (o :: l) e Qe := .skip hg (by unfold DstOk; rw [ht]; exact hd) (by rw [ht]; exact k)

def AStep (cx : Cx) (ops : Array Oper) (σ : Obs) (o : Oper) (e : Env) (s : S) : Prop :=
  (GW ops o e true ∧ AOp cx.P cx.B ops o e σ s) ∨ (GW ops o e false ∧ s = .d (.v undef))

theorem guard_looks {ops : Array Oper} {o : Oper} {j : Nat} {want : Bool} {t : Nat} (h : o.guard = some (j, want)) (ht : (ops[j]?).bind (·.dst) = some t) : t ∈ o.looksAt ops := by
  unfold Oper.looksAt; rw [h]; simp [ht]

theorem GW.same {ops : Array Oper} {o : Oper} {e e' : Env} {b : Bool} (h : GW ops o e b) (he : ∀ t, t ∈ o.looksAt ops → e' t = e t) : GW ops o e' b := by
  unfold GW at *
  cases hg : o.guard with
  | none => simp only [hg] at h ⊢; exact h
  | some p =>
    obtain ⟨j, want⟩ := p
    simp only [hg] at h ⊢
    obtain ⟨t, ht, h⟩ := h
    exact ⟨t, ht, by rw [he t (guard_looks hg ht)]; exact h⟩

theorem AStep.same {cx : Cx} {ops : Array Oper} {σ : Obs} {o : Oper} {e e' : Env} {s : S} (h : AStep cx ops σ o e s) (he : ∀ t, t ∈ o.looksAt ops → e' t = e t) : AStep cx ops σ o e' s := by
  rcases h with ⟨h1, h2⟩ | ⟨h1, h2⟩
  · exact .inl ⟨h1.same he, fun F ρ w a hF ha hσ => h2 F ρ w a hF (fun t ht => by rw [← he t ht]; exact ha t ht) hσ⟩
  · exact .inr ⟨h1.same he, h2⟩

def anyD (cx : Cx) (ops : Array Oper) (σ : Obs) (Qe : Env → Prop) : Nat → Array Bool → Env → Prop
  | 0, listed, e => Region.ready .any ops listed = [] ∧ Qe e
  | fuel + 1, listed, e => (Region.ready .any ops listed = [] → Qe e) ∧
      ∀ i ∈ Region.ready .any ops listed, ∀ o, ops[i]? = some o → ∃ s, AStep cx ops σ o e s ∧ anyD cx ops σ Qe fuel (listed.setIfInBounds i true) (e.put o.dst s)

theorem put_looks {e : Env} {o : Oper} {dst : Option Nat} {s : S} {ops : Array Oper} (h : ∀ d, dst = some d → d ∉ o.looksAt ops) : ∀ t, t ∈ o.looksAt ops → (e.put dst s) t = e t := by
  intro t ht
  cases hd : dst with
  | none => rfl
  | some d => exact Env.put_other _ _ _ _ (fun hh => h d hd (hh ▸ ht))

theorem anyD_first {cx : Cx} {ops : Array Oper} {σ : Obs} {Qe : Env → Prop} {i : Nat} {oi : Oper} {s : S} (hi : ops[i]? = some oi) :
    ∀ (fuel : Nat) (listed : Array Bool) (e : Env),
      (∀ j oj, ops[j]? = some oj → j ≠ i → listed.getD j true = false → (∀ e ∈ oj.after, Region.binds .any e = true → e.on ≠ i) → oi.apart ops oj = true) →
      i ∈ Region.ready .any ops listed → AStep cx ops σ oi e s → anyD cx ops σ Qe fuel (listed.setIfInBounds i true) (e.put oi.dst s) → anyD cx ops σ Qe (fuel + 1) listed e := by
  intro fuel
  induction fuel with
  | zero =>
    intro listed e _ hr hy H
    refine ⟨fun h => (by rw [h] at hr; cases hr), fun j hj o ho => ?_⟩
    by_cases hji : j = i
    · subst hji
      rw [hi] at ho; cases ho
      exact ⟨s, hy, H⟩
    · have := ready_mono hj hji
      rw [H.1] at this
      cases this
  | succ fuel ih =>
    intro listed e hfree hr hy H
    refine ⟨fun h => (by rw [h] at hr; cases hr), fun j hj oj hoj => ?_⟩
    by_cases hji : j = i
    · subst hji
      rw [hi] at hoj; cases hoj
      exact ⟨s, hy, H⟩
    · obtain ⟨sj, h1, h2⟩ := H.2 j (ready_mono hj hji) oj hoj
      obtain ⟨hjun, oj', hoj', hall⟩ := mem_ready.1 hj
      rw [hoj] at hoj'; cases hoj'
      have hnot : ∀ e ∈ oj.after, Region.binds .any e = true → e.on ≠ i := fun e he hb heq => by
        have h1 := hall e he hb
        have h0 := (mem_ready.1 hr).1
        rw [heq] at h1
        rcases Nat.lt_or_ge i listed.size with h' | h'
        · simp [h'] at h0 h1; rw [h0] at h1; cases h1
        · simp [Array.getElem?_eq_none h'] at h1
      obtain ⟨a1, a2, a3⟩ := Oper.apart_spec (hfree j oj hoj hji hjun hnot)
      refine ⟨sj, h1.same (fun t ht => (put_looks a1 t ht).symm), ?_⟩
      refine ih (listed.setIfInBounds j true) (e.put oj.dst sj) (fun k ok hk hki hun hno => ?_) (ready_mono hr (Ne.symm hji)) (hy.same (put_looks a3)) ?_
      · refine hfree k ok hk hki ?_ hno
        by_cases hjk : j = k
        · subst hjk; exact hjun
        · rw [getD_set_ne true hjk] at hun; exact hun
      · rw [Array.setIfInBounds_comm _ _ hji, ← Env.put_comm e oi.dst oj.dst s sj a2]
        exact h2

theorem anyD_lex {cx : Cx} {ops : Array Oper} {σ : Obs} {Qe : Env → Prop} : ∀ (l : List Oper) (k : Nat) (listed : Array Bool) (e : Env), (∀ j, l[j]? = ops[k + j]?) →
    Region.lexFrom .any ops l.length k listed = true → DRun cx ops σ l e Qe → anyD cx ops σ Qe l.length listed e
  | [], _, _, _, _, hB, h => ⟨by simpa [Region.lexFrom] using hB, h⟩
  | o :: l, k, listed, e, hl, hB, h => by
    have h0 : ops[k]? = some o := by simpa using (hl 0).symm
    simp only [List.length_cons, Region.lexFrom, Bool.and_eq_true] at hB
    obtain ⟨⟨hr, hf⟩, hB'⟩ := hB
    have hl' : ∀ j, l[j]? = ops[k + 1 + j]? := fun j => by have := hl (j + 1); simpa [Nat.add_assoc, Nat.add_comm 1 j] using this
    obtain ⟨_, ⟨s, hg, ho, hK⟩ | ⟨hg, hK⟩⟩ := h
    · exact anyD_first h0 l.length listed e (Region.free_spec h0 hf) (by simpa using hr) (.inl ⟨hg, ho⟩) (anyD_lex l (k + 1) _ _ hl' hB' hK)
    · exact anyD_first h0 l.length listed e (Region.free_spec h0 hf) (by simpa using hr) (.inr ⟨hg, rfl⟩) (anyD_lex l (k + 1) _ _ hl' hB' hK)

theorem DRun.dsts {cx : Cx} {ops : Array Oper} {σ : Obs} {Qe : Env → Prop} : ∀ (l : List Oper) (e : Env), DRun cx ops σ l e Qe → ∀ o ∈ l, DstOk cx.N o
  | [], _, _, o, ho => by cases ho
  | x :: l, e, h, o, ho => by
    obtain ⟨h1, ⟨_, _, _, h2⟩ | ⟨_, h2⟩⟩ := h <;> (cases ho with
      | head => exact h1
      | tail _ ho => exact DRun.dsts l _ h2 o ho)

theorem wpAny_of_D {cx : Cx} {ops : Array Oper} {σ : Obs} {Q : Post} (hd : ∀ o ∈ ops.toList, DstOk cx.N o) : ∀ (fuel : Nat) (listed : Array Bool) (e : Env) (a : Act) (w : World), R cx e σ a w →
    anyD cx ops σ (fun e => Q .normal e σ) fuel listed e → wpAny cx.P .any ops (lift cx Q) fuel listed a w
  | 0, _, e, _, _, hr, h => ⟨h.1, e, σ, h.2, hr⟩
  | fuel + 1, listed, e, a, w, hr, h => by
    refine ⟨fun h0 => ⟨e, σ, h.1 h0, hr⟩, fun i hi => ?_⟩
    obtain ⟨_, o, ho, _⟩ := mem_ready.1 hi
    obtain ⟨s, hs, hk⟩ := h.2 i hi o ho
    have hdo : DstOk cx.N o := hd o (Array.mem_toList_iff.2 (Array.mem_of_getElem? ho))
    unfold wpOp
    simp only [ho]
    obtain ⟨F, ρ, hr⟩ := hr
    rcases hs with ⟨hg, hop⟩ | ⟨hg, rfl⟩
    · rw [if_pos (hg.wanted (fun t _ => hr.env t))]
      refine .inl (wp_to ?_ (fun _ _ _ => False.elim) (hop F ρ w a hr.lt (fun t _ => hr.env t) hr.obs))
      rintro a' w' ⟨v, F', rfl, hv, he⟩
      exact wpAny_of_D hd fuel _ _ _ _ ⟨F', ρ, hr.put he hv hdo⟩ hk
    · rw [if_neg (by rw [hg.wanted (fun t _ => hr.env t)]; simp)]
      exact wpAny_of_D hd fuel _ _ _ _ ⟨F, ρ, hr.put (Ext.refl hr.lt) repS_undef hdo⟩ hk

/-- A region that draws its order, walked once, in the order of the text. -/
theorem AWP.draw {cx : Cx} {id : Nat} {l : List Oper} {e : Env} {σ : Obs} {Q : Post} (hm : cx.P.follows .mixedOrders = true) (hB : Region.lexB .any l.toArray = true)
    (h : DRun cx l.toArray σ l e (fun e => Q .normal e σ)) : AWP cx (.region id l.toArray true) e σ Q := by
  intro a w ⟨F, ρ, hr⟩
  simp only [Region.lexB, Bool.and_eq_true] at hB
  have h1 := anyD_lex l 0 (Array.replicate l.toArray.size false) e (by simp) (by simpa using hB.2) h
  exact wp_region_any hm (wpAny_of_D (by simpa using DRun.dsts l e h) _ _ e a _ ⟨F, ρ, hr.drew⟩ (by simpa using h1))

theorem AWP.region {cx : Cx} {id : Nat} {l : List Oper} {e : Env} {σ : Obs} {Q : Post} (h : AOps cx l.toArray l e σ Q) : AWP cx (.region id l.toArray false) e σ Q :=
  fun a w hr => wp_region_list (by simpa using h a w hr)

/-! ## Code -/
def ThenQ (cx : Cx) (c : Code) (Q : Post) : Post := fun ex e σ => match ex with
  | .normal => AWP cx c e σ Q
  | ex => Q ex e σ
def BlockQ (id : Nat) (Q : Post) : Post := fun ex e σ => match ex with
  | .exit id' => if id' = id then Q .normal e σ else Q (.exit id') e σ
  | ex => Q ex e σ

section
variable {cx : Cx} {e : Env} {σ : Obs} {Q : Post}
theorem AWP.skip (h : Q .normal e σ) : AWP cx .skip e σ Q := fun _ _ hr => wp_skip ⟨e, σ, h, hr⟩
theorem AWP.label {l : Nat} (h : Q .normal e σ) : AWP cx (.label l) e σ Q := fun _ _ hr => wp_label ⟨e, σ, h, hr⟩
theorem AWP.exit {id : Nat} (h : Q (.exit id) e σ) : AWP cx (.exit id) e σ Q := fun _ _ hr => wp_exit ⟨e, σ, h, hr⟩
theorem AWP.ret (h : Q .ret e σ) : AWP cx .ret e σ Q := fun _ _ hr => wp_ret ⟨e, σ, h, hr⟩
theorem AWP.seq {x y : Code} (h : AWP cx x e σ (ThenQ cx y Q)) : AWP cx (.seq x y) e σ Q := fun a w hr => by
  refine wp_seq (wp_mono (h a w hr) ?_)
  rintro ex a' w' ⟨e', σ', hq, hr'⟩
  cases ex with
  | normal => exact hq a' w' hr'
  | exit id => exact ⟨e', σ', hq, hr'⟩
  | goto l => exact ⟨e', σ', hq, hr'⟩
  | ret => exact ⟨e', σ', hq, hr'⟩
  | panic c => exact ⟨e', σ', hq, hr'⟩
  | outgrown => exact ⟨e', σ', hq, hr'⟩
theorem AWP.block {id : Nat} {c : Code} (h : AWP cx c e σ (BlockQ id Q)) : AWP cx (.block id c) e σ Q := fun a w hr => by
  refine wp_block (wp_mono (h a w hr) ?_)
  rintro ex a' w' ⟨e', σ', hq, hr'⟩
  cases ex with
  | normal => exact ⟨e', σ', hq, hr'⟩
  | exit id' =>
    simp only [BlockQ] at hq
    simp only [Exit.inBlock]
    split
    · rename_i he; rw [if_pos he] at hq; exact ⟨e', σ', hq, hr'⟩
    · rename_i he; rw [if_neg he] at hq; exact ⟨e', σ', hq, hr'⟩
  | goto l => exact ⟨e', σ', hq, hr'⟩
  | ret => exact ⟨e', σ', hq, hr'⟩
  | panic c => exact ⟨e', σ', hq, hr'⟩
  | outgrown => exact ⟨e', σ', hq, hr'⟩
theorem rep_v {F : Nat → Prop} {w : World} {x y : Value} (h : Rep F w x (.v y)) : x = y := by cases h; rfl
theorem repS_v {F : Nat → Prop} {ρ : Nat → Value} {w : World} {x y : Value} (h : RepS F ρ w x (.d (.v y))) : x = y := by cases h with | d h => exact rep_v h
theorem ev_rep {F : Nat → Prop} {ρ : Nat → Value} {w : World} {a : Act} {x : Operand} (h : ∀ t, x = .tmp t → RepS F ρ w (a.tmps.getD t undef) (e t)) : RepS F ρ w (a.eval x) (e.ev x) := by
  cases x with
  | tmp t => exact h t rfl
  | const v => exact .d (.v _)
  | global g => exact .d (.v _)
  | func f => exact .d (.v _)
theorem AWP.cond {c : Operand} {x y : Code} {b : Bool} (hc : e.ev c = .d (.v (.bool b))) (ht : b = true → AWP cx x e σ Q) (hf : b = false → AWP cx y e σ Q) : AWP cx (.cond c x y) e σ Q := fun a w hr => by
  obtain ⟨F, ρ, hr0⟩ := hr
  have h1 := ev_rep (x := c) (a := a) (fun t _ => hr0.env t)
  rw [hc] at h1
  exact wp_cond_split (repS_v h1) (fun h => ht h a w ⟨F, ρ, hr0⟩) (fun h => hf h a w ⟨F, ρ, hr0⟩)
theorem AWP.mono {c : Code} {Q' : Post} (h : AWP cx c e σ Q) (hq : ∀ ex e σ, Q ex e σ → Q' ex e σ) : AWP cx c e σ Q' := fun a w hr =>
  wp_mono (h a w hr) fun _ _ _ ⟨e', σ', h1, h2⟩ => ⟨e', σ', hq _ _ _ h1, h2⟩
end

/-! ## Weaker states -/
def Le (d d' : D) : Prop := ∀ F w x, Rep F w x d → Rep F w x d'
def SLe (s s' : S) : Prop := ∀ F ρ w x, RepS F ρ w x s → RepS F ρ w x s'
theorem Le.refl (d : D) : Le d d := fun _ _ _ h => h
theorem Le.of_eq {d d' : D} (h : d = d') : Le d d' := h ▸ Le.refl d
theorem Le.any (d : D) : Le d .any := fun _ _ _ _ => .any _
theorem Le.nil : Le (.v (.slice none 0 0)) (.sl []) := fun _ _ _ h => by cases h; exact .nil
theorem Le.trans {a b c : D} (h : Le a b) (k : Le b c) : Le a c := fun F w x hx => k F w x (h F w x hx)
theorem SLe.refl (s : S) : SLe s s := fun _ _ _ _ h => h
theorem SLe.of_eq {s s' : S} (h : s = s') : SLe s s' := h ▸ SLe.refl s
theorem SLe.d {d d' : D} (h : Le d d') : SLe (.d d) (.d d') := fun F ρ w x hx => by cases hx with | d hx => exact .d (h F w x hx)
theorem SLe.any (s : S) : SLe s (.d .any) := fun _ _ _ _ _ => .d (.any _)

def Sub (e : Env) (σ : Obs) (e' : Env) (σ' : Obs) : Prop := ∀ cx a w, R cx e σ a w → R cx e' σ' a w
def AllLe (e : Env) : List (Nat × S) → Prop
  | [] => True
  | p :: l => SLe (e p.1) p.2 ∧ AllLe e l
theorem AllLe.at {e : Env} : ∀ {l : List (Nat × S)}, AllLe e l → ∀ t, SLe (e t) (Env.of l t)
  | [], _, t => SLe.any _
  | (u, s) :: l, h, t => by
    unfold Env.of
    cases hb : Nat.beq t u with
    | true => have : t = u := Nat.eq_of_beq_eq_true hb; subst this; exact h.1
    | false => exact AllLe.at h.2 t
theorem Sub.of {e : Env} {σ σ' : Obs} {e' : Env} (h : ∀ t, SLe (e t) (e' t)) (hσ : ∀ p ∈ σ', p ∈ σ) : Sub e σ e' σ' := by
  intro cx a w ⟨F, ρ, hr⟩
  exact ⟨F, ρ, hr.size, hr.defers, hr.lt, hr.base, hr.new, hr.below, hr.hB, fun t => h t _ _ _ _ (hr.env t), ⟨fun p hp => hr.obs.ok p (hσ p hp), fun p hp q hq => hr.obs.apart p (hσ p hp) q (hσ q hq), fun p hp q hq => hr.obs.uniq p (hσ p hp) q (hσ q hq)⟩, hr.up, fun p hp => hr.kown p (hσ p hp), hr.fixed⟩
theorem Sub.list {e : Env} {σ : Obs} {l : List (Nat × S)} (h : AllLe e l) : Sub e σ (Env.of l) σ := .of h.at fun _ h => h
theorem Sub.less {e : Env} {σ σ' : Obs} {l : List (Nat × S)} (h : AllLe e l) (hσ : ∀ p ∈ σ', p ∈ σ) : Sub e σ (Env.of l) σ' := .of h.at hσ
theorem AWP.weaken {cx : Cx} {c : Code} {e e' : Env} {σ σ' : Obs} {Q : Post} (h : Sub e σ e' σ') (k : AWP cx c e' σ' Q) : AWP cx c e σ Q := fun a w hr => k a w (h cx a w hr)

def LoopQ {G : Type} (I : G → Env) (τ : G → Obs) (ok : G → Prop) (μ : G → Nat) (n : Nat) (Q : Post) : Post := fun ex e σ => match ex with
  | .normal => ∃ g, ok g ∧ μ g < n ∧ Sub e σ (I g) (τ g)
  | ex => Q ex e σ
theorem AWP.loop {cx : Cx} {c : Code} {e : Env} {σ : Obs} {Q : Post} {G : Type} (I : G → Env) (τ : G → Obs) (ok : G → Prop) (μ : G → Nat) (g0 : G) (hg : ok g0) (h0 : Sub e σ (I g0) (τ g0))
    (round : ∀ g, ok g → AWP cx c (I g) (τ g) (LoopQ I τ ok μ (μ g) Q)) : AWP cx (.loop c) e σ Q := by
  intro a w hr
  refine wp_loop_ghost (fun n a w => ∃ g, ok g ∧ μ g = n ∧ R cx (I g) (τ g) a w) (μ g0) ⟨g0, hg, rfl, h0 cx a w hr⟩ ?_
  rintro n a w ⟨g, hok, rfl, hr⟩
  refine wp_mono (round g hok a w hr) ?_
  rintro ex a' w' ⟨e', σ', hq, hr'⟩
  cases ex with
  | normal =>
    obtain ⟨g', h1, h2, h3⟩ := hq
    exact ⟨μ g', h2, g', h1, rfl, h3 cx a' w' hr'⟩
  | exit id => exact ⟨e', σ', hq, hr'⟩
  | goto l => exact ⟨e', σ', hq, hr'⟩
  | ret => exact ⟨e', σ', hq, hr'⟩
  | panic c => exact ⟨e', σ', hq, hr'⟩
  | outgrown => exact ⟨e', σ', hq, hr'⟩

/-! ## Calls -/
def Enters (P : Program) (f : FuncId) : Prop := ∀ args w, (callFunc f args).run P w = .ok (.enter f args) w
theorem Enters.of {P : Program} {f : FuncId} {fn : Func} (hf : P.funcs[f]? = some fn) (hn : (fn.name == "runtime.NumGoroutine") = false) (hb : fn.body.isNone = false) : Enters P f := by
  intro args w
  simp only [callFunc, Sem.run_bind]
  have : (program : Sem Program).run P w = .ok P w := rfl
  rw [this]
  simp only [Result.andThen_ok, hf, hn, hb, Bool.false_eq_true, if_false]
  rfl

def RepL (F : Nat → Prop) (w : World) (vs : List Value) (ds : List D) : Prop := vs.length = ds.length ∧ ∀ i (h1 : i < vs.length) (h2 : i < ds.length), Rep F w vs[i] ds[i]

/-- f, called with values that read as ds, returns a value that reads as d; what was there stays. -/
def ACall (P : Program) (f : FuncId) (ds : List D) (d : D) : Prop := Enters P f ∧
  ∀ (F : Nat → Prop) (w : World) (vs : List Value), (∀ b, F b → b < w.heap.size) → RepL F w vs ds → Calls P f vs.toArray w fun e w' => ∃ v F', e = .returned v ∧ Rep F' w' v d ∧ Ext F w F' w'

theorem ACall.le {P : Program} {f : FuncId} {ds : List D} {d d' : D} (h : ACall P f ds d) (hd : Le d d') : ACall P f ds d' :=
  ⟨h.1, fun F w vs hF hv => (h.2 F w vs hF hv).mono fun _ _ ⟨v, F', h1, h2, h3⟩ => ⟨v, F', h1, hd _ _ _ h2, h3⟩⟩

def ArgOk (e : Env) (x : Operand) (d : D) : Prop := ∃ d0, e.ev x = .d d0 ∧ Le d0 d
theorem ArgOk.rfl' {e : Env} {x : Operand} {d : D} (h : e.ev x = .d d) : ArgOk e x d := ⟨d, h, Le.refl d⟩
theorem ArgOk.nil {e : Env} {x : Operand} (h : e.ev x = .d (.v (.slice none 0 0))) : ArgOk e x (.sl []) := ⟨_, h, Le.nil⟩
def ArgsOk (e : Env) : List Operand → List D → Prop
  | [], [] => True
  | x :: xs, d :: ds => ArgOk e x d ∧ ArgsOk e xs ds
  | _, _ => False

theorem ArgsOk.nil {e : Env} : ArgsOk e [] [] := trivial
theorem ArgsOk.cons {e : Env} {x : Operand} {d : D} {xs : List Operand} {ds : List D} (h : ArgOk e x d) (k : ArgsOk e xs ds) : ArgsOk e (x :: xs) (d :: ds) := ⟨h, k⟩

theorem RepL.cons {F : Nat → Prop} {w : World} {v : Value} {d : D} {vs : List Value} {ds : List D} (h : Rep F w v d) (k : RepL F w vs ds) : RepL F w (v :: vs) (d :: ds) := by
  refine ⟨by simp [k.1], fun i h1 h2 => ?_⟩
  cases i with
  | zero => exact h
  | succ i => exact k.2 i (by simpa using h1) (by simpa using h2)
theorem RepL.nil {F : Nat → Prop} {w : World} : RepL F w [] [] := ⟨rfl, fun i h => absurd h (by simp)⟩

theorem repS_d {F : Nat → Prop} {ρ : Nat → Value} {w : World} {x : Value} {d : D} (h : RepS F ρ w x (.d d)) : Rep F w x d := by
  cases h with | d h => exact h
theorem ArgsOk.rep {e : Env} {F : Nat → Prop} {ρ : Nat → Value} {w : World} {a : Act} : ∀ {xs : List Operand} {ds : List D}, ArgsOk e xs ds → (∀ t, .tmp t ∈ xs → RepS F ρ w (a.tmps.getD t undef) (e t)) →
    RepL F w (xs.map a.eval) ds
  | [], [], _, _ => RepL.nil
  | x :: xs, d :: ds, h, ha => by
    obtain ⟨d0, h1, h2⟩ := h.1
    have h3 := ev_rep (e := e) (x := x) (a := a) (F := F) (ρ := ρ) (w := w) (fun t ht => ha t (by rw [ht]; simp))
    rw [h1] at h3
    refine RepL.cons ?_ (ArgsOk.rep h.2 fun t ht => ha t (List.mem_cons_of_mem _ ht))
    exact h2 _ _ _ (repS_d h3)
  | [], _ :: _, h, _ => h.elim
  | _ :: _, [], h, _ => h.elim

theorem repL_ops {e : Env} {F : Nat → Prop} {ρ : Nat → Value} {w : World} {a : Act} : ∀ {xs : List Operand} {ds : List D}, ArgsOk e xs ds → (∀ x ∈ xs, RepS F ρ w (a.eval x) (e.ev x)) → RepL F w (xs.map a.eval) ds
  | [], [], _, _ => RepL.nil
  | x :: xs, d :: ds, h, ha => by
    obtain ⟨d0, h1, h2⟩ := h.1
    have h3 := ha x (by simp)
    rw [h1] at h3
    exact RepL.cons (h2 _ _ _ (repS_d h3)) (repL_ops h.2 fun y hy => ha y (List.mem_cons_of_mem _ hy))
  | [], _ :: _, h, _ => h.elim
  | _ :: _, [], h, _ => h.elim
theorem RepL.append {F : Nat → Prop} {w : World} : ∀ {vs : List Value} {ds : List D} {vs' : List Value} {ds' : List D}, RepL F w vs ds → RepL F w vs' ds' → RepL F w (vs ++ vs') (ds ++ ds') := by
  intro vs ds vs' ds' h k
  refine ⟨by simp [h.1, k.1], fun i h1 h2 => ?_⟩
  by_cases hi : i < vs.length
  · rw [List.getElem_append_left hi, List.getElem_append_left (by rw [← h.1]; exact hi)]
    exact h.2 _ _ _
  · rw [List.getElem_append_right (by omega), List.getElem_append_right (by rw [← h.1]; omega)]
    simp only [← h.1]
    exact k.2 _ _ _

theorem looks_op {ops : Array Oper} {o : Oper} {t : Nat} (h : Operand.tmp t ∈ o.op.operands.toList) : t ∈ o.looksAt ops := by
  unfold Oper.looksAt
  exact List.mem_append_left _ (List.mem_filterMap.2 ⟨_, h, rfl⟩)

theorem AOp.call {P : Program} {B : Nat} {ops : Array Oper} {o : Oper} {e : Env} {σ : Obs} {f : FuncId} {xs : List Operand} {ts : Array TypeId} {ds : List D} {d : D}
    (ho : o.op = .call { callee := .value (.func f), args := xs.toArray, argTypes := ts }) (ha : ArgsOk e xs ds) (h : ACall P f ds d) : AOp P B ops o e σ (.d d) := by
  intro F ρ w a hF hr _
  have h1 : RepL F w (xs.map a.eval) ds := ha.rep (ρ := ρ) fun t ht => hr t (looks_op (by rw [ho]; simp [Op.operands, Call.operands, ht]))
  have h2 := h.2 F w _ hF h1
  have h3 := h.1 (xs.map a.eval).toArray w
  have hx : (execOp a.eval o).run P w = .ok (.enter f (xs.map a.eval).toArray) w := by
    unfold execOp
    simp only [ho, resolve, Deferred.ofValue, Act.eval, invoke, Sem.run_bind, Sem.run_pure, Result.andThen_ok]
    simpa using h3
  unfold Oper.wp
  rw [hx]
  exact h2.mono fun _ w' ⟨v, F', he, hv, hE⟩ => by subst he; exact ⟨v, F', rfl, .d hv, hE⟩

theorem sum_const (c : Nat) : ∀ n, ((List.range n).map fun _ => c).sum = n * c
  | 0 => by simp
  | n + 1 => by rw [List.range_succ, List.map_append, List.sum_append, sum_const c n, Nat.add_mul]; simp
theorem flatten_get (xs : Nat → Nat → Value) (size : Nat) : ∀ (n i j : Nat), i < n → j < size → (((List.range n).map fun i => (List.range size).map (xs i)).flatten)[i * size + j]? = some (xs i j) := by
  intro n
  induction n with
  | zero => intro i j h; omega
  | succ n ih =>
    intro i j hi hj
    have hl : (((List.range n).map fun i => (List.range size).map (xs i)).flatten).length = n * size := by
      rw [List.length_flatten, List.map_map]
      have : (List.length ∘ fun i => List.map (xs i) (List.range size)) = fun _ => size := by funext k; simp
      rw [this]
      exact sum_const size n
    rw [List.range_succ, List.map_append, List.flatten_append]
    by_cases h : i < n
    · have hlt : i * size + j < n * size := by
        have := Nat.mul_le_mul_right size (show i + 1 ≤ n from h)
        rw [Nat.add_mul] at this
        omega
      rw [List.getElem?_append_left (by rw [hl]; exact hlt)]
      exact ih i j h hj
    · have : i = n := by omega
      subst this
      rw [List.getElem?_append_right (by rw [hl]; omega), hl, Nat.add_sub_cancel_left]
      simp [hj]

theorem R0.rep_row {cx : Cx} {F : Nat → Prop} {ρ : Nat → Value} {e : Env} {σ : Obs} {a : Act} {w : World} (h : R0 cx F ρ e σ a w) {id ee size : Nat} {els : List (List D)} (hm : (id, .row ee size els) ∈ σ) {F' : Nat → Prop}
    (hF : ∀ b, F b → F' b) (hb : ∀ g, blk (ρ id) = some g → F' g) : Rep F' w (ρ id) (.sl els) := by
  obtain ⟨xs, h1, h2, h3, _⟩ := h.obs.ok _ hm
  dsimp only at h1 hb
  generalize ρ id = v at *
  have hlen : (((List.range els.length).map fun i => (List.range size).map (xs i)).flatten).length = els.length * size := by
    exact h1.1
  have hget : ∀ i j, i < els.length → j < size → (((List.range els.length).map fun i => (List.range size).map (xs i)).flatten)[i * size + j]? = some (xs i j) := by
    intro i j hi hj
    exact flatten_get xs size _ i j hi hj
  rcases h1.2 with ⟨rfl, h4⟩ | ⟨g, cap, cur, rfl, hg, hh, hn, hmx, hcs, ht⟩
  · have : els = [] := List.eq_nil_of_length_eq_zero h4
    subst this
    exact .nil
  · refine .sl ⟨g, 0, none⟩ cap size els xs hn (by unfold maxLen at hmx; omega) (fun _ => hb g rfl) h2 ?_ (fun i j hi hj => (h3 i hi j (by rw [h2]; exact hj)).1) (fun i hi j hj => (h3 i hi j hj).2.mono hF fun _ _ => rfl)
    intro i j hi hj
    exact World.ownsRow.cells h1 (g := g) rfl _ _ (hget i j hi hj)
end Go.Proofs.YtajghehicmlajaaDoor
