/- Abstract values: regions that draw their order and write. No statement of the seat. -/
import Derived.Test.YtajghehicmlajaaDoorA15
namespace Go.Proofs.YtajghehicmlajaaDoor
open Go.RowKit
set_option linter.unusedVariables false

/-- An operation that writes: from the objects σ to σ'; whatever else the slots hold. -/
def EOp (cx : Cx) (ops : Array Oper) (o : Oper) (e : Env) (σ σ' : Obs) : Prop :=
  ∀ (F : Nat → Prop) (ρ : Nat → Value) (a : Act) (w : World) (e0 : Env), R0 cx F ρ e0 σ a w → (∀ t, t ∈ o.looksAt ops → RepS F ρ w (a.tmps.getD t undef) (e t)) →
    o.wp cx.P a w (fun a' w' => a' = a ∧ ∀ e2, R0 cx F ρ e2 σ a w → ∃ F' ρ', R0 cx F' ρ' e2 σ' a w') (fun _ _ _ => False)

theorem EOp.same {cx : Cx} {ops : Array Oper} {o : Oper} {e e' : Env} {σ σ' : Obs} (h : EOp cx ops o e σ σ') (he : ∀ t, t ∈ o.looksAt ops → e' t = e t) : EOp cx ops o e' σ σ' :=
  fun F ρ a w e0 hr ha => h F ρ a w e0 hr fun t ht => by rw [← he t ht]; exact ha t ht
theorem AOp.same {P : Program} {B : Nat} {ops : Array Oper} {o : Oper} {e e' : Env} {σ : Obs} {s : S} (h : AOp P B ops o e σ s) (he : ∀ t, t ∈ o.looksAt ops → e' t = e t) : AOp P B ops o e' σ s :=
  fun F ρ w a hF ha hσ => h F ρ w a hF (fun t ht => by rw [← he t ht]; exact ha t ht) hσ

/-- One step; sl: who reads objects, ef: who writes them. -/
def GStep (cx : Cx) (ops : Array Oper) (sl ef : Nat → Bool) (k : Nat) (o : Oper) (e : Env) (σ : Obs) (e' : Env) (σ' : Obs) : Prop :=
  (GW ops o e true ∧ ∃ s, ((sl k = true ∧ AOp cx.P cx.B ops o e σ s) ∨ (∀ τ, AOp cx.P cx.B ops o e τ s)) ∧ e' = e.put o.dst s ∧ σ' = σ) ∨
  (GW ops o e false ∧ e' = e.put o.dst (.d (.v undef)) ∧ σ' = σ) ∨
  (GW ops o e true ∧ ef k = true ∧ o.dst = none ∧ EOp cx ops o e σ σ' ∧ e' = e)

def GRun (cx : Cx) (ops : Array Oper) (sl ef : Nat → Bool) : Nat → List Oper → Env → Obs → (Env → Obs → Prop) → Prop
  | _, [], e, σ, Q => Q e σ
  | k, o :: l, e, σ, Q => DstOk cx.N o ∧ ∃ e' σ', GStep cx ops sl ef k o e σ e' σ' ∧ GRun cx ops sl ef (k + 1) l e' σ' Q

def anyG (cx : Cx) (ops : Array Oper) (sl ef : Nat → Bool) (Q : Env → Obs → Prop) : Nat → Array Bool → Env → Obs → Prop
  | 0, listed, e, σ => Region.ready .any ops listed = [] ∧ Q e σ
  | fuel + 1, listed, e, σ => (Region.ready .any ops listed = [] → Q e σ) ∧
      ∀ i ∈ Region.ready .any ops listed, ∀ o, ops[i]? = some o → ∃ e' σ', GStep cx ops sl ef i o e σ e' σ' ∧ anyG cx ops sl ef Q fuel (listed.setIfInBounds i true) e' σ'

theorem anyG_first {cx : Cx} {ops : Array Oper} {sl ef : Nat → Bool} (hse : ∀ k, ef k = true → sl k = true) {Q : Env → Obs → Prop} {i : Nat} {oi : Oper} (hi : ops[i]? = some oi) (late : Nat → Bool)
    (hclos : ∀ j oj, ops[j]? = some oj → late j = true → ∃ e ∈ oj.after, Region.binds .any e = true ∧ (e.on = i ∨ late e.on = true)) :
    ∀ (fuel : Nat) (listed : Array Bool) (e : Env) (σ : Obs) (e1 : Env) (σ1 : Obs), (∀ j, late j = true → listed.getD j false = false) →
      (∀ j oj, ops[j]? = some oj → j ≠ i → listed.getD j true = false → (∀ e ∈ oj.after, Region.binds .any e = true → e.on ≠ i) → oi.apart ops oj = true ∧ (late j = false → (ef i = false ∨ sl j = false) ∧ (sl i = false ∨ ef j = false))) →
      i ∈ Region.ready .any ops listed → GStep cx ops sl ef i oi e σ e1 σ1 → anyG cx ops sl ef Q fuel (listed.setIfInBounds i true) e1 σ1 → anyG cx ops sl ef Q (fuel + 1) listed e σ := by
  intro fuel
  induction fuel with
  | zero =>
    intro listed e σ e1 σ1 _ _ hr hy H
    refine ⟨fun h => (by rw [h] at hr; cases hr), fun j hj o ho => ?_⟩
    by_cases hji : j = i
    · subst hji
      rw [hi] at ho; cases ho
      exact ⟨e1, σ1, hy, H⟩
    · have := ready_mono hj hji
      rw [H.1] at this
      cases this
  | succ fuel ih =>
    intro listed e σ e1 σ1 hlate hfree hr hy H
    refine ⟨fun h => (by rw [h] at hr; cases hr), fun j hj oj hoj => ?_⟩
    by_cases hji : j = i
    · subst hji
      rw [hi] at hoj; cases hoj
      exact ⟨e1, σ1, hy, H⟩
    · obtain ⟨e2, σ2, h1, h2⟩ := H.2 j (ready_mono hj hji) oj hoj
      obtain ⟨hjun, oj', hoj', hall⟩ := mem_ready.1 hj
      rw [hoj] at hoj'; cases hoj'
      have hnot : ∀ e ∈ oj.after, Region.binds .any e = true → e.on ≠ i := fun e he hb heq => by
        have h1 := hall e he hb
        have h0 := (mem_ready.1 hr).1
        rw [heq] at h1
        rcases Nat.lt_or_ge i listed.size with h' | h'
        · simp [h'] at h0 h1; rw [h0] at h1; cases h1
        · simp [Array.getElem?_eq_none h'] at h1
      have hjl : late j = false := by
        cases hl : late j with
        | false => rfl
        | true =>
          obtain ⟨e, he, hb, hh⟩ := hclos j oj hoj hl
          rcases hh with hh | hh
          · exact absurd hh (hnot e he hb)
          · have h3 := hall e he hb
            rw [hlate _ hh] at h3
            simp at h3
      obtain ⟨hap, hss⟩ := hfree j oj hoj hji hjun hnot
      obtain ⟨hs1, hs2⟩ := hss hjl
      obtain ⟨a1, a2, a3⟩ := Oper.apart_spec hap
      have fin : ∀ ej σj, GStep cx ops sl ef j oj e σ ej σj → GStep cx ops sl ef i oi ej σj e2 σ2 → ∃ e' σ', GStep cx ops sl ef j oj e σ e' σ' ∧ anyG cx ops sl ef Q (fuel + 1) (listed.setIfInBounds j true) e' σ' := fun ej σj hsj hsi => by
        refine ⟨ej, σj, hsj, ?_⟩
        refine ih (listed.setIfInBounds j true) ej σj e2 σ2 (fun k hk => ?_) (fun k ok hk hki hun hno => ?_) (ready_mono hr (Ne.symm hji)) hsi ?_
        · have hkj : j ≠ k := fun h => by rw [h, hk] at hjl; simp at hjl
          rw [getD_set_ne false hkj]
          exact hlate k hk
        · refine hfree k ok hk hki ?_ hno
          by_cases hjk : j = k
          · subst hjk; exact hjun
          · rw [getD_set_ne true hjk] at hun; exact hun
        · rw [Array.setIfInBounds_comm _ _ hji]
          exact h2
      rcases hy with ⟨hgi, s, hopi, rfl, rfl⟩ | ⟨hgi, rfl, rfl⟩ | ⟨hgi, hefi, hdi, hopi, rfl⟩
      · rcases h1 with ⟨hgj, sj, hopj, rfl, rfl⟩ | ⟨hgj, rfl, rfl⟩ | ⟨hgj, hefj, hdj, hopj, rfl⟩
        · refine fin (e.put oj.dst sj) _ (.inl ⟨hgj.same fun t ht => (put_looks a1 t ht).symm, sj, ?_, rfl, rfl⟩) (.inl ⟨hgi.same (put_looks a3), s, ?_, (Env.put_comm e oi.dst oj.dst s sj a2), rfl⟩)
          · exact hopj.imp (fun h => ⟨h.1, h.2.same fun t ht => (put_looks a1 t ht).symm⟩) (fun h τ => (h τ).same fun t ht => (put_looks a1 t ht).symm)
          · exact hopi.imp (fun h => ⟨h.1, h.2.same (put_looks a3)⟩) (fun h τ => (h τ).same (put_looks a3))
        · refine fin (e.put oj.dst (.d (.v undef))) _ (.inr (.inl ⟨hgj.same fun t ht => (put_looks a1 t ht).symm, rfl, rfl⟩)) (.inl ⟨hgi.same (put_looks a3), s, ?_, (Env.put_comm e oi.dst oj.dst s _ a2), rfl⟩)
          exact hopi.imp (fun h => ⟨h.1, h.2.same (put_looks a3)⟩) (fun h τ => (h τ).same (put_looks a3))
        · have hsi : sl i = false := by
            rcases hs2 with h | h
            · exact h
            · rw [hefj] at h; simp at h
          refine fin e σ2 (.inr (.inr ⟨hgj.same fun t ht => (put_looks a1 t ht).symm, hefj, hdj, hopj.same fun t ht => (put_looks a1 t ht).symm, rfl⟩)) (.inl ⟨hgi, s, .inr ?_, rfl, rfl⟩)
          rcases hopi with h | h
          · rw [h.1] at hsi; simp at hsi
          · exact h
      · rcases h1 with ⟨hgj, sj, hopj, rfl, rfl⟩ | ⟨hgj, rfl, rfl⟩ | ⟨hgj, hefj, hdj, hopj, rfl⟩
        · refine fin (e.put oj.dst sj) _ (.inl ⟨hgj.same fun t ht => (put_looks a1 t ht).symm, sj, ?_, rfl, rfl⟩) (.inr (.inl ⟨hgi.same (put_looks a3), (Env.put_comm e oi.dst oj.dst _ sj a2), rfl⟩))
          exact hopj.imp (fun h => ⟨h.1, h.2.same fun t ht => (put_looks a1 t ht).symm⟩) (fun h τ => (h τ).same fun t ht => (put_looks a1 t ht).symm)
        · exact fin (e.put oj.dst (.d (.v undef))) _ (.inr (.inl ⟨hgj.same fun t ht => (put_looks a1 t ht).symm, rfl, rfl⟩)) (.inr (.inl ⟨hgi.same (put_looks a3), (Env.put_comm e oi.dst oj.dst _ _ a2), rfl⟩))
        · exact fin e σ2 (.inr (.inr ⟨hgj.same fun t ht => (put_looks a1 t ht).symm, hefj, hdj, hopj.same fun t ht => (put_looks a1 t ht).symm, rfl⟩)) (.inr (.inl ⟨hgi, rfl, rfl⟩))
      · have hsj : sl j = false := by
          rcases hs1 with h | h
          · rw [hefi] at h; simp at h
          · exact h
        rcases h1 with ⟨hgj, sj, hopj, rfl, rfl⟩ | ⟨hgj, rfl, rfl⟩ | ⟨hgj, hefj, hdj, hopj, rfl⟩
        · have hall : ∀ τ, AOp cx.P cx.B ops oj e1 τ sj := by
            rcases hopj with h | h
            · rw [h.1] at hsj; simp at hsj
            · exact h
          exact fin (e1.put oj.dst sj) σ (.inl ⟨hgj, sj, .inr hall, rfl, rfl⟩) (.inr (.inr ⟨hgi.same (put_looks a3), hefi, hdi, hopi.same (put_looks a3), rfl⟩))
        · exact fin (e1.put oj.dst (.d (.v undef))) σ (.inr (.inl ⟨hgj, rfl, rfl⟩)) (.inr (.inr ⟨hgi.same (put_looks a3), hefi, hdi, hopi.same (put_looks a3), rfl⟩))
        · rw [hse j hefj] at hsj; simp at hsj

/-- Who comes after k, directly or not. -/
def Region.lateOf (ops : Array Oper) (k : Nat) : List Nat :=
  (List.range ops.size).foldl (fun acc j => if ((ops[j]?).map fun o => o.after.any fun e => Region.binds .any e && (Nat.beq e.on k || acc.any fun i => Nat.beq i e.on)).getD false then j :: acc else acc) []
/-- No two operations, of which one writes and the other one reads or writes, are free to change places. -/
def Region.sensFree (ops : Array Oper) (sl ef : Nat → Bool) (listed : Array Bool) (k : Nat) (late : Nat → Bool) : Bool :=
  (List.range ops.size).all fun j =>
    (!(late j) || (!(listed.getD j false) && ((ops[j]?).map fun o => o.after.any fun e => Region.binds .any e && (Nat.beq e.on k || late e.on)).getD true)) &&
    (Nat.beq j k || listed.getD j true || late j || (!(ef k && sl j) && !(sl k && ef j)))
def Region.lateB (ops : Array Oper) (k j : Nat) : Bool := Nat.blt j ops.size && (Region.lateOf ops k).any fun i => Nat.beq i j
def Region.sensFrom (ops : Array Oper) (sl ef : Nat → Bool) : Nat → Nat → Array Bool → Bool
  | 0, _, _ => true
  | fuel + 1, k, listed => (if sl k || ef k then Region.sensFree ops sl ef listed k (Region.lateB ops k) else true) && Region.sensFrom ops sl ef fuel (k + 1) (listed.setIfInBounds k true)
theorem Region.sensFree_spec {ops : Array Oper} {sl ef : Nat → Bool} {listed : Array Bool} {k : Nat} {late : Nat → Bool} (h : Region.sensFree ops sl ef listed k late = true) (hl : ∀ j, late j = true → j < ops.size) :
    (∀ j oj, ops[j]? = some oj → late j = true → ∃ e ∈ oj.after, Region.binds .any e = true ∧ (e.on = k ∨ late e.on = true)) ∧ (∀ j, late j = true → listed.getD j false = false) ∧
    ∀ j oj, ops[j]? = some oj → j ≠ k → listed.getD j true = false → late j = false → (ef k = false ∨ sl j = false) ∧ (sl k = false ∨ ef j = false) := by
  have h1 : ∀ j, j < ops.size → _ := fun j hj => List.all_eq_true.1 h j (List.mem_range.2 hj)
  simp only [Bool.and_eq_true] at h1
  refine ⟨fun j oj hoj hlj => ?_, fun j hlj => ?_, fun j oj hoj hjk hun hlj => ?_⟩
  · have h2 := (h1 j (Array.getElem?_eq_some_iff.1 hoj).1).1
    rw [hlj, hoj] at h2
    simp only [Bool.not_true, Bool.false_or, Option.map_some, Option.getD_some, Bool.and_eq_true, Array.any_eq_true'] at h2
    obtain ⟨_, e, he, hb⟩ := h2
    simp only [Bool.or_eq_true] at hb
    exact ⟨e, he, hb.1, hb.2.imp Nat.eq_of_beq_eq_true (fun x => x)⟩
  · have h2 := (h1 j (hl j hlj)).1
    rw [hlj] at h2
    simp only [Bool.not_true, Bool.false_or, Bool.and_eq_true, Bool.not_eq_true'] at h2
    exact h2.1
  · have h2 := (h1 j (Array.getElem?_eq_some_iff.1 hoj).1).2
    have hb : Nat.beq j k = false := by rw [Bool.eq_false_iff]; exact fun hh => hjk (Nat.eq_of_beq_eq_true hh)
    rw [hb, hun, hlj] at h2
    simp only [Bool.false_or, Bool.and_eq_true, Bool.not_eq_true', Bool.and_eq_false_iff] at h2
    exact h2

theorem anyG_lex {cx : Cx} {ops : Array Oper} {sl ef : Nat → Bool} (hse : ∀ k, ef k = true → sl k = true) {Q : Env → Obs → Prop} : ∀ (l : List Oper) (k : Nat) (listed : Array Bool) (e : Env) (σ : Obs), (∀ j, l[j]? = ops[k + j]?) →
    Region.lexFrom .any ops l.length k listed = true → Region.sensFrom ops sl ef l.length k listed = true → GRun cx ops sl ef k l e σ Q → anyG cx ops sl ef Q l.length listed e σ
  | [], _, _, _, _, _, hB, _, h => ⟨by simpa [Region.lexFrom] using hB, h⟩
  | o :: l, k, listed, e, σ, hl, hB, hS, h => by
    have h0 : ops[k]? = some o := by simpa using (hl 0).symm
    simp only [List.length_cons, Region.lexFrom, Bool.and_eq_true] at hB
    simp only [List.length_cons, Region.sensFrom, Bool.and_eq_true] at hS
    obtain ⟨⟨hr, hf⟩, hB'⟩ := hB
    have hl' : ∀ j, l[j]? = ops[k + 1 + j]? := fun j => by have := hl (j + 1); simpa [Nat.add_assoc, Nat.add_comm 1 j] using this
    obtain ⟨_, e', σ', hs, hK⟩ := h
    have hgo := anyG_lex hse l (k + 1) _ _ _ hl' hB' hS.2 hK
    by_cases hc : (sl k || ef k) = true
    · have h1 := hS.1
      rw [if_pos hc] at h1
      obtain ⟨k1, k2, k3⟩ := Region.sensFree_spec h1 (fun j hj => by
        unfold Region.lateB at hj
        simp only [Bool.and_eq_true, Nat.blt_eq] at hj
        exact hj.1)
      exact anyG_first hse h0 _ k1 l.length listed e σ e' σ' k2 (fun j oj hj hji hun hno => ⟨Region.free_spec h0 hf j oj hj hji hun hno, fun hl => k3 j oj hj hji hun hl⟩) (by simpa using hr) hs hgo
    · have h2 : sl k = false ∧ ef k = false := by simpa using hc
      exact anyG_first hse h0 (fun _ => false) (fun _ _ _ h => by simp at h) l.length listed e σ e' σ' (fun _ h => by simp at h) (fun j oj hj hji hun hno => ⟨Region.free_spec h0 hf j oj hj hji hun hno, fun _ => ⟨.inl h2.2, .inl h2.1⟩⟩) (by simpa using hr) hs hgo

theorem GRun.dsts {cx : Cx} {ops : Array Oper} {sl ef : Nat → Bool} {Q : Env → Obs → Prop} : ∀ (l : List Oper) (k : Nat) (e : Env) (σ : Obs), GRun cx ops sl ef k l e σ Q → ∀ o ∈ l, DstOk cx.N o
  | [], _, _, _, _, o, ho => by cases ho
  | x :: l, k, e, σ, h, o, ho => by
    obtain ⟨h1, _, _, _, h2⟩ := h
    cases ho with
    | head => exact h1
    | tail _ ho => exact GRun.dsts l _ _ _ h2 o ho

theorem wpAny_of_G {cx : Cx} {ops : Array Oper} {sl ef : Nat → Bool} {Q : Post} (hd : ∀ o ∈ ops.toList, DstOk cx.N o) : ∀ (fuel : Nat) (listed : Array Bool) (e : Env) (σ : Obs) (a : Act) (w : World), R cx e σ a w →
    anyG cx ops sl ef (fun e σ => Q .normal e σ) fuel listed e σ → wpAny cx.P .any ops (lift cx Q) fuel listed a w
  | 0, _, e, σ, _, _, hr, h => ⟨h.1, e, σ, h.2, hr⟩
  | fuel + 1, listed, e, σ, a, w, hr, h => by
    refine ⟨fun h0 => ⟨e, σ, h.1 h0, hr⟩, fun i hi => ?_⟩
    obtain ⟨_, o, ho, _⟩ := mem_ready.1 hi
    obtain ⟨e', σ', hs, hk⟩ := h.2 i hi o ho
    have hdo : DstOk cx.N o := hd o (Array.mem_toList_iff.2 (Array.mem_of_getElem? ho))
    unfold wpOp
    simp only [ho]
    obtain ⟨F, ρ, hr⟩ := hr
    rcases hs with ⟨hg, s, hop, rfl, rfl⟩ | ⟨hg, rfl, rfl⟩ | ⟨hg, _, hdst, hop, rfl⟩
    · rw [if_pos (hg.wanted (fun t _ => hr.env t))]
      have hop' : AOp cx.P cx.B ops o e σ' s := by
        rcases hop with h | h
        · exact h.2
        · exact h _
      refine .inl (wp_to ?_ (fun _ _ _ => False.elim) (hop' F ρ w a hr.lt (fun t _ => hr.env t) hr.obs))
      rintro a' w' ⟨v, F', rfl, hv, he⟩
      exact wpAny_of_G hd fuel _ _ _ _ _ ⟨F', ρ, hr.put he hv hdo⟩ hk
    · rw [if_neg (by rw [hg.wanted (fun t _ => hr.env t)]; simp)]
      exact wpAny_of_G hd fuel _ _ _ _ _ ⟨F, ρ, hr.put (Ext.refl hr.lt) repS_undef hdo⟩ hk
    · rw [if_pos (hg.wanted (fun t _ => hr.env t))]
      refine .inl (wp_to ?_ (fun _ _ _ => False.elim) (hop F ρ a w e' hr (fun t _ => hr.env t)))
      rintro a' w' ⟨rfl, h3⟩
      obtain ⟨F', ρ', h4⟩ := h3 e' hr
      exact wpAny_of_G hd fuel _ _ _ _ _ ⟨F', ρ', h4⟩ hk

/-- A region that draws its order and writes, walked once, in the order of the text. -/
theorem AWP.drawG {cx : Cx} {id : Nat} {l : List Oper} {e : Env} {σ : Obs} {Q : Post} (sl ef : Nat → Bool) (hse : ∀ k, ef k = true → sl k = true) (hm : cx.P.follows .mixedOrders = true) (hB : Region.lexB .any l.toArray = true)
    (hS : Region.sensFrom l.toArray sl ef l.length 0 (Array.replicate l.length false) = true) (h : GRun cx l.toArray sl ef 0 l e σ (fun e σ => Q .normal e σ)) : AWP cx (.region id l.toArray true) e σ Q := by
  intro a w ⟨F, ρ, hr⟩
  simp only [Region.lexB, Bool.and_eq_true] at hB
  have h1 := anyG_lex hse l 0 (Array.replicate l.toArray.size false) e σ (by simp) (by simpa using hB.2) (by simpa using hS) h
  exact wp_region_any hm (wpAny_of_G (by simpa using GRun.dsts l 0 e σ h) _ _ e σ a _ ⟨F, ρ, hr.drew⟩ (by simpa using h1))
end Go.Proofs.YtajghehicmlajaaDoor
