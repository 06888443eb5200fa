/- Walks and laws over abstract values, merged by tools/merge.py. No statement of the seat. -/
import Derived.Shelf.Spec.SlicesInsertGrow
import Derived.Deep.RegionLaw
import Derived.Laws.NewBlocks
import Derived.Test.YtekenfknoakboaaGreatDoorXO7

namespace Go.Proofs.YtekenfknoakboaaGreatDoor
open Go.RowKit
set_option linter.unusedVariables false

def Env.puts (e : Env) : List (Nat × S) → Env
  | [] => e
  | p :: l => Env.puts (e.put (some p.1) p.2) l
theorem puts_other {t : Nat} : ∀ {l : List (Nat × S)} {e : Env}, t ∉ l.map Prod.fst → Env.puts e l t = e t
  | [], _, _ => rfl
  | p :: l, e, h => by
    simp only [List.map_cons, List.mem_cons, not_or] at h
    unfold Env.puts
    rw [puts_other h.2, Env.put_other _ _ _ _ h.1]
theorem puts_put {dst : Option Nat} {s : S} : ∀ {l : List (Nat × S)} {e : Env}, (∀ d, dst = some d → d ∉ l.map Prod.fst) → Env.puts (e.put dst s) l = (Env.puts e l).put dst s
  | [], _, _ => rfl
  | p :: l, e, h => by
    unfold Env.puts
    rw [Env.put_comm e dst (some p.1) s p.2 (fun d hd he => h d hd (by rw [← Option.some.inj he]; simp)), puts_put fun d hd hm => h d hd (by simp only [List.map_cons, List.mem_cons]; exact .inr hm)]
/-- An object that the region makes, and the slots that may hold it. -/
structure Fc where
  id : Nat
  slots : List Nat
def Clean (Φ : List Fc) (e : Env) : Prop := ∀ f ∈ Φ, ∀ t, f.slots.contains t = false → (e t).kill f.id = e t
def QE (e1 : Env) (σ1 : Obs) : Post := fun ex e σ => match ex with | .normal => e = e1 ∧ σ = σ1 | _ => False
/-- An operation that makes or turns objects: the slots that it sets, the objects behind it. -/
def GE (cx : Cx) (ops : Array Oper) (Φ : List Fc) (o : Oper) (e : Env) (σ : Obs) (si : List (Nat × S)) (σ' : Obs) : Prop :=
  ∀ e0 : Env, (∀ t, t ∈ o.looksAt ops → e0 t = e t) → (∀ t, t ∈ si.map Prod.fst → e0 t = e t) → Clean Φ e0 → AOps cx ops [o] e0 σ (QE (Env.puts e0 si) σ')
def LStep (cx : Cx) (ops : Array Oper) (Φ : List Fc) (ef : Nat → Bool) (K : Nat → List Nat) (I : Obs → Prop) (k : Nat) (o : Oper) (e : Env) (σ : Obs) (e' : Env) (σ' : Obs) : Prop :=
  (GW ops o e true ∧ ef k = false ∧ ∃ s, I σ ∧ (∀ τ, I τ → AOp cx.P cx.B ops o e τ s) ∧ (∀ f ∈ Φ, (∃ t, o.dst = some t ∧ f.slots.contains t = true) ∨ s.kill f.id = s) ∧ e' = e.put o.dst s ∧ σ' = σ) ∨
  (GW ops o e false ∧ ef k = false ∧ e' = e.put o.dst (.d (.v undef)) ∧ σ' = σ) ∨
  (GW ops o e true ∧ ef k = true ∧ I σ ∧ I σ' ∧ ∃ si, si.map Prod.fst = K k ∧ GE cx ops Φ o e σ si σ' ∧ (∀ p ∈ si, ∀ f ∈ Φ, f.slots.contains p.1 = true ∨ p.2.kill f.id = p.2) ∧ e' = Env.puts e si)
def LRun (cx : Cx) (ops : Array Oper) (Φ : List Fc) (ef : Nat → Bool) (K : Nat → List Nat) (I : Obs → Prop) : Nat → List Oper → Env → Obs → (Env → Obs → Prop) → Prop
  | _, [], e, σ, Q => Q e σ
  | k, o :: l, e, σ, Q => DstOk cx.N o ∧ ∃ e' σ', LStep cx ops Φ ef K I k o e σ e' σ' ∧ LRun cx ops Φ ef K I (k + 1) l e' σ' Q
def anyL (cx : Cx) (ops : Array Oper) (Φ : List Fc) (ef : Nat → Bool) (K : Nat → List Nat) (I : Obs → Prop) (Q : Env → Obs → Prop) : Nat → Array Bool → Env → Obs → Prop
  | 0, listed, e, σ => Region.ready .any ops listed = [] ∧ Q e σ
  | fuel + 1, listed, e, σ => (Region.ready .any ops listed = [] → Q e σ) ∧
      ∀ i ∈ Region.ready .any ops listed, ∀ o, ops[i]? = some o → ∃ e' σ', LStep cx ops Φ ef K I i o e σ e' σ' ∧ anyL cx ops Φ ef K I Q fuel (listed.setIfInBounds i true) e' σ'
/-- The slots of one are none of the other's. -/
def keysOkB (ops : Array Oper) (K : Nat → List Nat) (i j : Nat) (oi oj : Oper) : Bool :=
  ((K i).all fun k => !((oj.looksAt ops).contains k) && neDst oj k) && ((K j).all fun k => !((oi.looksAt ops).contains k) && neDst oi k) && (!(K i).any fun k => (K j).contains k)
theorem keysOk_l {ops : Array Oper} {K : Nat → List Nat} {i j : Nat} {oi oj : Oper} (h : keysOkB ops K i j oi oj = true) : ∀ k ∈ K i, k ∉ oj.looksAt ops ∧ oj.dst ≠ some k := fun k hk => by
  unfold keysOkB at h
  simp only [Bool.and_eq_true] at h
  have h1 := List.all_eq_true.1 h.1.1 k hk
  simp only [Bool.and_eq_true, Bool.not_eq_true', List.contains_eq_mem, decide_eq_false_iff_not] at h1
  exact ⟨h1.1, neDst_spec h1.2⟩
theorem keysOk_r {ops : Array Oper} {K : Nat → List Nat} {i j : Nat} {oi oj : Oper} (h : keysOkB ops K i j oi oj = true) : ∀ k ∈ K j, k ∉ oi.looksAt ops ∧ oi.dst ≠ some k := fun k hk => by
  unfold keysOkB at h
  simp only [Bool.and_eq_true] at h
  have h1 := List.all_eq_true.1 h.1.2 k hk
  simp only [Bool.and_eq_true, Bool.not_eq_true', List.contains_eq_mem, decide_eq_false_iff_not] at h1
  exact ⟨h1.1, neDst_spec h1.2⟩
theorem GE.same {cx : Cx} {ops : Array Oper} {Φ : List Fc} {o : Oper} {e e' : Env} {σ σ' : Obs} {si : List (Nat × S)} (h : GE cx ops Φ o e σ si σ') (h1 : ∀ t, t ∈ o.looksAt ops → e' t = e t) (h2 : ∀ t, t ∈ si.map Prod.fst → e' t = e t) : GE cx ops Φ o e' σ si σ' :=
  fun e0 k1 k2 k3 => h e0 (fun t ht => (k1 t ht).trans (h1 t ht)) (fun t ht => (k2 t ht).trans (h2 t ht)) k3
theorem anyL_first {cx : Cx} {ops : Array Oper} {Φ : List Fc} {ef : Nat → Bool} {K : Nat → List Nat} {I : Obs → Prop} (hK : ∀ k, ef k = false → K k = []) {Q : Env → Obs → Prop} {i : Nat} {oi : Oper} (hi : ops[i]? = some oi) (late : Nat → Bool)
    (hclos : ∀ j oj, ops[j]? = some oj → late j = true → ∃ e ∈ oj.after, Region.binds .any e = true ∧ (e.on = i ∨ late e.on = true)) :
    ∀ (fuel : Nat) (listed : Array Bool) (e : Env) (σ : Obs) (e1 : Env) (σ1 : Obs), (∀ j, late j = true → listed.getD j false = false) →
      (∀ j oj, ops[j]? = some oj → j ≠ i → listed.getD j true = false → (∀ e ∈ oj.after, Region.binds .any e = true → e.on ≠ i) → oi.apart ops oj = true ∧ (late j = false → (ef i = false ∨ ef j = false) ∧ keysOkB ops K i j oi oj = true)) →
      i ∈ Region.ready .any ops listed → LStep cx ops Φ ef K I i oi e σ e1 σ1 → anyL cx ops Φ ef K I Q fuel (listed.setIfInBounds i true) e1 σ1 → anyL cx ops Φ ef K I Q (fuel + 1) listed e σ := by
  intro fuel
  induction fuel with
  | zero =>
    intro listed e σ e1 σ1 _ _ hr hy H
    refine ⟨fun h => (by rw [h] at hr; cases hr), fun j hj o ho => ?_⟩
    by_cases hji : j = i
    · subst hji
      rw [hi] at ho; cases ho
      exact ⟨e1, σ1, hy, H⟩
    · have := ready_mono hj hji
      rw [H.1] at this
      cases this
  | succ fuel ih =>
    intro listed e σ e1 σ1 hlate hfree hr hy H
    refine ⟨fun h => (by rw [h] at hr; cases hr), fun j hj oj hoj => ?_⟩
    by_cases hji : j = i
    · subst hji
      rw [hi] at hoj; cases hoj
      exact ⟨e1, σ1, hy, H⟩
    · obtain ⟨e2, σ2, h1, h2⟩ := H.2 j (ready_mono hj hji) oj hoj
      obtain ⟨hjun, oj', hoj', hall⟩ := mem_ready.1 hj
      rw [hoj] at hoj'; cases hoj'
      have hnot : ∀ e ∈ oj.after, Region.binds .any e = true → e.on ≠ i := fun e he hb heq => by
        have h1 := hall e he hb
        have h0 := (mem_ready.1 hr).1
        rw [heq] at h1
        rcases Nat.lt_or_ge i listed.size with h' | h'
        · simp [h'] at h0 h1; rw [h0] at h1; cases h1
        · simp [Array.getElem?_eq_none h'] at h1
      have hjl : late j = false := by
        cases hl : late j with
        | false => rfl
        | true =>
          obtain ⟨e, he, hb, hh⟩ := hclos j oj hoj hl
          rcases hh with hh | hh
          · exact absurd hh (hnot e he hb)
          · have h3 := hall e he hb
            rw [hlate _ hh] at h3
            simp at h3
      obtain ⟨hap, hss⟩ := hfree j oj hoj hji hjun hnot
      obtain ⟨hs1, hs2⟩ := hss hjl
      obtain ⟨a1, a2, a3⟩ := Oper.apart_spec hap
      have kl := keysOk_l hs2
      have kr := keysOk_r hs2
      have fin : ∀ ej σj, LStep cx ops Φ ef K I j oj e σ ej σj → LStep cx ops Φ ef K I i oi ej σj e2 σ2 → ∃ e' σ', LStep cx ops Φ ef K I j oj e σ e' σ' ∧ anyL cx ops Φ ef K I Q (fuel + 1) (listed.setIfInBounds j true) e' σ' := fun ej σj hsj hsi => by
        refine ⟨ej, σj, hsj, ?_⟩
        refine ih (listed.setIfInBounds j true) ej σj e2 σ2 (fun k hk => ?_) (fun k ok hk hki hun hno => ?_) (ready_mono hr (Ne.symm hji)) hsi ?_
        · have hkj : j ≠ k := fun h => by rw [h, hk] at hjl; simp at hjl
          rw [getD_set_ne false hkj]
          exact hlate k hk
        · refine hfree k ok hk hki ?_ hno
          by_cases hjk : j = k
          · subst hjk; exact hjun
          · rw [getD_set_ne true hjk] at hun; exact hun
        · rw [Array.setIfInBounds_comm _ _ hji]
          exact h2
      have look1 : ∀ {s : S} t, t ∈ oj.looksAt ops → (e.put oi.dst s) t = e t := fun t ht => put_looks a1 t ht
      have look2 : ∀ {s : S} t, t ∈ oi.looksAt ops → (e.put oj.dst s) t = e t := fun t ht => put_looks a3 t ht
      rcases hy with ⟨hgi, hei, s, hI, hopi, hcl, rfl, rfl⟩ | ⟨hgi, hei, rfl, rfl⟩ | ⟨hgi, hei, hi1, hi2, si, hki, hopi, hci, rfl⟩
      · rcases h1 with ⟨hgj, hej, sj, hIj, hopj, hclj, rfl, rfl⟩ | ⟨hgj, hej, rfl, rfl⟩ | ⟨hgj, hej, hj1, hj2, sj, hkj, hopj, hcj, rfl⟩
        · exact fin (e.put oj.dst sj) _ (.inl ⟨hgj.same fun t ht => (look1 t ht).symm, hej, sj, hIj, fun τ hτ => (hopj τ hτ).same fun t ht => (look1 t ht).symm, hclj, rfl, rfl⟩) (.inl ⟨hgi.same (fun t ht => look2 t ht), hei, s, hI, fun τ hτ => (hopi τ hτ).same (fun t ht => look2 t ht), hcl, (Env.put_comm e oi.dst oj.dst s sj a2), rfl⟩)
        · exact fin (e.put oj.dst (.d (.v undef))) _ (.inr (.inl ⟨hgj.same fun t ht => (look1 t ht).symm, hej, rfl, rfl⟩)) (.inl ⟨hgi.same (fun t ht => look2 t ht), hei, s, hI, fun τ hτ => (hopi τ hτ).same (fun t ht => look2 t ht), hcl, (Env.put_comm e oi.dst oj.dst s _ a2), rfl⟩)
        · have hkd : ∀ d, oi.dst = some d → d ∉ sj.map Prod.fst := fun d hd hm => by rw [hkj] at hm; exact (kr d hm).2 hd
          have hkl : ∀ t, t ∈ oi.looksAt ops → Env.puts e sj t = e t := fun t ht => puts_other fun hm => by rw [hkj] at hm; exact (kr t hm).1 ht
          refine fin (Env.puts e sj) σ2 (.inr (.inr ⟨hgj.same fun t ht => (look1 t ht).symm, hej, hj1, hj2, sj, hkj, hopj.same (fun t ht => (look1 t ht).symm) (fun t ht => ?_), hcj, rfl⟩)) (.inl ⟨hgi.same hkl, hei, s, hj2, fun τ hτ => (hopi τ hτ).same hkl, hcl, puts_put hkd, rfl⟩)
          cases hd : oi.dst with
          | none => rfl
          | some d => exact (Env.put_other _ _ _ _ (fun (he : t = d) => hkd d hd (he ▸ ht))).symm
      · rcases h1 with ⟨hgj, hej, sj, hIj, hopj, hclj, rfl, rfl⟩ | ⟨hgj, hej, rfl, rfl⟩ | ⟨hgj, hej, hj1, hj2, sj, hkj, hopj, hcj, rfl⟩
        · exact fin (e.put oj.dst sj) _ (.inl ⟨hgj.same fun t ht => (look1 t ht).symm, hej, sj, hIj, fun τ hτ => (hopj τ hτ).same fun t ht => (look1 t ht).symm, hclj, rfl, rfl⟩) (.inr (.inl ⟨hgi.same (fun t ht => look2 t ht), hei, (Env.put_comm e oi.dst oj.dst _ sj a2), rfl⟩))
        · exact fin (e.put oj.dst (.d (.v undef))) _ (.inr (.inl ⟨hgj.same fun t ht => (look1 t ht).symm, hej, rfl, rfl⟩)) (.inr (.inl ⟨hgi.same (fun t ht => look2 t ht), hei, (Env.put_comm e oi.dst oj.dst _ _ a2), rfl⟩))
        · have hkd : ∀ d, oi.dst = some d → d ∉ sj.map Prod.fst := fun d hd hm => by rw [hkj] at hm; exact (kr d hm).2 hd
          have hkl : ∀ t, t ∈ oi.looksAt ops → Env.puts e sj t = e t := fun t ht => puts_other fun hm => by rw [hkj] at hm; exact (kr t hm).1 ht
          refine fin (Env.puts e sj) σ2 (.inr (.inr ⟨hgj.same fun t ht => (look1 t ht).symm, hej, hj1, hj2, sj, hkj, hopj.same (fun t ht => (look1 t ht).symm) (fun t ht => ?_), hcj, rfl⟩)) (.inr (.inl ⟨hgi.same hkl, hei, puts_put hkd, rfl⟩))
          cases hd : oi.dst with
          | none => rfl
          | some d => exact (Env.put_other _ _ _ _ (fun (he : t = d) => hkd d hd (he ▸ ht))).symm
      · have hkd : ∀ d, oj.dst = some d → d ∉ si.map Prod.fst := fun d hd hm => by rw [hki] at hm; exact (kl d hm).2 hd
        have hkl : ∀ t, t ∈ oj.looksAt ops → Env.puts e si t = e t := fun t ht => puts_other fun hm => by rw [hki] at hm; exact (kl t hm).1 ht
        have hke : ∀ {s : S} t, t ∈ si.map Prod.fst → (e.put oj.dst s) t = e t := fun {s} t ht => by
          cases hd : oj.dst with
          | none => rfl
          | some d => exact Env.put_other _ _ _ _ (fun he => hkd d hd (he ▸ ht))
        rcases h1 with ⟨hgj, hej, sj, hIj, hopj, hclj, rfl, rfl⟩ | ⟨hgj, hej, rfl, rfl⟩ | ⟨hgj, hej, hj1, hj2, sj, hkj, hopj, hcj, rfl⟩
        · exact fin (e.put oj.dst sj) σ (.inl ⟨hgj.same fun t ht => (hkl t ht).symm, hej, sj, hi1, fun τ hτ => (hopj τ hτ).same fun t ht => (hkl t ht).symm, hclj, rfl, rfl⟩) (.inr (.inr ⟨hgi.same (fun t ht => look2 t ht), hei, hi1, hi2, si, hki, hopi.same (fun t ht => look2 t ht) (fun t ht => hke t ht), hci, (puts_put hkd).symm⟩))
        · exact fin (e.put oj.dst (.d (.v undef))) σ (.inr (.inl ⟨hgj.same fun t ht => (hkl t ht).symm, hej, rfl, rfl⟩)) (.inr (.inr ⟨hgi.same (fun t ht => look2 t ht), hei, hi1, hi2, si, hki, hopi.same (fun t ht => look2 t ht) (fun t ht => hke t ht), hci, (puts_put hkd).symm⟩))
        · rcases hs1 with h | h
          · rw [hei] at h; simp at h
          · rw [hej] at h; simp at h
/-- The check: whoever is free to change places has nothing to do with the other. -/
def Region.keysFree (ops : Array Oper) (ef : Nat → Bool) (K : Nat → List Nat) (listed : Array Bool) (k : Nat) (late : Nat → Bool) : Bool :=
  (List.range ops.size).all fun j =>
    (!(late j) || (!(listed.getD j false) && ((ops[j]?).map fun o => o.after.any fun e => Region.binds .any e && (Nat.beq e.on k || late e.on)).getD true)) &&
    (Nat.beq j k || listed.getD j true || late j || Region.edge ops j k || ((!(ef k) || !(ef j)) && ((ops[k]?).bind fun oi => (ops[j]?).map fun oj => keysOkB ops K k j oi oj).getD false))
def Region.keysFrom (ops : Array Oper) (ef : Nat → Bool) (K : Nat → List Nat) : Nat → Nat → Array Bool → Bool
  | 0, _, _ => true
  | fuel + 1, k, listed => Region.keysFree ops ef K listed k (Region.lateB ops k) && Region.keysFrom ops ef K fuel (k + 1) (listed.setIfInBounds k true)
theorem Region.keysFree_spec {ops : Array Oper} {ef : Nat → Bool} {K : Nat → List Nat} {listed : Array Bool} {k : Nat} {oi : Oper} {late : Nat → Bool} (h : Region.keysFree ops ef K listed k late = true) (hk : ops[k]? = some oi) (hl : ∀ j, late j = true → j < ops.size) :
    (∀ j oj, ops[j]? = some oj → late j = true → ∃ e ∈ oj.after, Region.binds .any e = true ∧ (e.on = k ∨ late e.on = true)) ∧ (∀ j, late j = true → listed.getD j false = false) ∧
    ∀ j oj, ops[j]? = some oj → j ≠ k → listed.getD j true = false → (∀ e ∈ oj.after, Region.binds .any e = true → e.on ≠ k) → late j = false → (ef k = false ∨ ef j = false) ∧ keysOkB ops K k j oi oj = true := by
  have h1 : ∀ j, j < ops.size → _ := fun j hj => List.all_eq_true.1 h j (List.mem_range.2 hj)
  simp only [Bool.and_eq_true] at h1
  refine ⟨fun j oj hoj hlj => ?_, fun j hlj => ?_, fun j oj hoj hjk hun hno hlj => ?_⟩
  · have h2 := (h1 j (Array.getElem?_eq_some_iff.1 hoj).1).1
    rw [hlj, hoj] at h2
    simp only [Bool.not_true, Bool.false_or, Option.map_some, Option.getD_some, Bool.and_eq_true, Array.any_eq_true'] at h2
    obtain ⟨_, e, he, hb⟩ := h2
    simp only [Bool.or_eq_true] at hb
    exact ⟨e, he, hb.1, hb.2.imp Nat.eq_of_beq_eq_true (fun x => x)⟩
  · have h2 := (h1 j (hl j hlj)).1
    rw [hlj] at h2
    simp only [Bool.not_true, Bool.false_or, Bool.and_eq_true, Bool.not_eq_true'] at h2
    exact h2.1
  · have h2 := (h1 j (Array.getElem?_eq_some_iff.1 hoj).1).2
    have hb : Nat.beq j k = false := by rw [Bool.eq_false_iff]; exact fun hh => hjk (Nat.eq_of_beq_eq_true hh)
    rw [hb, hun, hlj, hk, hoj] at h2
    simp only [Bool.false_or, Bool.or_eq_true, Bool.and_eq_true, Bool.not_eq_true', Option.bind_some, Option.map_some, Option.getD_some] at h2
    rcases h2 with h2 | h2
    · obtain ⟨o, ho, e, he, hb2, heq⟩ := Region.edge_spec h2
      rw [hoj] at ho; cases ho
      exact absurd heq (hno e he hb2)
    · exact h2
theorem anyL_lex {cx : Cx} {ops : Array Oper} {Φ : List Fc} {ef : Nat → Bool} {K : Nat → List Nat} {I : Obs → Prop} (hK : ∀ k, ef k = false → K k = []) {Q : Env → Obs → Prop} : ∀ (l : List Oper) (k : Nat) (listed : Array Bool) (e : Env) (σ : Obs), (∀ j, l[j]? = ops[k + j]?) →
    Region.lexFrom .any ops l.length k listed = true → Region.keysFrom ops ef K l.length k listed = true → LRun cx ops Φ ef K I k l e σ Q → anyL cx ops Φ ef K I Q l.length listed e σ
  | [], _, _, _, _, _, hB, _, h => ⟨by simpa [Region.lexFrom] using hB, h⟩
  | o :: l, k, listed, e, σ, hl, hB, hS, h => by
    have h0 : ops[k]? = some o := by simpa using (hl 0).symm
    simp only [List.length_cons, Region.lexFrom, Bool.and_eq_true] at hB
    simp only [List.length_cons, Region.keysFrom, Bool.and_eq_true] at hS
    obtain ⟨⟨hr, hf⟩, hB'⟩ := hB
    have hl' : ∀ j, l[j]? = ops[k + 1 + j]? := fun j => by have := hl (j + 1); simpa [Nat.add_assoc, Nat.add_comm 1 j] using this
    obtain ⟨_, e', σ', hs, hq⟩ := h
    have hgo := anyL_lex hK l (k + 1) _ _ _ hl' hB' hS.2 hq
    obtain ⟨k1, k2, k3⟩ := Region.keysFree_spec hS.1 h0 (fun j hj => by
      unfold Region.lateB at hj
      simp only [Bool.and_eq_true, Nat.blt_eq] at hj
      exact hj.1)
    exact anyL_first hK h0 _ k1 l.length listed e σ e' σ' k2 (fun j oj hj hji hun hno => ⟨Region.free_spec h0 hf j oj hj hji hun hno, fun hl => k3 j oj hj hji hun hno hl⟩) (by simpa using hr) hs hgo
theorem LRun.dsts {cx : Cx} {ops : Array Oper} {Φ : List Fc} {ef : Nat → Bool} {K : Nat → List Nat} {I : Obs → Prop} {Q : Env → Obs → Prop} : ∀ (l : List Oper) (k : Nat) (e : Env) (σ : Obs), LRun cx ops Φ ef K I k l e σ Q → ∀ o ∈ l, DstOk cx.N o
  | [], _, _, _, _, o, ho => by cases ho
  | x :: l, k, e, σ, h, o, ho => by
    obtain ⟨h1, _, _, _, h2⟩ := h
    cases ho with
    | head => exact h1
    | tail _ ho => exact LRun.dsts l _ _ _ h2 o ho
theorem Clean.put {Φ : List Fc} {e : Env} {dst : Option Nat} {s : S} (h : Clean Φ e) (hs : ∀ f ∈ Φ, (∃ t, dst = some t ∧ f.slots.contains t = true) ∨ s.kill f.id = s) : Clean Φ (e.put dst s) := fun f hf t ht => by
  cases dst with
  | none => exact h f hf t ht
  | some d =>
    by_cases hd : t = d
    · subst hd
      rw [Env.put_same]
      rcases hs f hf with ⟨t', h1, h2⟩ | h1
      · cases h1; rw [ht] at h2; simp at h2
      · exact h1
    · rw [Env.put_other _ _ _ _ hd]; exact h f hf t ht
theorem Clean.puts {Φ : List Fc} : ∀ {l : List (Nat × S)} {e : Env}, Clean Φ e → (∀ p ∈ l, ∀ f ∈ Φ, f.slots.contains p.1 = true ∨ p.2.kill f.id = p.2) → Clean Φ (Env.puts e l)
  | [], _, h, _ => h
  | p :: l, e, h, hs => by
    unfold Env.puts
    refine Clean.puts (fun f hf t ht => ?_) fun q hq => hs q (List.mem_cons_of_mem _ hq)
    by_cases hd : t = p.1
    · subst hd
      rw [Env.put_same]
      rcases hs p (by simp) f hf with h1 | h1
      · rw [ht] at h1; simp at h1
      · exact h1
    · rw [Env.put_other _ _ _ _ hd]; exact h f hf t ht
theorem wpAny_of_L {cx : Cx} {ops : Array Oper} {Φ : List Fc} {ef : Nat → Bool} {K : Nat → List Nat} {I : Obs → Prop} {Q : Post} (hQ : ∀ ex e σ, ex ≠ .normal → ¬ Q ex e σ) (hd : ∀ o ∈ ops.toList, DstOk cx.N o) : ∀ (fuel : Nat) (listed : Array Bool) (e : Env) (σ : Obs) (a : Act) (w : World), R cx e σ a w → Clean Φ e →
    anyL cx ops Φ ef K I (fun e σ => Q .normal e σ) fuel listed e σ → wpAny cx.P .any ops (lift cx Q) fuel listed a w
  | 0, _, e, σ, _, _, hr, _, h => ⟨h.1, e, σ, h.2, hr⟩
  | fuel + 1, listed, e, σ, a, w, hr, hc, h => by
    refine ⟨fun h0 => ⟨e, σ, h.1 h0, hr⟩, fun i hi => ?_⟩
    obtain ⟨_, o, ho, _⟩ := mem_ready.1 hi
    obtain ⟨e', σ', hs, hk⟩ := h.2 i hi o ho
    have hdo : DstOk cx.N o := hd o (Array.mem_toList_iff.2 (Array.mem_of_getElem? ho))
    unfold wpOp
    simp only [ho]
    have hR := hr
    obtain ⟨F, ρ, hr⟩ := hr
    rcases hs with ⟨hg, _, s, hI, hop, hcl, rfl, rfl⟩ | ⟨hg, _, rfl, rfl⟩ | ⟨hg, _, _, _, si, _, hop, hci, rfl⟩
    · rw [if_pos (hg.wanted (fun t _ => hr.env t))]
      refine .inl (wp_to ?_ (fun _ _ _ => False.elim) (hop _ hI F ρ w a hr.lt (fun t _ => hr.env t) hr.obs))
      rintro a' w' ⟨v, F', rfl, hv, he⟩
      exact wpAny_of_L hQ hd fuel _ _ _ _ _ ⟨F', ρ, hr.put he hv hdo⟩ (hc.put hcl) hk
    · rw [if_neg (by rw [hg.wanted (fun t _ => hr.env t)]; simp)]
      exact wpAny_of_L hQ hd fuel _ _ _ _ _ ⟨F, ρ, hr.put (Ext.refl hr.lt) repS_undef hdo⟩ (hc.put fun _ _ => .inr rfl) hk
    · have hw : Region.wanted o (yielded ops a.tmps) = true := hg.wanted (fun t _ => hr.env t)
      rw [if_pos hw]
      have h4 := hop e (fun _ _ => rfl) (fun _ _ => rfl) hc a w hR
      unfold wpList at h4
      rw [if_pos hw] at h4
      refine h4.imp (wp_to2 ?_ ?_) fun h => ⟨h.1, ?_⟩
      · rintro a' w' ⟨e', σ'', ⟨rfl, rfl⟩, hr'⟩
        exact wpAny_of_L hQ hd fuel _ _ _ _ _ hr' (hc.puts hci) hk
      · rintro ex a' w' hne ⟨e', σ'', hq, _⟩
        cases ex <;> first | exact absurd rfl hne | exact hq.elim
      · obtain ⟨a', w', e', σ'', hq, _⟩ := h.2
        exact hq.elim
/-- Before the region: no slot but those told holds what it makes or turns. -/
def Env.killOut (f : Fc) (e : Env) : Env := fun t => match f.slots.contains t with | true => e t | false => (e t).kill f.id
def Env.killIds : List Fc → Env → Env
  | [], e => e
  | f :: l, e => Env.killIds l (e.killOut f)
theorem killOut_keep {f : Fc} {g : Fc} {e : Env} (h : Clean [g] e) : Clean [g] (e.killOut f) := fun g' hg t ht => by
  have h1 := h g' hg t ht
  unfold Env.killOut
  cases f.slots.contains t with
  | true => exact h1
  | false => show S.kill g'.id (S.kill f.id (e t)) = S.kill f.id (e t); rw [kill_comm, h1]
theorem killIds_keep {g : Fc} : ∀ {Φ : List Fc} {e : Env}, Clean [g] e → Clean [g] (Env.killIds Φ e)
  | [], _, h => h
  | _ :: l, _, h => killIds_keep (Φ := l) (killOut_keep h)
theorem killOut_clean (f : Fc) (e : Env) : Clean [f] (e.killOut f) := fun g hg t ht => by
  obtain rfl := List.mem_singleton.1 hg
  unfold Env.killOut
  rw [ht]
  exact S.kill_kill g.id (e t)
theorem killIds_clean : ∀ (Φ : List Fc) (e : Env), Clean Φ (Env.killIds Φ e)
  | g :: l, e, f, hf, t, ht => by
    rcases List.mem_cons.1 hf with rfl | hf
    · exact killIds_keep (Φ := l) (killOut_clean f e) f (by simp) t ht
    · exact killIds_clean l (e.killOut g) f hf t ht
theorem R.killOut {cx : Cx} {σ : Obs} {a : Act} {w : World} {e : Env} (f : Fc) : R cx e σ a w → R cx (e.killOut f) σ a w
  | ⟨F, ρ, h⟩ => by
    have henv : ∀ t, RepS F ρ w (a.tmps.getD t undef) (e.killOut f t) := fun t => by
      unfold Env.killOut
      cases f.slots.contains t with
      | true => exact h.env t
      | false => exact (h.killEnv f.id).env t
    exact ⟨F, ρ, h.size, h.defers, h.lt, h.base, h.new, h.below, h.hB, henv, h.obs, h.up, h.kown, h.fixed⟩
theorem R.killIds {cx : Cx} {σ : Obs} {a : Act} {w : World} : ∀ (Φ : List Fc) {e : Env}, R cx e σ a w → R cx (Env.killIds Φ e) σ a w
  | [], _, h => h
  | f :: l, _, h => R.killIds l (R.killOut f h)
/-- The same, with a tail that waits for all before it. -/
theorem AWP.drawLTail {cx : Cx} {id : Nat} {l : List Oper} {e : Env} {σ : Obs} {Q : Post} (k : Nat) (Φ : List Fc) (E : List (Nat × List Nat)) (I : Obs → Prop) (hm : cx.P.follows .mixedOrders = true) (hB : Region.lexB .any (l.take k).toArray = true)
    (hS : Region.keysFrom (l.take k).toArray (fun k => E.any fun p => Nat.beq p.1 k) (fun k => ((E.find? fun p => Nat.beq p.1 k).map Prod.snd).getD []) (l.take k).length 0 (Array.replicate (l.take k).length false) = true) (hC : Region.chainB l.toArray k = true)
    (h : LRun cx (l.take k).toArray Φ (fun k => E.any fun p => Nat.beq p.1 k) (fun k => ((E.find? fun p => Nat.beq p.1 k).map Prod.snd).getD []) I 0 (l.take k) (Env.killIds Φ e) σ (fun e σ => AOps cx l.toArray (l.drop k) e σ Q)) : AWP cx (.region id l.toArray true) e σ Q := by
  intro a w ⟨F, ρ, hr⟩
  simp only [Region.lexB, Bool.and_eq_true] at hB
  have hch := Chain.of hC
  have hkl : k ≤ l.length := by simpa using hch.le
  have hK : ∀ k, (E.any fun p => Nat.beq p.1 k) = false → ((E.find? fun p => Nat.beq p.1 k).map Prod.snd).getD [] = [] := fun k hk => by
    have : E.find? (fun p => Nat.beq p.1 k) = none := List.find?_eq_none.2 fun p hp hh => by
      have : (E.any fun p => Nat.beq p.1 k) = true := List.any_eq_true.2 ⟨p, hp, hh⟩
      rw [hk] at this
      simp at this
    rw [this]; rfl
  have h1 := anyL_lex hK (l.take k) 0 (Array.replicate (l.take k).toArray.size false) _ σ (by simp) (by simpa using hB.2) (by simpa using hS) h
  have h2 := wpAny_of_L (cx := cx) (ops := (l.take k).toArray) (Q := fun ex e σ => match ex with | .normal => AOps cx l.toArray (l.drop k) e σ Q | _ => False) (fun ex e σ hne hq => by cases ex <;> first | exact absurd rfl hne | exact hq.elim) (by simpa using LRun.dsts _ 0 _ σ h) _ _ _ σ a _ (R.killIds Φ ⟨F, ρ, hr.drew⟩) (killIds_clean Φ e) h1
  refine wp_region_any hm (wpAny_split hch (ops0 := (l.take k).toArray) (by simp; omega) (fun j hj => by simp [hj]) ?_ ?_ (l.take k).length _ _ _ _ _ (by simp; omega) (by simp) ?_ ?_ ?_ (by simp; omega) h2)
  · rintro a w ⟨e, σ, h3, h4⟩
    have := h3 a w h4
    simpa using this
  · rintro ex a w hne ⟨e, σ, h3, _⟩
    cases ex <;> first | exact absurd rfl hne | exact h3.elim
  · intro j hj d
    have h5 : j < l.length := by omega
    have h6 : j < min k l.length := by omega
    simp [Array.getD_eq_getD_getElem?, h5, h6]
  · intro j hj hj2
    have : j < l.length := by simpa using hj2
    simp [Array.getD_eq_getD_getElem?, this]
  · intro i o ho hi
    have : i < l.length := by simpa using (Array.getElem?_eq_some_iff.1 ho).1
    simp [Array.getD_eq_getD_getElem?, this] at hi
section
variable {cx : Cx} {ops : Array Oper} {Φ : List Fc} {ef : Nat → Bool} {K : Nat → List Nat} {I : Obs → Prop} {n : Nat} {o : Oper} {l : List Oper} {e : Env} {σ : Obs} {Q : Env → Obs → Prop}
def cleanS (t : Nat) (s : S) : List Fc → Prop
  | [] => True
  | f :: l => (f.slots.contains t = true ∨ s.kill f.id = s) ∧ cleanS t s l
theorem cleanS.all {t : Nat} {s : S} : ∀ {l : List Fc}, cleanS t s l → ∀ f ∈ l, f.slots.contains t = true ∨ s.kill f.id = s
  | [], _, f, hf => by cases hf
  | g :: l, h, f, hf => by
    cases hf with
    | head => exact h.1
    | tail _ hf => exact cleanS.all h.2 f hf
theorem LRun.nil (h : Q e σ) : LRun cx ops Φ ef K I n [] e σ Q := h
theorem LRun.step {s : S} {t : Nat} (hg : GW ops o e true) (ht : o.dst = some t) (hd : Nat.blt t cx.N = true) (hI : I σ) (h : ∀ τ, I τ → AOp cx.P cx.B ops o e τ s) (k : LRun cx ops Φ ef K I (n + 1) l (e.put (some t) s) σ Q) (he : ef n = false := by rfl) (hc : cleanS t s Φ := by first | exact ⟨.inr rfl, trivial⟩ | exact ⟨.inl rfl, trivial⟩) : LRun cx ops Φ ef K I n (o :: l) e σ Q :=
  ⟨by unfold DstOk; rw [ht]; exact hd, _, _, .inl ⟨hg, he, s, hI, h, fun f hf => (hc.all f hf).imp (fun h => ⟨t, ht, h⟩) id, rfl, rfl⟩, by rw [ht]; exact k⟩
def cleanL (Φ : List Fc) : List (Nat × S) → Prop
  | [] => True
  | p :: l => (∀ f ∈ Φ, f.slots.contains p.1 = true ∨ p.2.kill f.id = p.2) ∧ cleanL Φ l
theorem LRun.eff {si : List (Nat × S)} {σ' : Obs} (hg : GW ops o e true) (hd : DstOk cx.N o) (h1 : I σ) (h2 : I σ') (h : GE cx ops Φ o e σ si σ') (k : LRun cx ops Φ ef K I (n + 1) l (Env.puts e si) σ' Q) (hc : ∀ p ∈ si, ∀ f ∈ Φ, f.slots.contains p.1 = true ∨ p.2.kill f.id = p.2) (he : ef n = true := by rfl) (hk : si.map Prod.fst = K n := by rfl) : LRun cx ops Φ ef K I n (o :: l) e σ Q :=
  ⟨hd, _, _, .inr (.inr ⟨hg, he, h1, h2, si, hk, h, hc, rfl⟩), k⟩
theorem triple_eq {id a b c : Nat} {e0 e : Env} (hab : a ≠ b) (hac : a ≠ c) (hbc : b ≠ c) (hb : e0 b = e b) (hcc : e0 c = e c) (hc : ∀ t, t ≠ a → t ≠ b → t ≠ c → (e0 t).kill id = e0 t) : (e0.kill id).put (some a) (.own id) = Env.puts e0 [(c, (e c).kill id), (b, (e b).kill id), (a, .own id)] := by
  funext t
  show _ = (((e0.put (some c) ((e c).kill id)).put (some b) ((e b).kill id)).put (some a) (.own id)) t
  by_cases h1 : t = a
  · subst h1; rw [Env.put_same, Env.put_same]
  · rw [Env.put_other _ _ _ _ h1, Env.put_other _ _ _ _ h1]
    by_cases h2 : t = b
    · subst h2; rw [Env.put_same]; show (e0 t).kill id = _; rw [hb]
    · rw [Env.put_other _ _ _ _ h2]
      by_cases h3 : t = c
      · subst h3; rw [Env.put_same]; show (e0 t).kill id = _; rw [hcc]
      · rw [Env.put_other _ _ _ _ h3]; exact hc t h1 h2 h3
/-- An append to a row that two other slots hold. -/
theorem GE.append3 {s x : Operand} {t ee size bytes dst : Nat} {z : Value} {els els2 : List (List D)} {σ' : Obs} (id b c : Nat) {sl : List Nat} (hΦ : ⟨id, sl⟩ ∈ Φ) (hsl : ∀ t, t ≠ dst → t ≠ b → t ≠ c → sl.contains t = false) (hab : dst ≠ b) (hac : dst ≠ c) (hbc : b ≠ c) (hg : o.guard = none)
    (ho : o.op = .call { callee := .builtin .append, args := #[s, x], argTypes := #[t, t] }) (hd : o.dst = some dst) (hdn' : Nat.blt dst cx.N = true) (T : ElemTy cx.P t ee size bytes z) (hs : e.ev s = .own id) (hm : (id, Ob.row ee size els) ∈ σ)
    (hx : e.ev x = .d (.sl els2)) (hsz : ∀ y ∈ els2, y.length = size) (hb : (els.length + els2.length) * bytes ≤ 140737488355328) (hn : els.length + els2.length ≤ 9223372036854775807) (hσ : Obs.upd id (.row ee size (els ++ els2)) (Obs.kill id σ) = σ') (hfx : cx.free id = true := by rfl) :
    GE cx ops Φ o e σ [(c, (e c).kill id), (b, (e b).kill id), (dst, .own id)] σ' := fun e0 h1 h2 h3 => by
  have e1 : e0.ev s = e.ev s := ev_same fun t hxt => h1 t (looks_op (by rw [ho, ← hxt]; simp [Op.operands, Call.operands]))
  have e2 : e0.ev x = e.ev x := ev_same fun t hxt => h1 t (looks_op (by rw [ho, ← hxt]; simp [Op.operands, Call.operands]))
  have hp := triple_eq (id := id) (e0 := e0) (e := e) hab hac hbc (h2 b (by simp)) (h2 c (by simp)) fun t ht1 ht2 ht3 => h3 _ hΦ t (hsl t ht1 ht2 ht3)
  exact AOps.append hg ho hd hdn' T (e1.trans hs) hm (e2.trans hx) hsz hb hn (.nil ⟨hp, hσ⟩) hfx
end
end Go.Proofs.YtekenfknoakboaaGreatDoor


namespace Go.Proofs.YtekenfknoakboaaGreatDoor
open Go.RowKit
set_option linter.unusedVariables false

end Go.Proofs.YtekenfknoakboaaGreatDoor


namespace Go.Proofs.YtekenfknoakboaaGreatDoor
open Go.RowKit
set_option linter.unusedVariables false

end Go.Proofs.YtekenfknoakboaaGreatDoor


namespace Go.Proofs.YtekenfknoakboaaGreatDoor
open Go.RowKit Go.Shelf
set_option linter.unusedVariables false

/-- copy(d, s), elements of whatever size. -/
theorem run_copy_sz {P : Program} (w : World) (dT sT ty elem : TypeId) (size b o dLen dCap : Nat) (a : Addr) (sLen sCap : Nat) (cs : List Value)
    (hu : P.underlying dT = some (.slice elem)) (hs : (P.info? elem).map (·.size) = some size) (hn : cs.length = Nat.min sLen dLen * size)
    (hsrc : ∀ j v, cs[j]? = some v → w.cell? (a.add j) = some v) (hc : ∀ j, j < cs.length → (w.cell? ⟨b, o + j, none⟩).isSome = true) (hf : ∀ j, j < cs.length → w.frozen? ⟨b, o + j, none⟩ = false) (h1 : ∀ v ∈ cs, v.oneCell' = true) :
    (Builtin.copy_ #[dT, sT] ty #[.slice (some ⟨b, o, none⟩) dLen dCap, .slice (some a) sLen sCap]).run P w = .ok (goInt (Nat.min sLen dLen)) (w.setCells b o cs) := by
  have hl := run_firstCells_some (P := P) w size (Nat.min sLen dLen) a sLen sCap cs hn hsrc
  have hst := run_storeCells_cells (P := P) b o cs 0 w (by simpa using hc) (by simpa using hf) h1
  cases hq : P.info? elem with
  | none => simp [hq] at hs
  | some i =>
    have hi : i.size = size := by simpa [hq] using hs
    simp only [Nat.min_def] at hl
    simp [Builtin.copy_, run_underlying hu, Builtin.lenOf, sizeOf, typeInfo, hq, hi, Nat.min_def, hl, hst]

/-- What an insertion leaves, told cell by cell. -/
theorem ins_takeS {xs F x : List Value} {i n s : Nat} (hn : xs.length = n) (hi : i ≤ n) (hx : x.length = s) (h1 : ∀ k, k < i → F[k]? = xs[k]?) (h2 : ∀ k, k < s → F[i + k]? = x[k]?) (h3 : ∀ k, i ≤ k → k < n → F[k + s]? = xs[k]?) : F.take (n + s) = xs.take i ++ x ++ xs.drop i := by
  apply List.ext_getElem?
  intro k
  have hL : (F.take (n + s))[k]? = if k < n + s then F[k]? else none := by rw [List.getElem?_take]
  have hT : (xs.take i).length = i := by rw [List.length_take]; omega
  rw [hL, get3, hT, hx]
  by_cases k1 : k < i
  · rw [if_pos (by omega), if_pos k1, h1 k k1, List.getElem?_take, if_pos k1]
  · rw [if_neg k1]
    by_cases k2 : k < i + s
    · rw [if_pos (by omega), if_pos k2]
      have := h2 (k - i) (by omega)
      rw [show i + (k - i) = k by omega] at this
      exact this
    · rw [if_neg k2]
      by_cases k3 : k < n + s
      · rw [if_pos k3, List.getElem?_drop]
        have := h3 (k - s) (by omega) (by omega)
        rw [show k - s + s = k by omega] at this
        rw [this]
        congr 1
        omega
      · rw [if_neg k3, List.getElem?_eq_none (by simp; omega)]

section
variable {cx : Cx} {e : Env} {σ : Obs} {Q : Post}
end

section
variable {cx : Cx} {ops : Array Oper} {o : Oper} {rest : List Oper} {e : Env} {σ : Obs} {Q : Post}
/-- []T{x}: an own row of one element. -/
theorem AOps.buildS {t el size bytes dst : Nat} {z : Value} {x : Operand} {d : D} (id : Nat) (hg : o.guard = none) (ht : o.dst = some dst) (hdn : Nat.blt dst cx.N = true) (ho : o.op = .buildSlice t 1 #[(0, x)]) (T : ElemTy cx.P t el size bytes z) (hsz : Nat.ble size 1000 = true) (hx : e.ev x = .d d) (h1 : d.one = true) (h2 : d.parts.length = size) (hid : Obs.fresh id σ = true)
    (k : AOps cx ops rest ((e.kill id).put (some dst) (.own id)) ((id, .row el size [d.parts]) :: Obs.kill id σ) Q) (hfx : cx.free id = true := by rfl) : AOps cx ops (o :: rest) e σ Q := by
  intro a w ⟨F, ρ, hr⟩
  have hsz' : size ≤ 1000 := by simpa [Nat.ble_eq] using hsz
  have hdn' : dst < cx.N := by simpa [Nat.blt_eq] using hdn
  have r1 := ev_rep (e := e) (x := x) (a := a) (fun t _ => hr.env t)
  rw [hx] at r1
  obtain ⟨h3, h4⟩ := parts_rep (repS_d r1) h1
  have hcl : (a.eval x).cells.toList.length = size := by rw [h3.1]; exact h2
  obtain ⟨c, hc⟩ : ∃ c, c = (a.eval x).cells.toList := ⟨_, rfl⟩
  have hcl' : c.length = size := by rw [hc]; exact hcl
  obtain ⟨i, hi, hz0, hz1, hz2⟩ := info_parts T.hi
  have hzc : z.cells.size = size := T.hz
  have hs0 : 0 < size := T.hs
  obtain ⟨cs', h5, h6⟩ := fill_inorder (size := size) 0 [(0, a.eval x)] ((Array.range size).map (fun j => z.cells[j % z.cells.size]!)) (fun j hj => by
    have hj0 : j = 0 := by simpa using hj
    subst hj0
    refine ⟨rfl, ?_⟩
    have : (a.eval x).cells.size = size := by rw [← Array.length_toList]; exact hcl
    simpa using this) (by simp)
  have h7 : cs'.toList = c := by
    have h9 : List.drop size (List.map (fun j => z.cells[j % z.cells.size]!) (List.range size)) = [] := List.drop_eq_nil_of_le (by simp)
    simpa [← hc, h9] using h6
  have hcs : cs' = c.toArray := by rw [← h7]
  have hrun : (execOp a.eval o).run cx.P w = .ok (.value (.slice (some ⟨w.heap.size, 0, none⟩) 1 1)) (w.alloc (.cells c.toArray el)) := by
    unfold execOp
    simp only [ho, Instr.buildSlice, Sem.run_bind, run_underlying T.ht, Result.andThen_ok, T.sizeOf]
    rw [if_neg (show ¬ (1 * size > 2 ^ 24) by omega), if_neg (show ¬ (1 * size = 0) by omega)]
    have hprog : (program : Sem Program).run cx.P w = .ok cx.P w := rfl
    simp only [Sem.run_bind, zeroValue, typeInfo, hprog, Result.andThen_ok, hi, Sem.run_pure, hz0]
    have h8 : Array.map (fun (p : Nat × Operand) => (p.fst, a.eval p.snd)) #[(0, x)] = #[(0, a.eval x)] := by simp
    rw [h8]
    rw [hcs] at h5
    simp only [Nat.one_mul, List.toArray] at h5 ⊢
    first | rw [h5] | skip
    rfl
  have hrow : (w.alloc (.cells c.toArray el)).ownsRow cx.B el size (.slice (some ⟨w.heap.size, 0, none⟩) 1 1) 1 c :=
    ⟨by rw [Nat.one_mul]; exact hcl', .inr ⟨w.heap.size, 1, c.toArray, rfl, hr.hB, heap_alloc_new w _, Nat.le_refl _, by unfold maxLen; omega, by simpa using hcl', by rw [Nat.one_mul, ← hcl']; simp⟩⟩
  have hfl : flat (fun _ j => c.getD j undef) 1 size = c := by
    unfold flat
    simp only [List.range_one, List.map_cons, List.map_nil, List.flatten_cons, List.flatten_nil, List.append_nil]
    apply List.ext_getElem
    · simp [hcl']
    · intro j hj hj2
      simp [List.getD_eq_getElem?_getD, hj2]
  obtain ⟨ρ', h9⟩ := hr.newRow (v := .slice (some ⟨w.heap.size, 0, none⟩) 1 1) (els := [d.parts]) (Obs.fresh_spec hid) hdn' ((Below.refl _ _).alloc (Nat.le_refl _) (.cells c.toArray el))
    ⟨fun _ j => c.getD j undef, by dsimp only; rw [if_pos rfl]; show World.ownsRow _ _ _ _ _ _ (flat (fun _ j => c.getD j undef) 1 size); rw [hfl]; exact hrow, fun i hi => by
      have : i = 0 := by simpa using hi
      subst this
      simpa using h2, fun i hi j hj => by
      have : i = 0 := by simpa using hi
      subst this
      have hj' : j < d.parts.length := by simpa using hj
      have hjc : j < c.length := by omega
      have hgd : c.getD j undef = c[j] := by simp [List.getD_eq_getElem?_getD, hjc]
      dsimp only
      rw [hgd]
      subst hc
      refine ⟨h4 _ (List.getElem_mem hjc), ?_⟩
      have h10 := h3.2 j hjc (by omega)
      have hE : Ext F w F (w.alloc (.cells (a.eval x).cells.toList.toArray el)) := Ext.of_below hr.lt ((Below.refl _ _).alloc (Nat.le_refl _) _)
      simpa using h10.ext hr.lt hE, fun g hg hf => by dsimp only at hg; rw [if_pos rfl] at hg; simp [blk] at hg; have := hr.lt g hf; omega⟩
    (fun g hg => by simp [blk] at hg; omega) hfx
  refine wpList_plain hg fun K hK => ?_
  unfold Oper.wp
  rw [hrun]
  have := k _ _ ⟨F, ρ', h9⟩
  rw [← ht] at this
  exact hK _ _ this
end
end Go.Proofs.YtekenfknoakboaaGreatDoor


namespace Go.Proofs.YtekenfknoakboaaGreatDoor
open Go.RowKit Go.Shelf Go.Lib
set_option linter.unusedVariables false
set_option linter.unusedSimpArgs false

/-- What Insert does with an own row. -/
structure InsEndG (e size B : Nat) (w : World) (v : Value) (n : Nat) (ys : List Value) (v' : Value) (w' : World) : Prop where
  own : w'.ownsRow B e size v' n ys
  turn : Turn w w' (blk v)
  new : ∀ g, blk v' = some g → blk v = some g ∨ w.heap.size ≤ g
theorem blk_own {w : World} {B e size n : Nat} {v : Value} {xs : List Value} (h : w.ownsRow B e size v n xs) : v.ownBlock = blk v := by
  rcases h.2 with ⟨rfl, _⟩ | ⟨g, cap, cur, rfl, _⟩ <;> rfl

theorem insEnd_cat {e size B : Nat} {w w' : World} {v v' : Value} {n : Nat} {xs ys : List Value} (hown : w.ownsRow B e size v n xs) (h1 : w'.ownsRow B e size v' (n + 1) ys) (h2 : w.grownBy w' v.ownBlock) (h3 : v'.ownBlock = v.ownBlock ∨ ∃ g, v'.ownBlock = some g ∧ w.heap.size ≤ g) : InsEndG e size B w v (n + 1) ys v' w' := by
  rw [blk_own hown] at h2
  rw [blk_own hown, blk_own h1] at h3
  refine ⟨h1, ⟨h2.os, h2.tape, h2.output, h2.size, h2.block⟩, fun g hg => ?_⟩
  rcases h3 with h3 | ⟨g2, h3, h4⟩
  · exact .inl (by rw [← h3]; exact hg)
  · rw [h3] at hg
    exact .inr (by have := Option.some.inj hg; omega)
structure InsT (P : Program) (f e size bytes : Nat) : Prop where
  ent : Enters P f
  calls : ∀ {B : Nat} {w : World} {v : Value} {n i vb vcap : Nat} {xs y : List Value} {ecur : Array Value} {ety : TypeId}, w.ownsRow B e size v n xs → (∀ u ∈ xs, u.oneCell' = true) → i ≤ n → B ≤ w.heap.size → (n + 1) * bytes ≤ 140737488355328 →
    w.heap[vb]? = some (.cells ecur ety (0, 0)) → 1 ≤ vcap ∧ vcap ≤ 9223372036854775807 → y.length = size → ecur.toList.take size = y → (∀ u ∈ y, u.oneCell' = true) → blk v ≠ some vb →
    Calls P f #[v, .int .i64 i, .slice (some ⟨vb, 0, none⟩) 1 vcap] w fun e' w' => ∃ v', e' = .returned v' ∧ InsEndG e size B w v (n + 1) (xs.take (i * size) ++ y ++ xs.drop (i * size)) v' w'
theorem flat_ins (xs ys : Nat → Nat → Value) {n k : Nat} (s : Nat) (hk : k ≤ n) : (flat xs n s).take (k * s) ++ flat ys 1 s ++ (flat xs n s).drop (k * s) = flat (fun i j => if i < k then xs i j else if i = k then ys 0 j else xs (i - 1) j) (n + 1) s := by
  have h1 : flat xs n s = flat xs k s ++ flat (fun i => xs (k + i)) (n - k) s := by
    rw [flat_append, show k + (n - k) = n by omega]
    refine flat_congr fun i j hi hj => ?_
    by_cases h : i < k
    · rw [if_pos h]
    · rw [if_neg h, show k + (i - k) = i by omega]
  have hl := flat_length xs k s
  rw [h1, List.take_left' hl, List.drop_left' hl, flat_append, flat_append, show k + 1 + (n - k) = n + 1 by omega]
  refine flat_congr fun i j hi hj => ?_
  by_cases h : i < k
  · rw [if_pos (by omega), if_pos h, if_pos h]
  · rw [if_neg h]
    by_cases h2 : i = k
    · subst h2
      rw [if_pos (by omega), if_neg (by omega), if_pos rfl, Nat.sub_self]
    · rw [if_neg (by omega), show k + (i - (k + 1)) = i - 1 by omega, if_neg h, if_neg h2]
theorem ins_get {α : Type} {l : List α} {c : α} {p i : Nat} (hp : p ≤ l.length) (hi : i < (l.take p ++ [c] ++ l.drop p).length) : (l.take p ++ [c] ++ l.drop p)[i] = if h : i < p then l[i]'(by omega) else if h2 : i = p then c else l[i - 1]'(by simp at hi; omega) := by
  have hT : (l.take p).length = p := by rw [List.length_take]; omega
  have hi2 : i < l.length + 1 := by simp at hi; omega
  by_cases h1 : i < p
  · rw [dif_pos h1, List.getElem_append_left (by simp; omega), List.getElem_append_left (by omega), List.getElem_take]
  · rw [dif_neg h1]
    by_cases h2 : i = p
    · subst h2
      rw [dif_pos rfl, List.getElem_append_left (by simp; omega), List.getElem_append_right (by omega)]
      simp
    · rw [dif_neg h2, List.getElem_append_right (by simp; omega), List.getElem_drop]
      congr 1
      simp
      omega
theorem Rep.turn {F : Nat → Prop} {w w' : World} {x : Value} {d : D} {row : Option Nat} (h : Rep F w x d) (hF : ∀ b, F b → b < w.heap.size) (hr : ∀ g, row = some g → ¬ F g) (ht : Turn w w' row) : Rep F w' x d :=
  repS_d (RepS.turn (ρ := fun _ => x) (.d h) hF hr ht fun b hb => hb)
section
variable {cx : Cx} {ops : Array Oper} {o : Oper} {rest : List Oper} {e : Env} {σ : Obs} {Q : Post}
/-- slices.Insert(s, i, x) at an own []api.Copy of data. -/
theorem AOps.insertG {s i x : Operand} {ts : Array TypeId} {id idx ex dst k : Nat} {els : List (List D)} {y : List D} {m : Int} {fi ee sz by0 : Nat} (σ' : Obs) (T : InsT cx.P fi ee sz by0) (hg : o.guard = none) (ht : o.dst = some dst) (hdn : Nat.blt dst cx.N = true)
    (ho : o.op = .call { callee := .value (.func fi), args := #[s, i, x], argTypes := ts }) (hs : e.ev s = .own id) (hm : (id, Ob.row ee sz els) ∈ σ) (hi : e.ev i = .d (.v (.int .i64 m))) (hk : m = (k : Int)) (hkl : k ≤ els.length)
    (hx : e.ev x = .own idx) (hmx : (idx, Ob.row ex sz [y]) ∈ σ) (hne : idx ≠ id) (hb : (els.length + 1) * by0 ≤ 140737488355328)
    (hσ : ∀ p ∈ σ', p = (id, Ob.row ee sz (els.take k ++ [y] ++ els.drop k)) ∨ ∃ q ∈ σ, q.1 ≠ id ∧ p = (q.1, q.2.kill id))
    (q : AOps cx ops rest ((e.kill id).put (some dst) (.own id)) σ' Q) (hfx : cx.free id = true := by rfl) : AOps cx ops (o :: rest) e σ Q := by
  intro a w ⟨F, ρ, hr⟩
  have r1 := ev_rep (e := e) (x := s) (a := a) (fun t _ => hr.env t)
  have r2 := ev_rep (e := e) (x := i) (a := a) (fun t _ => hr.env t)
  have r3 := ev_rep (e := e) (x := x) (a := a) (fun t _ => hr.env t)
  rw [hs] at r1
  rw [hi] at r2
  rw [hx] at r3
  have v1 : a.eval s = ρ id := by generalize a.eval s = v at r1; cases r1; rfl
  have v2 := repS_v r2
  have v3 : a.eval x = ρ idx := by generalize a.eval x = v at r3; cases r3; rfl
  obtain ⟨xs, hown, hlen, hrep, hnF⟩ := hr.obs.ok _ hm
  obtain ⟨ys, hox, hylen, hyrep, _⟩ := hr.obs.ok _ hmx
  dsimp only at hown hox hnF
  have hyl : y.length = sz := by simpa using hylen 0 (by simp)
  have hown' : w.ownsRow cx.B ee sz (ρ id) els.length (flat xs els.length sz) := hown
  have hox' : w.ownsRow cx.B ex sz (ρ idx) 1 (flat ys 1 sz) := hox
  rcases hox'.2 with ⟨_, h0⟩ | ⟨vb, vcap, ecur, hvb, _, hh, hn1, hvm, hcs, htk⟩
  · simp at h0
  have one1 : ∀ u ∈ flat xs els.length sz, u.oneCell' = true := fun u hu => by
    obtain ⟨l, hl, hu⟩ := List.mem_flatten.1 hu
    obtain ⟨i, hi, rfl⟩ := List.mem_map.1 hl
    obtain ⟨j, hj, rfl⟩ := List.mem_map.1 hu
    have hi' : i < els.length := by simpa using hi
    exact (hrep i hi' j (by rw [hlen i hi']; simpa using hj)).1
  have one2 : ∀ u ∈ flat ys 1 sz, u.oneCell' = true := fun u hu => by
    obtain ⟨l, hl, hu⟩ := List.mem_flatten.1 hu
    obtain ⟨i, hi, rfl⟩ := List.mem_map.1 hl
    obtain ⟨j, hj, rfl⟩ := List.mem_map.1 hu
    have hi' : i = 0 := by simpa using hi
    subst hi'
    exact (hyrep 0 (by simp) j (by simp only [List.getElem_cons_zero, hyl]; simpa using hj)).1
  have hE : Enters cx.P fi := T.ent
  have hx' : (execOp a.eval o).run cx.P w = .ok (.enter fi #[a.eval s, a.eval i, a.eval x]) w := by
    obtain ⟨xs, hxs⟩ : ∃ xs : List Operand, xs = [s, i, x] := ⟨_, rfl⟩
    have ho' : o.op = .call { callee := .value (.func fi), args := xs.toArray, argTypes := ts } := by rw [ho, hxs]
    have h5 := hE (xs.map a.eval).toArray w
    have h6 : (execOp a.eval o).run cx.P w = .ok (.enter fi (xs.map a.eval).toArray) w := by
      unfold execOp
      simp only [ho', resolve, Deferred.ofValue, Act.eval, invoke, Sem.run_bind, Sem.run_pure, Result.andThen_ok]
      simpa using h5
    rw [hxs] at h6
    exact h6
  have hc := T.calls (i := k) (vb := vb) (vcap := vcap) (y := flat ys 1 sz) hown' one1 hkl hr.hB hb hh ⟨hn1, by unfold maxLen at hvm; omega⟩ (by rw [flat_length, Nat.one_mul]) (by simpa using htk) one2 (fun he => hr.obs.apart _ hmx _ hm hne vb (by dsimp only; rw [hvb]; rfl) (by dsimp only; exact he))
  rw [v1, v2, v3, hvb, hk] at hx'
  refine wpList_plain hg fun K hK => ?_
  unfold Oper.wp
  rw [hx']
  refine hc.mono fun _ w' ⟨v', he, hI⟩ => ?_
  subst he
  have hlen2 : (els.take k ++ [y] ++ els.drop k).length = els.length + 1 := by simp; omega
  have hturn := hr.turn (ρ' := fun j => if j = id then v' else ρ j) (id := id) (ob := .row ee sz (els.take k ++ [y] ++ els.drop k)) (row := blk (ρ id)) (w' := w') (F' := F) (fun j hj => by simp [hj]) hI.turn hfx
    (fun g hg => ⟨hr.kown _ hm g hg, hnF g hg, fun p hp hpi => fun he => hr.obs.apart p hp _ hm hpi g he hg⟩) (fun b hb => hb) (fun b hb => .inl hb) (fun b hb => Nat.lt_of_lt_of_le (hr.lt b hb) hI.turn.size)
    ⟨fun i j => if i < k then xs i j else if i = k then ys 0 j else xs (i - 1) j, by
      dsimp only
      rw [if_pos rfl]
      have h6 := hI.own
      rw [flat_ins xs ys sz hkl] at h6
      rw [hlen2]
      exact h6, fun i hi => by
      rw [ins_get hkl hi]
      split
      · exact hlen _ _
      · split
        · exact hyl
        · exact hlen _ _, fun i hi j hj => by
      have hr7 : ∀ x d, Rep F w x d → Rep F w' x d := fun x d h => h.turn hr.lt hnF hI.turn
      have hi2 : i < els.length + 1 := by rw [hlen2] at hi; exact hi
      have hg := ins_get hkl hi
      by_cases h1 : i < k
      · rw [dif_pos h1] at hg
        simp only [if_pos h1]
        simp only [hg] at hj ⊢
        exact ⟨(hrep i (by omega) j hj).1, hr7 _ _ (hrep i (by omega) j hj).2⟩
      · rw [dif_neg h1] at hg
        by_cases h2 : i = k
        · rw [dif_pos h2] at hg
          simp only [if_neg h1, if_pos h2]
          simp only [hg] at hj ⊢
          have h8 := hyrep 0 (by simp) j (by simpa using hj)
          exact ⟨h8.1, hr7 _ _ (by simpa using h8.2)⟩
        · rw [dif_neg h2] at hg
          simp only [if_neg h1, if_neg h2]
          simp only [hg] at hj ⊢
          exact ⟨(hrep (i - 1) (by omega) j hj).1, hr7 _ _ (hrep (i - 1) (by omega) j hj).2⟩, fun g hg hf => by
      dsimp only at hg
      rw [if_pos rfl] at hg
      rcases hI.new g hg with h6 | h6
      · exact hnF g h6 hf
      · have := hr.lt g hf; omega⟩ (fun g hg => by rw [if_pos rfl] at hg; exact hI.new g hg) σ' hσ
  have h9 := hturn.put (o := ⟨some dst, .ready 0, 0, "", #[], none⟩) (v := v') (s := .own id) (Ext.refl hturn.lt) (by
      have := RepS.own (F := F) (ρ := fun j => if j = id then v' else ρ j) (w := w') id
      simpa using this) (by simpa [DstOk, Nat.blt_eq] using hdn)
  have := q _ _ ⟨F, _, h9⟩
  rw [← ht] at this
  exact hK _ _ this
theorem AOps.insertK {s i x : Operand} {ts : Array TypeId} {id idx ex dst k : Nat} {els : List (List D)} {y : List D} {m : Int} {fi ee sz by0 : Nat} (T : InsT cx.P fi ee sz by0) (hg : o.guard = none) (ht : o.dst = some dst) (hdn : Nat.blt dst cx.N = true)
    (ho : o.op = .call { callee := .value (.func fi), args := #[s, i, x], argTypes := ts }) (hs : e.ev s = .own id) (hm : (id, Ob.row ee sz els) ∈ σ) (hi : e.ev i = .d (.v (.int .i64 m))) (hk : m = (k : Int)) (hkl : k ≤ els.length)
    (hx : e.ev x = .own idx) (hmx : (idx, Ob.row ex sz [y]) ∈ σ) (hne : idx ≠ id) (hb : (els.length + 1) * by0 ≤ 140737488355328)
    (q : AOps cx ops rest ((e.kill id).put (some dst) (.own id)) ((id, .row ee sz (els.take k ++ [y] ++ els.drop k)) :: Obs.kill id (Obs.del id σ)) Q) (hfx : cx.free id = true := by rfl) : AOps cx ops (o :: rest) e σ Q :=
  AOps.insertG _ T hg ht hdn ho hs hm hi hk hkl hx hmx hne hb (fun p hp => by
    rcases List.mem_cons.1 hp with rfl | hp
    · exact .inl rfl
    · obtain ⟨q, hq, rfl⟩ := Obs.mem_kill hp
      exact .inr ⟨q, (Obs.mem_del hq).1, (Obs.mem_del hq).2, rfl⟩) q hfx
end
end Go.Proofs.YtekenfknoakboaaGreatDoor


namespace Go.Proofs.YtekenfknoakboaaGreatDoor
open Go.RowKit Go.Shelf Go.Lib
set_option linter.unusedVariables false
set_option linter.unusedSimpArgs false
namespace InsS
theorem et_cpyI : ElemTy Tryz.prog 24 31 4 32 (.agg #[(.int .i64 0), (.int .i64 0), (.int .i64 0), (.int .i64 0)]) := ⟨by kernel_rfl, by kernel_rfl, by kernel_rfl, by decide⟩

set_option maxHeartbeats 4000000 in
set_option maxRecDepth 100000 in
/-- At the end. -/
theorem insC_end {B : Nat} {w : World} {v : Value} {n vb vcap : Nat} {xs y : List Value} (hown : w.ownsRow B 31 4 v n xs) (hB : B ≤ w.heap.size) (hb : (n + 1) * 32 ≤ 140737488355328) (hsl : Sl w 4 (.slice (some ⟨vb, 0, none⟩) 1 vcap) 1 y) (hy1 : ∀ u ∈ y, u.oneCell' = true) :
    Calls Tryz.prog 85 #[v, .int .i64 n, .slice (some ⟨vb, 0, none⟩) 1 vcap] w fun e w' => ∃ v', e = .returned v' ∧ InsEndG 31 4 B w v (n + 1) (xs ++ y) v' w' := by
  have HO := Lib.hid hown
  have HS := Lib.hid hsl
  clear hsl
  rcases hown.2 with ⟨rfl, rfl⟩ | ⟨g, cap, cur, rfl, hg, hh, hn, hmx, hcs, htk⟩
  · clear hown
    go_enter Tryz.func85, Tryz.ntmps85
    go_wp2_with (at_builtin; refine wpList_cat2 et_cpyI _ _ rfl rfl HO.out rfl rfl HS.out hy1 hb (by omega) hB ?_; intro v' w' h1 h2 h3)
    all_goals (go_ret; exact ⟨_, rfl, insEnd_cat HO.out h1 h2 h3⟩)
  · clear hown hh hcs htk
    have hn9 : n ≤ 9223372036854775807 := by omega
    unfold maxLen at hmx
    by_cases hcn : cap = n
    · subst hcn
      go_enter Tryz.func85, Tryz.ntmps85
      go_wp2_with (at_builtin; refine wpList_cat2 et_cpyI _ _ rfl rfl HO.out rfl rfl HS.out hy1 hb (by omega) hB ?_; intro v' w' h1 h2 h3)
      all_goals (go_ret; exact ⟨_, rfl, insEnd_cat HO.out h1 h2 h3⟩)
    · skip
      go_enter Tryz.func85, Tryz.ntmps85
      go_wp2_with (at_builtin; refine wpList_cat2 et_cpyI _ _ rfl rfl HO.out rfl rfl HS.out hy1 hb (by omega) hB ?_; intro v' w' h1 h2 h3)
      all_goals (go_ret; exact ⟨_, rfl, insEnd_cat HO.out h1 h2 h3⟩)

set_option maxHeartbeats 4000000 in
set_option maxRecDepth 100000 in
/-- Before an element, there is room: in place. -/
theorem insC_shift (b n c i vb vc : Nat) (cs vs : List Value) (w : World) (hi : i < n) (hroom : n + 1 ≤ c) (hc63 : c ≤ 9223372036854775807) (hvb : vb ≠ b) (hcl : cs.length = n * 4) (hvl : vs.length = 4)
    (hcs : ∀ j v, cs[j]? = some v → w.cell? ⟨b, j, none⟩ = some v) (hsp : ∀ j, j < (n + 1) * 4 → (w.cell? ⟨b, j, none⟩).isSome = true) (hfz : ∀ j, w.frozen? ⟨b, j, none⟩ = false)
    (hvs : ∀ j v, vs[j]? = some v → w.cell? ⟨vb, j, none⟩ = some v) (h1c : ∀ v ∈ cs, v.oneCell' = true) (h1v : ∀ v ∈ vs, v.oneCell' = true)
    (tA tB : TypeId) (kA kB : Nat) (hsa : w.shape? vb = some (tA, kA)) (hsb : w.shape? b = some (tB, kB)) (hkB : kB ≠ 0) (hfa : w.frozen? ⟨vb, 0, none⟩ = false) (hfe : w.frozen? ⟨vb, kA, none⟩ = false) :
    Calls Tryz.prog 85 #[.slice (some ⟨b, 0, none⟩) n c, .int .i64 i, .slice (some ⟨vb, 0, none⟩) 1 vc] w fun e w' =>
      e = .returned (.slice (some ⟨b, 0, none⟩) (n + 1) c) ∧ w' = (w.drew.setCells b ((i + 1) * 4) (cs.drop (i * 4))).setCells b (i * 4) vs := by
  have hsz : (Tryz.prog.info? 31).map (·.size) = some 4 := by
    obtain ⟨i0, hi0, h0, h1, h2⟩ := info_parts et_cpyI.hi
    rw [hi0]; simp [h1]
  have hov : ∀ lb cb, (callFunc 118 #[.slice (some ⟨vb, 0, none⟩) 1 vc, .slice (some ⟨b, (i + 1) * 4, none⟩) lb cb]).run Tryz.prog w = .ok (.value (.bool false)) w := fun lb cb => by
    rw [run_callFunc_extern Tryz.func118 (by kernel_rfl) (by kernel_rfl) (by kernel_rfl) (e := Extern.SlicesOverlaps.overlaps #[24, 24] #[4]) (by kernel_rfl),
      Lib.run_overlaps_apart w 24 4 31 et_cpyI.ht 4 et_cpyI.sizeOf ⟨vb, 0, none⟩ ⟨b, (i + 1) * 4, none⟩ 1 vc lb cb hvb tA tB kA kB hsa hsb hkB hfa hfe]
    rfl
  have hdl : (cs.drop (i * 4)).length = (n - i) * 4 := by rw [List.length_drop, hcl]; omega
  have hw1 : IntKind.i64.wrap ((i : Int) + 1) = (i : Int) + 1 := by rw [IntKind.wrap_i64]; omega
  have hw2 : IntKind.i64.wrap ((n : Int) + 1) = (n : Int) + 1 := by rw [IntKind.wrap_i64]; omega
  have hz2 : ¬ ((i : Int) = (n : Int)) := by omega
  have hb1 : (0 : Int) ≤ (i : Int) + 1 := by omega
  have hin : i ≤ n := by omega
  have htn : ((i : Int) + 1).toNat = i + 1 := by omega
  have hb2 : ¬ (c = i + 1) := by omega
  have hb3 : (i : Int) ≤ (n : Int) + 1 := by omega
  have hb4 : ¬ (c = i) := by omega
  have hcp1 : ∀ ty dc sc, (Builtin.copy_ #[24, 24] ty #[.slice (some ⟨b, (i + 1) * 4, none⟩) (n - i) dc, .slice (some ⟨b, i * 4, none⟩) (n + 1 - i) sc]).run Tryz.prog w.drew = .ok (goInt (Nat.min (n + 1 - i) (n - i))) (w.drew.setCells b ((i + 1) * 4) (cs.drop (i * 4))) := fun ty dc sc =>
    run_copy_sz w.drew _ _ ty 31 4 b ((i + 1) * 4) (n - i) dc ⟨b, i * 4, none⟩ (n + 1 - i) sc (cs.drop (i * 4)) et_cpyI.ht hsz (by rw [hdl]; simp only [Nat.min_def]; split <;> omega)
      (fun j v hj => by rw [Addr.add_lit]; exact hcs (i * 4 + j) v (by rwa [List.getElem?_drop] at hj))
      (fun j hj => hsp _ (by omega)) (fun j hj => hfz _) (fun v hv => h1c v (List.mem_of_mem_drop hv))
  obtain ⟨W1, hW1⟩ : ∃ W1, W1 = w.drew.setCells b ((i + 1) * 4) (cs.drop (i * 4)) := ⟨_, rfl⟩
  have hsp1 : ∀ k, k < (n + 1) * 4 → (W1.cell? ⟨b, k, none⟩).isSome = true := fun k hk => by
    rw [hW1]
    exact isSome_setCells b (cs.drop (i * 4)) ((i + 1) * 4) w.drew (fun j hj => hsp ((i + 1) * 4 + j) (by omega)) k (hsp k hk)
  have hcp2 : ∀ (W : World), (∀ x, W.cell? x = W1.cell? x) → (∀ x, W.frozen? x = W1.frozen? x) → ∀ ty dc, (Builtin.copy_ #[24, 24] ty #[.slice (some ⟨b, i * 4, none⟩) (n + 1 - i) dc, .slice (some ⟨vb, 0, none⟩) 1 vc]).run Tryz.prog W = .ok (goInt (Nat.min 1 (n + 1 - i))) (W.setCells b (i * 4) vs) := fun W hWc hWf ty dc =>
    run_copy_sz W _ _ ty 31 4 b (i * 4) (n + 1 - i) dc ⟨vb, 0, none⟩ 1 vc vs et_cpyI.ht hsz (by rw [hvl]; simp only [Nat.min_def]; split <;> omega)
      (fun j v hj => by
        rw [Addr.add_lit, hWc, hW1, World.cell?_setCells_out b _ _ _ _ (fun h _ => absurd h hvb), Nat.zero_add]
        exact hvs j v hj)
      (fun j hj => by rw [hWc]; exact hsp1 _ (by omega)) (fun j hj => by rw [hWf, hW1, World.frozen?_setCells]; exact hfz _) h1v
  rw [← hW1] at hcp1
  go_enter Tryz.func85, Tryz.ntmps85
  go_wp2_with (simp only [hov])
  go_region_law (refine step_copy_runI rfl _ _ 24 24 rfl _ _ (by simp [Act.eval, Act.put]) (by simp [Act.eval, Act.put]) (hcp1 _ _ _) ?_)
  go_wp2_with (at_builtin; refine wpList_copy_runI _ rfl _ _ 24 24 rfl _ _ rfl rfl (hcp2 _ (fun _ => rfl) (fun _ => rfl) _ _) ?_)
  go_ret
  first | exact ⟨rfl, rfl⟩ | exact ⟨rfl, by rw [hW1]⟩

def zcpyV : Value := (Value.agg #[(.int .i64 0), (.int .i64 0), (.int .i64 0), (.int .i64 0)])
theorem zeros7 (k : Nat) : (Builtin.zeroCells zcpyV.cells k).size = k * 4 := by simp [Builtin.zeroCells, Value.cells, zcpyV]
set_option maxHeartbeats 4000000 in
set_option maxRecDepth 100000 in
/-- Before an element, there is no room: a new row. -/
theorem insC_grow (b n c i vb vc : Nat) (cs vs : List Value) (w : World) (hi : i < n) (hnc : n ≤ c) (hroom : c < n + 1) (hbig : (n + 1) * 32 ≤ 140737488355328) (hcl : cs.length = n * 4) (hvl : vs.length = 4)
    (hcs : ∀ j v, cs[j]? = some v → w.cell? ⟨b, j, none⟩ = some v)
    (hvs : ∀ j v, vs[j]? = some v → w.cell? ⟨vb, j, none⟩ = some v) (h1c : ∀ v ∈ cs, v.oneCell' = true) (h1v : ∀ v ∈ vs, v.oneCell' = true) :
    Calls Tryz.prog 85 #[.slice (some ⟨b, 0, none⟩) n c, .int .i64 i, .slice (some ⟨vb, 0, none⟩) 1 vc] w fun e w' =>
      e = .returned (.slice (some ⟨w.heap.size, 0, none⟩) (n + 1) (grownCap w (n + 1) c 31)) ∧
      w' = (((w.alloc (.cells ((cs.take (i * 4)).toArray ++ Builtin.zeroCells zcpyV.cells (n + 1 - i) ++ Builtin.zeroCells zcpyV.cells (grownCap w (n + 1) c 31 - (n + 1))) 31)).drew.setCells w.heap.size (i * 4) vs).drew).setCells w.heap.size ((i + 1) * 4) (cs.drop (i * 4)) := by
  obtain ⟨i0, hi0, hz0, hzs, hzb⟩ := info_parts et_cpyI.hi
  have hz0 : i0.zero = some zcpyV := hz0
  have htI : Tryz.prog.underlying 3 = some (.int .i64) := by kernel_rfl
  have hz2 : ¬ ((i : Int) = (n : Int)) := by omega
  have hz3 : (c : Int) < (n : Int) + 1 := by omega
  have hsz : (Tryz.prog.info? 31).map (·.size) = some 4 := by rw [hi0]; simp [hzs]
  have hbw : b < w.heap.size := block_lt_of_cell (hcs 0 _ (List.getElem?_eq_getElem (by omega)))
  have hvw : vb < w.heap.size := block_lt_of_cell (hvs 0 _ (List.getElem?_eq_getElem (by omega)))
  have hkk : (n : Int) + 1 - (i : Int) = ((n + 1 - i : Nat) : Int) := by omega
  have hik : i + (n + 1 - i) = n + 1 := by omega
  have hold : (Builtin.firstCells i0.size i (.slice (some ⟨b, 0, none⟩) i c)).run Tryz.prog w.drew = .ok (cs.take (i * 4)).toArray w.drew := by
    rw [hzs]
    exact run_firstCells_some w.drew 4 i ⟨b, 0, none⟩ i c (cs.take (i * 4)) (by rw [List.length_take]; omega) (fun j v hj => by
      rw [Addr.add_lit]
      rw [List.getElem?_take] at hj
      split at hj
      · rw [Nat.zero_add]; exact hcs j v hj
      · cases hj)
  have hrz : ∀ ty, (Builtin.append_ #[24, 3] ty #[.slice (some ⟨b, 0, none⟩) i c, .int .i64 ((n : Int) + 1 - (i : Int))]).run Tryz.prog w =
      .ok (.slice (some ⟨w.heap.size, 0, none⟩) (n + 1) (grownCap w (n + 1) c 31)) (w.drew.alloc (.cells ((cs.take (i * 4)).toArray ++ Builtin.zeroCells zcpyV.cells (n + 1 - i) ++ Builtin.zeroCells zcpyV.cells (grownCap w (n + 1) c 31 - (n + 1))) 31)) := fun ty => by
    have h := Lib.run_append_grow_zeros w 24 3 ty 31 i0 _ .i64 .i64 et_cpyI.ht htI hi0 hz0 (some ⟨b, 0, none⟩) i c (cs.take (i * 4)) hold (n + 1 - i) (by omega) (by omega) (by omega) (by omega) (by rw [hzb]; omega) (by rw [hzb, hik]; exact growslice_fits hroom hbig)
    rw [hik] at h
    rw [hkk]
    exact h
  obtain ⟨G, hG⟩ : ∃ G, G = grownCap w (n + 1) c 31 := ⟨_, rfl⟩
  obtain ⟨ROW, hROW⟩ : ∃ ROW : Array Value, ROW = (cs.take (i * 4)).toArray ++ Builtin.zeroCells zcpyV.cells (n + 1 - i) ++ Builtin.zeroCells zcpyV.cells (G - (n + 1)) := ⟨_, rfl⟩
  rw [← hG] at hrz ⊢
  rw [← hROW] at hrz ⊢
  have hRl : (n + 1) * 4 ≤ ROW.size := by
    rw [hROW]
    simp only [Array.size_append, zeros7, List.size_toArray, List.length_take]
    omega
  obtain ⟨W1, hW1⟩ : ∃ W1, W1 = w.drew.alloc (.cells ROW 31) := ⟨_, rfl⟩
  rw [← hW1] at hrz
  have hN : ∀ j, j < (n + 1) * 4 → (W1.cell? ⟨w.heap.size, j, none⟩).isSome = true := fun j hj => by
    rw [hW1, World.cell?_alloc_at (w := w.drew) ROW _ w.heap.size j rfl, Array.getElem?_eq_getElem (by omega)]; rfl
  have hNf : ∀ j, W1.frozen? ⟨w.heap.size, j, none⟩ = false := fun j => by rw [hW1]; exact World.frozen?_alloc_at (w := w.drew) ROW _ w.heap.size j rfl
  have hOb : ∀ j v, w.cell? ⟨b, j, none⟩ = some v → W1.cell? ⟨b, j, none⟩ = some v := fun j v h => by rw [hW1, World.cell?_alloc_past (w := w.drew) _ b j hbw]; exact h
  have hOv : ∀ j v, w.cell? ⟨vb, j, none⟩ = some v → W1.cell? ⟨vb, j, none⟩ = some v := fun j v h => by rw [hW1, World.cell?_alloc_past (w := w.drew) _ vb j hvw]; exact h
  have hcpA : ∀ (W : World), (∀ x, W.cell? x = W1.cell? x) → (∀ x, W.frozen? x = W1.frozen? x) → ∀ ty dc, (Builtin.copy_ #[24, 24] ty #[.slice (some ⟨w.heap.size, i * 4, none⟩) (n + 1 - i) dc, .slice (some ⟨vb, 0, none⟩) 1 vc]).run Tryz.prog W = .ok (goInt (Nat.min 1 (n + 1 - i))) (W.setCells w.heap.size (i * 4) vs) := fun W hWc hWf ty dc =>
    run_copy_sz W _ _ ty 31 4 w.heap.size (i * 4) (n + 1 - i) dc ⟨vb, 0, none⟩ 1 vc vs et_cpyI.ht hsz (by rw [hvl]; simp only [Nat.min_def]; split <;> omega)
      (fun j v hj => by rw [Addr.add_lit, hWc, Nat.zero_add]; exact hOv _ v (hvs j v hj))
      (fun j hj => by rw [hWc]; exact hN _ (by omega)) (fun j hj => by rw [hWf]; exact hNf _) h1v
  have hGn : n + 1 ≤ G := by rw [hG]; exact grownCap_ge w _ _ _
  have hG63 : G ≤ 9223372036854775807 := by
    have := grownCap_le_maxLen w (n + 1) c 31 (by unfold maxLen; omega)
    rw [← hG] at this
    unfold maxLen at this
    omega
  have hGi : ¬ (G = i) := by omega
  have hGim : ¬ (G = i + 1) := by omega
  have hci : ¬ (c = i) := by omega
  have hbN : b ≠ w.heap.size := by omega
  have hdl : (cs.drop (i * 4)).length = (n - i) * 4 := by rw [List.length_drop, hcl]; omega
  have hcpB : ∀ (W : World), (∀ x, W.cell? x = (W1.setCells w.heap.size (i * 4) vs).cell? x) → (∀ x, W.frozen? x = (W1.setCells w.heap.size (i * 4) vs).frozen? x) → ∀ ty dc sc, (Builtin.copy_ #[24, 24] ty #[.slice (some ⟨w.heap.size, (i + 1) * 4, none⟩) (n - i) dc, .slice (some ⟨b, i * 4, none⟩) (n - i) sc]).run Tryz.prog W = .ok (goInt (Nat.min (n - i) (n - i))) (W.setCells w.heap.size ((i + 1) * 4) (cs.drop (i * 4))) := fun W hWc hWf ty dc sc =>
    run_copy_sz W _ _ ty 31 4 w.heap.size ((i + 1) * 4) (n - i) dc ⟨b, i * 4, none⟩ (n - i) sc (cs.drop (i * 4)) et_cpyI.ht hsz (by rw [hdl]; simp only [Nat.min_def]; split <;> omega)
      (fun j v hj => by
        rw [Addr.add_lit, hWc, World.cell?_setCells_out _ _ _ _ _ (fun h _ => absurd h hbN)]
        exact hOb _ v (hcs (i * 4 + j) v (by rwa [List.getElem?_drop] at hj)))
      (fun j hj => by rw [hWc]; exact isSome_setCells w.heap.size vs (i * 4) W1 (fun t ht => hN _ (by omega)) _ (hN _ (by omega)))
      (fun j hj => by rw [hWf, World.frozen?_setCells]; exact hNf _) (fun v hv => h1c v (List.mem_of_mem_drop hv))
  subst hW1
  have hE1 : ∀ x, ((w.alloc (.cells ROW 31)).drew).cell? x = (w.drew.alloc (.cells ROW 31)).cell? x := fun x => rfl
  have hE2 : ∀ x, ((w.alloc (.cells ROW 31)).drew).frozen? x = (w.drew.alloc (.cells ROW 31)).frozen? x := fun x => rfl
  have hF1 : ∀ x, (((w.alloc (.cells ROW 31)).drew.setCells w.heap.size (i * 4) vs).drew).cell? x = ((w.drew.alloc (.cells ROW 31)).setCells w.heap.size (i * 4) vs).cell? x := fun x => rfl
  have hF2 : ∀ x, (((w.alloc (.cells ROW 31)).drew.setCells w.heap.size (i * 4) vs).drew).frozen? x = ((w.drew.alloc (.cells ROW 31)).setCells w.heap.size (i * 4) vs).frozen? x := fun x => rfl
  have hw1 : IntKind.i64.wrap ((i : Int) + 1) = (i : Int) + 1 := by rw [IntKind.wrap_i64]; omega
  have hb1 : (0 : Int) ≤ (i : Int) + 1 := by omega
  have hin : i ≤ n := by omega
  have htn : ((i : Int) + 1).toNat = i + 1 := by omega
  have hb3 : (i : Int) ≤ (n : Int) := by omega
  clear hkk hik hold hROW hG hRl
  go_enter Tryz.func85, Tryz.ntmps85
  go_wp2_with (first
    | (at_builtin; refine Lib.wpList_append_run _ rfl _ _ _ _ rfl _ _ rfl rfl _ _ (hrz _) ?_)
    | (at_builtin; refine wpList_copy_runI _ rfl _ _ 24 24 rfl _ _ rfl rfl (hcpA _ hE1 hE2 _ _) ?_)
    | (at_builtin; refine wpList_copy_runI _ rfl _ _ 24 24 rfl _ _ rfl rfl (hcpB _ (fun _ => rfl) (fun _ => rfl) _ _ _) ?_))
  go_region_law (refine step_copy_runI rfl _ _ 24 24 rfl (.slice (some ⟨w.heap.size, (i + 1) * 4, none⟩) (n - i) (G - (i + 1))) (.slice (some ⟨b, i * 4, none⟩) (n - i) (c - i)) (by simp [Act.eval, Act.put]) (by simp [Act.eval, Act.put]) (hcpB _ hF1 hF2 3 (G - (i + 1)) (c - i)) ?_)
  go_wp2
  go_ret
  exact ⟨rfl, rfl⟩

theorem own_allocC {w : World} {B n cap : Nat} {ys : List Value} {A : Array Value} (hB : B ≤ w.heap.size) (hn : ys.length = n * 4) (hc : n ≤ cap) (hm : cap ≤ maxLen) (hA : A.size = cap * 4) (hy : A.toList.take (n * 4) = ys) {w' : World} (hw : w'.heap[w.heap.size]? = some (.cells A 31 (0, 0))) :
    w'.ownsRow B 31 4 (.slice (some ⟨w.heap.size, 0, none⟩) n cap) n ys :=
  ⟨hn, .inr ⟨w.heap.size, cap, A, rfl, hB, hw, hc, hm, hA, hy⟩⟩
set_option maxHeartbeats 1000000 in
theorem insC_calls {B : Nat} {w : World} {v : Value} {n i vb vcap : Nat} {xs y : List Value} {ecur : Array Value} {ety : TypeId} (hown : w.ownsRow B 31 4 v n xs) (hxs : ∀ u ∈ xs, u.oneCell' = true) (hi : i ≤ n) (hB : B ≤ w.heap.size) (hb : (n + 1) * 32 ≤ 140737488355328)
    (hvb : w.heap[vb]? = some (.cells ecur ety (0, 0))) (hvc : 1 ≤ vcap ∧ vcap ≤ 9223372036854775807) (hyl : y.length = 4) (hye : ecur.toList.take 4 = y) (hy1 : ∀ u ∈ y, u.oneCell' = true) (hne : blk v ≠ some vb) :
    Calls Tryz.prog 85 #[v, .int .i64 i, .slice (some ⟨vb, 0, none⟩) 1 vcap] w fun e w' => ∃ v', e = .returned v' ∧ InsEndG 31 4 B w v (n + 1) (xs.take (i * 4) ++ y ++ xs.drop (i * 4)) v' w' := by
  have hxl : xs.length = n * 4 := hown.1
  have hG : n + 1 ≤ maxLen := by unfold maxLen; omega
  have hvs : ∀ j u, y[j]? = some u → w.cell? ⟨vb, j, none⟩ = some u := fun j u hj => by
    rw [cell_of_row w vb j ecur ety (0, 0) hvb, ← Array.getElem?_toList]
    rw [← hye, List.getElem?_take] at hj
    split at hj
    · exact hj
    · cases hj
  have hsl : Sl w 4 (.slice (some ⟨vb, 0, none⟩) 1 vcap) 1 y := ⟨by rw [hyl], .inr ⟨⟨vb, 0, none⟩, vcap, rfl, hvc.1, hvc.2, fun q hq => by
    rw [addr_add, Nat.zero_add]
    exact hvs q _ (List.getElem?_eq_getElem hq)⟩⟩
  by_cases hend : i = n
  · subst hend
    rw [List.take_of_length_le (by omega), List.drop_eq_nil_of_le (by omega), List.append_nil]
    exact insC_end hown hB hb hsl hy1
  have hlt : i < n := by omega
  rcases hown.2 with ⟨rfl, h0⟩ | ⟨g, cap, cur, rfl, hg, hh, hn, hmx, hcs, htk⟩
  · omega
  have hlen : (xs.take (i * 4) ++ y ++ xs.drop (i * 4)).length = (n + 1) * 4 := by simp; omega
  have hcl : cur.toList.length = cap * 4 := by rw [Array.length_toList, hcs]
  have hget : ∀ k, k < n * 4 → cur.toList[k]? = xs[k]? := fun k hk => by rw [← htk, List.getElem?_take, if_pos hk]
  have hcell : ∀ k, w.cell? ⟨g, k, none⟩ = cur[k]? := fun k => by rw [cell_of_row w g k cur 31 (0, 0) hh]
  have hcells : ∀ j u, xs[j]? = some u → w.cell? ⟨g, j, none⟩ = some u := fun j u hj => by
    have hjl := (List.getElem?_eq_some_iff.1 hj).1
    rw [hcell, ← hj, ← hget j (by omega), Array.getElem?_toList]
  have hsome : ∀ j, j < cap * 4 → (w.cell? ⟨g, j, none⟩).isSome = true := fun j hj => by
    rw [hcell, Array.getElem?_eq_getElem (by omega)]; rfl
  have hfz : ∀ k, w.frozen? ⟨g, k, none⟩ = false := fun k => by unfold World.frozen?; rw [hh]; simp
  have hfv : ∀ k, w.frozen? ⟨vb, k, none⟩ = false := fun k => by unfold World.frozen?; rw [hvb]; simp
  have hmx' : cap ≤ 9223372036854775807 := by unfold maxLen at hmx; omega
  by_cases hroom : n + 1 ≤ cap
  · refine (insC_shift g n cap i vb vcap xs y w hlt hroom hmx' (fun h => hne (by rw [h]; rfl)) hxl hyl hcells (fun j hj => hsome _ (by omega)) hfz hvs hxs hy1 ety 31 ecur.size cur.size (by unfold World.shape?; rw [hvb]) (by unfold World.shape?; rw [hh]) (by omega) (hfv _) (hfv _)).mono ?_
    rintro e w' ⟨rfl, rfl⟩
    have hs1 := setCells_heap (g := g) (e := 31) (xs.drop (i * 4)) ((i + 1) * 4) w.drew cur.toList (by rw [Array.toArray_toList]; exact hh) (by simp; omega)
    have hs := setCells_heap (g := g) (e := 31) y (i * 4) _ _ hs1 (by simp; omega)
    refine ⟨_, rfl, ⟨hlen, .inr ⟨g, cap, _, rfl, hg, hs, hroom, hmx, ?_, ?_⟩⟩, ((drew_turn w _).trans (setCells_turn g _ _ _)).trans (setCells_turn g _ _ _), fun g' hg' => .inl hg'⟩
    · simp; omega
    · rw [show (n + 1) * 4 = n * 4 + 4 by omega]
      refine ins_takeS hxl (by omega) hyl (fun k hk => ?_) (fun k hk => ?_) (fun k h1 h2 => ?_)
      · rw [get3]
        simp only [List.length_take, List.length_append, List.length_drop, hcl, hxl]
        rw [if_pos (by omega), List.getElem?_take, if_pos hk, get3]
        simp only [List.length_take, hcl]
        rw [if_pos (by omega), List.getElem?_take, if_pos (by omega), hget k (by omega)]
      · rw [get3]
        simp only [List.length_take, List.length_append, List.length_drop, hcl, hxl]
        rw [if_neg (by omega), if_pos (by omega)]
        congr 1
        omega
      · rw [get3]
        simp only [List.length_take, List.length_append, List.length_drop, hcl, hxl, hyl]
        rw [if_neg (by omega), if_neg (by omega), List.getElem?_drop, get3]
        simp only [List.length_take, List.length_drop, hcl, hxl]
        rw [if_neg (by omega), if_pos (by omega), List.getElem?_drop]
        congr 1
        omega
  · refine (insC_grow g n cap i vb vcap xs y w hlt hn (by omega) hb hxl hyl hcells hvs hxs hy1).mono ?_
    rintro e w' ⟨rfl, rfl⟩
    have hge := grownCap_ge w (n + 1) cap 31
    have hle := grownCap_le_maxLen w (n + 1) cap 31 hG
    generalize grownCap w (n + 1) cap 31 = G at hge hle
    have h0 := alloc_at w (.cells ((xs.take (i * 4)).toArray ++ Builtin.zeroCells zcpyV.cells (n + 1 - i) ++ Builtin.zeroCells zcpyV.cells (G - (n + 1))) 31 (0, 0))
    generalize hA : (xs.take (i * 4)).toArray ++ Builtin.zeroCells zcpyV.cells (n + 1 - i) ++ Builtin.zeroCells zcpyV.cells (G - (n + 1)) = A at h0
    have hAs : A.size = G * 4 := by rw [← hA]; simp only [Array.size_append, zeros7, List.size_toArray, List.length_take]; omega
    have hAg : ∀ k, k < i * 4 → A.toList[k]? = xs[k]? := fun k hk => by
      rw [← hA]
      simp only [Array.toList_append]
      rw [List.append_assoc, List.getElem?_append_left (by simp; omega)]
      simp only [List.getElem?_take]
      rw [if_pos hk]
    have hs1 := setCells_heap (g := w.heap.size) (e := 31) y (i * 4) (w.alloc (.cells A 31 (0, 0))).drew A.toList (by rw [Array.toArray_toList]; exact h0) (by simp; omega)
    have hs := setCells_heap (g := w.heap.size) (e := 31) (xs.drop (i * 4)) ((i + 1) * 4) (((w.alloc (.cells A 31 (0, 0))).drew.setCells w.heap.size (i * 4) y).drew) (A.toList.take (i * 4) ++ y ++ A.toList.drop (i * 4 + y.length)) hs1 (by simp; omega)
    refine ⟨_, rfl, own_allocC hB hlen hge hle ?_ ?_ hs, ?_, fun g' hg' => .inr ?_⟩
    · simp; omega
    · rw [show (n + 1) * 4 = n * 4 + 4 by omega]
      refine ins_takeS hxl (by omega) hyl (fun k hk => ?_) (fun k hk => ?_) (fun k h1 h2 => ?_)
      · rw [get3]
        simp only [List.length_take, List.length_append, List.length_drop, Array.length_toList, hAs, hxl, hyl]
        rw [if_pos (by omega), List.getElem?_take, if_pos (by omega), get3]
        simp only [List.length_take, Array.length_toList, hAs]
        rw [if_pos (by omega), List.getElem?_take, if_pos hk, hAg k hk]
      · rw [get3]
        simp only [List.length_take, List.length_append, List.length_drop, Array.length_toList, hAs, hxl, hyl]
        rw [if_pos (by omega), List.getElem?_take, if_pos (by omega), get3]
        simp only [List.length_take, Array.length_toList, hAs]
        rw [if_neg (by omega), if_pos (by omega)]
        congr 1
        omega
      · rw [get3]
        simp only [List.length_take, List.length_append, List.length_drop, Array.length_toList, hAs, hxl, hyl]
        rw [if_neg (by omega), if_pos (by omega), List.getElem?_drop]
        congr 1
        omega
    · have k1 := Turn.behind (alloc_turn w (.cells A 31 (0, 0)) (some g)) (Nat.le_refl _) ((drew_turn _ _).trans (setCells_turn w.heap.size y (i * 4) _))
      exact Turn.behind k1 (Nat.le_refl _) ((drew_turn _ _).trans (setCells_turn w.heap.size (xs.drop (i * 4)) ((i + 1) * 4) _))
    · simp [blk] at hg'; omega
theorem insT : InsT Tryz.prog 85 31 4 32 := ⟨Enters.of Tryz.func85 rfl rfl, fun h1 h2 h3 h4 h5 h6 h7 h8 h9 h10 h11 => insC_calls h1 h2 h3 h4 h5 h6 h7 h8 h9 h10 h11⟩
end InsS
end Go.Proofs.YtekenfknoakboaaGreatDoor


namespace Go.Proofs.YtekenfknoakboaaGreatDoor
open Go.RowKit Go.Shelf Go.Lib
set_option linter.unusedVariables false
set_option linter.unusedSimpArgs false
namespace InsU
theorem et_cpyI : ElemTy Tryz.prog 32 37 5 56 (.agg #[(.string ⟨#[]⟩), (.string ⟨#[]⟩), (.int .i64 0), (.int .i64 0), (.int .i64 0)]) := ⟨by kernel_rfl, by kernel_rfl, by kernel_rfl, by decide⟩

set_option maxHeartbeats 4000000 in
set_option maxRecDepth 100000 in
/-- At the end. -/
theorem insC_end {B : Nat} {w : World} {v : Value} {n vb vcap : Nat} {xs y : List Value} (hown : w.ownsRow B 37 5 v n xs) (hB : B ≤ w.heap.size) (hb : (n + 1) * 56 ≤ 140737488355328) (hsl : Sl w 5 (.slice (some ⟨vb, 0, none⟩) 1 vcap) 1 y) (hy1 : ∀ u ∈ y, u.oneCell' = true) :
    Calls Tryz.prog 89 #[v, .int .i64 n, .slice (some ⟨vb, 0, none⟩) 1 vcap] w fun e w' => ∃ v', e = .returned v' ∧ InsEndG 37 5 B w v (n + 1) (xs ++ y) v' w' := by
  have HO := Lib.hid hown
  have HS := Lib.hid hsl
  clear hsl
  rcases hown.2 with ⟨rfl, rfl⟩ | ⟨g, cap, cur, rfl, hg, hh, hn, hmx, hcs, htk⟩
  · clear hown
    go_enter Tryz.func89, Tryz.ntmps89
    go_wp2_with (at_builtin; refine wpList_cat2 et_cpyI _ _ rfl rfl HO.out rfl rfl HS.out hy1 hb (by omega) hB ?_; intro v' w' h1 h2 h3)
    all_goals (go_ret; exact ⟨_, rfl, insEnd_cat HO.out h1 h2 h3⟩)
  · clear hown hh hcs htk
    have hn9 : n ≤ 9223372036854775807 := by omega
    unfold maxLen at hmx
    by_cases hcn : cap = n
    · subst hcn
      go_enter Tryz.func89, Tryz.ntmps89
      go_wp2_with (at_builtin; refine wpList_cat2 et_cpyI _ _ rfl rfl HO.out rfl rfl HS.out hy1 hb (by omega) hB ?_; intro v' w' h1 h2 h3)
      all_goals (go_ret; exact ⟨_, rfl, insEnd_cat HO.out h1 h2 h3⟩)
    · skip
      go_enter Tryz.func89, Tryz.ntmps89
      go_wp2_with (at_builtin; refine wpList_cat2 et_cpyI _ _ rfl rfl HO.out rfl rfl HS.out hy1 hb (by omega) hB ?_; intro v' w' h1 h2 h3)
      all_goals (go_ret; exact ⟨_, rfl, insEnd_cat HO.out h1 h2 h3⟩)

set_option maxHeartbeats 4000000 in
set_option maxRecDepth 100000 in
/-- Before an element, there is room: in place. -/
theorem insC_shift (b n c i vb vc : Nat) (cs vs : List Value) (w : World) (hi : i < n) (hroom : n + 1 ≤ c) (hc63 : c ≤ 9223372036854775807) (hvb : vb ≠ b) (hcl : cs.length = n * 5) (hvl : vs.length = 5)
    (hcs : ∀ j v, cs[j]? = some v → w.cell? ⟨b, j, none⟩ = some v) (hsp : ∀ j, j < (n + 1) * 5 → (w.cell? ⟨b, j, none⟩).isSome = true) (hfz : ∀ j, w.frozen? ⟨b, j, none⟩ = false)
    (hvs : ∀ j v, vs[j]? = some v → w.cell? ⟨vb, j, none⟩ = some v) (h1c : ∀ v ∈ cs, v.oneCell' = true) (h1v : ∀ v ∈ vs, v.oneCell' = true)
    (tA tB : TypeId) (kA kB : Nat) (hsa : w.shape? vb = some (tA, kA)) (hsb : w.shape? b = some (tB, kB)) (hkB : kB ≠ 0) (hfa : w.frozen? ⟨vb, 0, none⟩ = false) (hfe : w.frozen? ⟨vb, kA, none⟩ = false) :
    Calls Tryz.prog 89 #[.slice (some ⟨b, 0, none⟩) n c, .int .i64 i, .slice (some ⟨vb, 0, none⟩) 1 vc] w fun e w' =>
      e = .returned (.slice (some ⟨b, 0, none⟩) (n + 1) c) ∧ w' = (w.drew.setCells b ((i + 1) * 5) (cs.drop (i * 5))).setCells b (i * 5) vs := by
  have hsz : (Tryz.prog.info? 37).map (·.size) = some 5 := by
    obtain ⟨i0, hi0, h0, h1, h2⟩ := info_parts et_cpyI.hi
    rw [hi0]; simp [h1]
  have hov : ∀ lb cb, (callFunc 128 #[.slice (some ⟨vb, 0, none⟩) 1 vc, .slice (some ⟨b, (i + 1) * 5, none⟩) lb cb]).run Tryz.prog w = .ok (.value (.bool false)) w := fun lb cb => by
    rw [run_callFunc_extern Tryz.func128 (by kernel_rfl) (by kernel_rfl) (by kernel_rfl) (e := Extern.SlicesOverlaps.overlaps #[32, 32] #[4]) (by kernel_rfl),
      Lib.run_overlaps_apart w 32 4 37 et_cpyI.ht 5 et_cpyI.sizeOf ⟨vb, 0, none⟩ ⟨b, (i + 1) * 5, none⟩ 1 vc lb cb hvb tA tB kA kB hsa hsb hkB hfa hfe]
    rfl
  have hdl : (cs.drop (i * 5)).length = (n - i) * 5 := by rw [List.length_drop, hcl]; omega
  have hw1 : IntKind.i64.wrap ((i : Int) + 1) = (i : Int) + 1 := by rw [IntKind.wrap_i64]; omega
  have hw2 : IntKind.i64.wrap ((n : Int) + 1) = (n : Int) + 1 := by rw [IntKind.wrap_i64]; omega
  have hz2 : ¬ ((i : Int) = (n : Int)) := by omega
  have hb1 : (0 : Int) ≤ (i : Int) + 1 := by omega
  have hin : i ≤ n := by omega
  have htn : ((i : Int) + 1).toNat = i + 1 := by omega
  have hb2 : ¬ (c = i + 1) := by omega
  have hb3 : (i : Int) ≤ (n : Int) + 1 := by omega
  have hb4 : ¬ (c = i) := by omega
  have hcp1 : ∀ ty dc sc, (Builtin.copy_ #[32, 32] ty #[.slice (some ⟨b, (i + 1) * 5, none⟩) (n - i) dc, .slice (some ⟨b, i * 5, none⟩) (n + 1 - i) sc]).run Tryz.prog w.drew = .ok (goInt (Nat.min (n + 1 - i) (n - i))) (w.drew.setCells b ((i + 1) * 5) (cs.drop (i * 5))) := fun ty dc sc =>
    run_copy_sz w.drew _ _ ty 37 5 b ((i + 1) * 5) (n - i) dc ⟨b, i * 5, none⟩ (n + 1 - i) sc (cs.drop (i * 5)) et_cpyI.ht hsz (by rw [hdl]; simp only [Nat.min_def]; split <;> omega)
      (fun j v hj => by rw [Addr.add_lit]; exact hcs (i * 5 + j) v (by rwa [List.getElem?_drop] at hj))
      (fun j hj => hsp _ (by omega)) (fun j hj => hfz _) (fun v hv => h1c v (List.mem_of_mem_drop hv))
  obtain ⟨W1, hW1⟩ : ∃ W1, W1 = w.drew.setCells b ((i + 1) * 5) (cs.drop (i * 5)) := ⟨_, rfl⟩
  have hsp1 : ∀ k, k < (n + 1) * 5 → (W1.cell? ⟨b, k, none⟩).isSome = true := fun k hk => by
    rw [hW1]
    exact isSome_setCells b (cs.drop (i * 5)) ((i + 1) * 5) w.drew (fun j hj => hsp ((i + 1) * 5 + j) (by omega)) k (hsp k hk)
  have hcp2 : ∀ (W : World), (∀ x, W.cell? x = W1.cell? x) → (∀ x, W.frozen? x = W1.frozen? x) → ∀ ty dc, (Builtin.copy_ #[32, 32] ty #[.slice (some ⟨b, i * 5, none⟩) (n + 1 - i) dc, .slice (some ⟨vb, 0, none⟩) 1 vc]).run Tryz.prog W = .ok (goInt (Nat.min 1 (n + 1 - i))) (W.setCells b (i * 5) vs) := fun W hWc hWf ty dc =>
    run_copy_sz W _ _ ty 37 5 b (i * 5) (n + 1 - i) dc ⟨vb, 0, none⟩ 1 vc vs et_cpyI.ht hsz (by rw [hvl]; simp only [Nat.min_def]; split <;> omega)
      (fun j v hj => by
        rw [Addr.add_lit, hWc, hW1, World.cell?_setCells_out b _ _ _ _ (fun h _ => absurd h hvb), Nat.zero_add]
        exact hvs j v hj)
      (fun j hj => by rw [hWc]; exact hsp1 _ (by omega)) (fun j hj => by rw [hWf, hW1, World.frozen?_setCells]; exact hfz _) h1v
  rw [← hW1] at hcp1
  go_enter Tryz.func89, Tryz.ntmps89
  go_wp2_with (simp only [hov])
  go_region_law (refine step_copy_runI rfl _ _ 32 32 rfl _ _ (by simp [Act.eval, Act.put]) (by simp [Act.eval, Act.put]) (hcp1 _ _ _) ?_)
  go_wp2_with (at_builtin; refine wpList_copy_runI _ rfl _ _ 32 32 rfl _ _ rfl rfl (hcp2 _ (fun _ => rfl) (fun _ => rfl) _ _) ?_)
  go_ret
  first | exact ⟨rfl, rfl⟩ | exact ⟨rfl, by rw [hW1]⟩

def zcpyV : Value := (Value.agg #[(.string ⟨#[]⟩), (.string ⟨#[]⟩), (.int .i64 0), (.int .i64 0), (.int .i64 0)])
theorem zeros7 (k : Nat) : (Builtin.zeroCells zcpyV.cells k).size = k * 5 := by simp [Builtin.zeroCells, Value.cells, zcpyV]
set_option maxHeartbeats 4000000 in
set_option maxRecDepth 100000 in
/-- Before an element, there is no room: a new row. -/
theorem insC_grow (b n c i vb vc : Nat) (cs vs : List Value) (w : World) (hi : i < n) (hnc : n ≤ c) (hroom : c < n + 1) (hbig : (n + 1) * 56 ≤ 140737488355328) (hcl : cs.length = n * 5) (hvl : vs.length = 5)
    (hcs : ∀ j v, cs[j]? = some v → w.cell? ⟨b, j, none⟩ = some v)
    (hvs : ∀ j v, vs[j]? = some v → w.cell? ⟨vb, j, none⟩ = some v) (h1c : ∀ v ∈ cs, v.oneCell' = true) (h1v : ∀ v ∈ vs, v.oneCell' = true) :
    Calls Tryz.prog 89 #[.slice (some ⟨b, 0, none⟩) n c, .int .i64 i, .slice (some ⟨vb, 0, none⟩) 1 vc] w fun e w' =>
      e = .returned (.slice (some ⟨w.heap.size, 0, none⟩) (n + 1) (grownCap w (n + 1) c 37)) ∧
      w' = (((w.alloc (.cells ((cs.take (i * 5)).toArray ++ Builtin.zeroCells zcpyV.cells (n + 1 - i) ++ Builtin.zeroCells zcpyV.cells (grownCap w (n + 1) c 37 - (n + 1))) 37)).drew.setCells w.heap.size (i * 5) vs).drew).setCells w.heap.size ((i + 1) * 5) (cs.drop (i * 5)) := by
  obtain ⟨i0, hi0, hz0, hzs, hzb⟩ := info_parts et_cpyI.hi
  have hz0 : i0.zero = some zcpyV := hz0
  have htI : Tryz.prog.underlying 3 = some (.int .i64) := by kernel_rfl
  have hz2 : ¬ ((i : Int) = (n : Int)) := by omega
  have hz3 : (c : Int) < (n : Int) + 1 := by omega
  have hsz : (Tryz.prog.info? 37).map (·.size) = some 5 := by rw [hi0]; simp [hzs]
  have hbw : b < w.heap.size := block_lt_of_cell (hcs 0 _ (List.getElem?_eq_getElem (by omega)))
  have hvw : vb < w.heap.size := block_lt_of_cell (hvs 0 _ (List.getElem?_eq_getElem (by omega)))
  have hkk : (n : Int) + 1 - (i : Int) = ((n + 1 - i : Nat) : Int) := by omega
  have hik : i + (n + 1 - i) = n + 1 := by omega
  have hold : (Builtin.firstCells i0.size i (.slice (some ⟨b, 0, none⟩) i c)).run Tryz.prog w.drew = .ok (cs.take (i * 5)).toArray w.drew := by
    rw [hzs]
    exact run_firstCells_some w.drew 5 i ⟨b, 0, none⟩ i c (cs.take (i * 5)) (by rw [List.length_take]; omega) (fun j v hj => by
      rw [Addr.add_lit]
      rw [List.getElem?_take] at hj
      split at hj
      · rw [Nat.zero_add]; exact hcs j v hj
      · cases hj)
  have hrz : ∀ ty, (Builtin.append_ #[32, 3] ty #[.slice (some ⟨b, 0, none⟩) i c, .int .i64 ((n : Int) + 1 - (i : Int))]).run Tryz.prog w =
      .ok (.slice (some ⟨w.heap.size, 0, none⟩) (n + 1) (grownCap w (n + 1) c 37)) (w.drew.alloc (.cells ((cs.take (i * 5)).toArray ++ Builtin.zeroCells zcpyV.cells (n + 1 - i) ++ Builtin.zeroCells zcpyV.cells (grownCap w (n + 1) c 37 - (n + 1))) 37)) := fun ty => by
    have h := Lib.run_append_grow_zeros w 32 3 ty 37 i0 _ .i64 .i64 et_cpyI.ht htI hi0 hz0 (some ⟨b, 0, none⟩) i c (cs.take (i * 5)) hold (n + 1 - i) (by omega) (by omega) (by omega) (by omega) (by rw [hzb]; omega) (by rw [hzb, hik]; exact growslice_fits hroom hbig)
    rw [hik] at h
    rw [hkk]
    exact h
  obtain ⟨G, hG⟩ : ∃ G, G = grownCap w (n + 1) c 37 := ⟨_, rfl⟩
  obtain ⟨ROW, hROW⟩ : ∃ ROW : Array Value, ROW = (cs.take (i * 5)).toArray ++ Builtin.zeroCells zcpyV.cells (n + 1 - i) ++ Builtin.zeroCells zcpyV.cells (G - (n + 1)) := ⟨_, rfl⟩
  rw [← hG] at hrz ⊢
  rw [← hROW] at hrz ⊢
  have hRl : (n + 1) * 5 ≤ ROW.size := by
    rw [hROW]
    simp only [Array.size_append, zeros7, List.size_toArray, List.length_take]
    omega
  obtain ⟨W1, hW1⟩ : ∃ W1, W1 = w.drew.alloc (.cells ROW 37) := ⟨_, rfl⟩
  rw [← hW1] at hrz
  have hN : ∀ j, j < (n + 1) * 5 → (W1.cell? ⟨w.heap.size, j, none⟩).isSome = true := fun j hj => by
    rw [hW1, World.cell?_alloc_at (w := w.drew) ROW _ w.heap.size j rfl, Array.getElem?_eq_getElem (by omega)]; rfl
  have hNf : ∀ j, W1.frozen? ⟨w.heap.size, j, none⟩ = false := fun j => by rw [hW1]; exact World.frozen?_alloc_at (w := w.drew) ROW _ w.heap.size j rfl
  have hOb : ∀ j v, w.cell? ⟨b, j, none⟩ = some v → W1.cell? ⟨b, j, none⟩ = some v := fun j v h => by rw [hW1, World.cell?_alloc_past (w := w.drew) _ b j hbw]; exact h
  have hOv : ∀ j v, w.cell? ⟨vb, j, none⟩ = some v → W1.cell? ⟨vb, j, none⟩ = some v := fun j v h => by rw [hW1, World.cell?_alloc_past (w := w.drew) _ vb j hvw]; exact h
  have hcpA : ∀ (W : World), (∀ x, W.cell? x = W1.cell? x) → (∀ x, W.frozen? x = W1.frozen? x) → ∀ ty dc, (Builtin.copy_ #[32, 32] ty #[.slice (some ⟨w.heap.size, i * 5, none⟩) (n + 1 - i) dc, .slice (some ⟨vb, 0, none⟩) 1 vc]).run Tryz.prog W = .ok (goInt (Nat.min 1 (n + 1 - i))) (W.setCells w.heap.size (i * 5) vs) := fun W hWc hWf ty dc =>
    run_copy_sz W _ _ ty 37 5 w.heap.size (i * 5) (n + 1 - i) dc ⟨vb, 0, none⟩ 1 vc vs et_cpyI.ht hsz (by rw [hvl]; simp only [Nat.min_def]; split <;> omega)
      (fun j v hj => by rw [Addr.add_lit, hWc, Nat.zero_add]; exact hOv _ v (hvs j v hj))
      (fun j hj => by rw [hWc]; exact hN _ (by omega)) (fun j hj => by rw [hWf]; exact hNf _) h1v
  have hGn : n + 1 ≤ G := by rw [hG]; exact grownCap_ge w _ _ _
  have hG63 : G ≤ 9223372036854775807 := by
    have := grownCap_le_maxLen w (n + 1) c 37 (by unfold maxLen; omega)
    rw [← hG] at this
    unfold maxLen at this
    omega
  have hGi : ¬ (G = i) := by omega
  have hGim : ¬ (G = i + 1) := by omega
  have hci : ¬ (c = i) := by omega
  have hbN : b ≠ w.heap.size := by omega
  have hdl : (cs.drop (i * 5)).length = (n - i) * 5 := by rw [List.length_drop, hcl]; omega
  have hcpB : ∀ (W : World), (∀ x, W.cell? x = (W1.setCells w.heap.size (i * 5) vs).cell? x) → (∀ x, W.frozen? x = (W1.setCells w.heap.size (i * 5) vs).frozen? x) → ∀ ty dc sc, (Builtin.copy_ #[32, 32] ty #[.slice (some ⟨w.heap.size, (i + 1) * 5, none⟩) (n - i) dc, .slice (some ⟨b, i * 5, none⟩) (n - i) sc]).run Tryz.prog W = .ok (goInt (Nat.min (n - i) (n - i))) (W.setCells w.heap.size ((i + 1) * 5) (cs.drop (i * 5))) := fun W hWc hWf ty dc sc =>
    run_copy_sz W _ _ ty 37 5 w.heap.size ((i + 1) * 5) (n - i) dc ⟨b, i * 5, none⟩ (n - i) sc (cs.drop (i * 5)) et_cpyI.ht hsz (by rw [hdl]; simp only [Nat.min_def]; split <;> omega)
      (fun j v hj => by
        rw [Addr.add_lit, hWc, World.cell?_setCells_out _ _ _ _ _ (fun h _ => absurd h hbN)]
        exact hOb _ v (hcs (i * 5 + j) v (by rwa [List.getElem?_drop] at hj)))
      (fun j hj => by rw [hWc]; exact isSome_setCells w.heap.size vs (i * 5) W1 (fun t ht => hN _ (by omega)) _ (hN _ (by omega)))
      (fun j hj => by rw [hWf, World.frozen?_setCells]; exact hNf _) (fun v hv => h1c v (List.mem_of_mem_drop hv))
  subst hW1
  have hE1 : ∀ x, ((w.alloc (.cells ROW 37)).drew).cell? x = (w.drew.alloc (.cells ROW 37)).cell? x := fun x => rfl
  have hE2 : ∀ x, ((w.alloc (.cells ROW 37)).drew).frozen? x = (w.drew.alloc (.cells ROW 37)).frozen? x := fun x => rfl
  have hF1 : ∀ x, (((w.alloc (.cells ROW 37)).drew.setCells w.heap.size (i * 5) vs).drew).cell? x = ((w.drew.alloc (.cells ROW 37)).setCells w.heap.size (i * 5) vs).cell? x := fun x => rfl
  have hF2 : ∀ x, (((w.alloc (.cells ROW 37)).drew.setCells w.heap.size (i * 5) vs).drew).frozen? x = ((w.drew.alloc (.cells ROW 37)).setCells w.heap.size (i * 5) vs).frozen? x := fun x => rfl
  have hw1 : IntKind.i64.wrap ((i : Int) + 1) = (i : Int) + 1 := by rw [IntKind.wrap_i64]; omega
  have hb1 : (0 : Int) ≤ (i : Int) + 1 := by omega
  have hin : i ≤ n := by omega
  have htn : ((i : Int) + 1).toNat = i + 1 := by omega
  have hb3 : (i : Int) ≤ (n : Int) := by omega
  clear hkk hik hold hROW hG hRl
  go_enter Tryz.func89, Tryz.ntmps89
  go_wp2_with (first
    | (at_builtin; refine Lib.wpList_append_run _ rfl _ _ _ _ rfl _ _ rfl rfl _ _ (hrz _) ?_)
    | (at_builtin; refine wpList_copy_runI _ rfl _ _ 32 32 rfl _ _ rfl rfl (hcpA _ hE1 hE2 _ _) ?_)
    | (at_builtin; refine wpList_copy_runI _ rfl _ _ 32 32 rfl _ _ rfl rfl (hcpB _ (fun _ => rfl) (fun _ => rfl) _ _ _) ?_))
  go_region_law (refine step_copy_runI rfl _ _ 32 32 rfl (.slice (some ⟨w.heap.size, (i + 1) * 5, none⟩) (n - i) (G - (i + 1))) (.slice (some ⟨b, i * 5, none⟩) (n - i) (c - i)) (by simp [Act.eval, Act.put]) (by simp [Act.eval, Act.put]) (hcpB _ hF1 hF2 3 (G - (i + 1)) (c - i)) ?_)
  go_wp2
  go_ret
  exact ⟨rfl, rfl⟩

theorem own_allocC {w : World} {B n cap : Nat} {ys : List Value} {A : Array Value} (hB : B ≤ w.heap.size) (hn : ys.length = n * 5) (hc : n ≤ cap) (hm : cap ≤ maxLen) (hA : A.size = cap * 5) (hy : A.toList.take (n * 5) = ys) {w' : World} (hw : w'.heap[w.heap.size]? = some (.cells A 37 (0, 0))) :
    w'.ownsRow B 37 5 (.slice (some ⟨w.heap.size, 0, none⟩) n cap) n ys :=
  ⟨hn, .inr ⟨w.heap.size, cap, A, rfl, hB, hw, hc, hm, hA, hy⟩⟩
set_option maxHeartbeats 1000000 in
theorem insC_calls {B : Nat} {w : World} {v : Value} {n i vb vcap : Nat} {xs y : List Value} {ecur : Array Value} {ety : TypeId} (hown : w.ownsRow B 37 5 v n xs) (hxs : ∀ u ∈ xs, u.oneCell' = true) (hi : i ≤ n) (hB : B ≤ w.heap.size) (hb : (n + 1) * 56 ≤ 140737488355328)
    (hvb : w.heap[vb]? = some (.cells ecur ety (0, 0))) (hvc : 1 ≤ vcap ∧ vcap ≤ 9223372036854775807) (hyl : y.length = 5) (hye : ecur.toList.take 5 = y) (hy1 : ∀ u ∈ y, u.oneCell' = true) (hne : blk v ≠ some vb) :
    Calls Tryz.prog 89 #[v, .int .i64 i, .slice (some ⟨vb, 0, none⟩) 1 vcap] w fun e w' => ∃ v', e = .returned v' ∧ InsEndG 37 5 B w v (n + 1) (xs.take (i * 5) ++ y ++ xs.drop (i * 5)) v' w' := by
  have hxl : xs.length = n * 5 := hown.1
  have hG : n + 1 ≤ maxLen := by unfold maxLen; omega
  have hvs : ∀ j u, y[j]? = some u → w.cell? ⟨vb, j, none⟩ = some u := fun j u hj => by
    rw [cell_of_row w vb j ecur ety (0, 0) hvb, ← Array.getElem?_toList]
    rw [← hye, List.getElem?_take] at hj
    split at hj
    · exact hj
    · cases hj
  have hsl : Sl w 5 (.slice (some ⟨vb, 0, none⟩) 1 vcap) 1 y := ⟨by rw [hyl], .inr ⟨⟨vb, 0, none⟩, vcap, rfl, hvc.1, hvc.2, fun q hq => by
    rw [addr_add, Nat.zero_add]
    exact hvs q _ (List.getElem?_eq_getElem hq)⟩⟩
  by_cases hend : i = n
  · subst hend
    rw [List.take_of_length_le (by omega), List.drop_eq_nil_of_le (by omega), List.append_nil]
    exact insC_end hown hB hb hsl hy1
  have hlt : i < n := by omega
  rcases hown.2 with ⟨rfl, h0⟩ | ⟨g, cap, cur, rfl, hg, hh, hn, hmx, hcs, htk⟩
  · omega
  have hlen : (xs.take (i * 5) ++ y ++ xs.drop (i * 5)).length = (n + 1) * 5 := by simp; omega
  have hcl : cur.toList.length = cap * 5 := by rw [Array.length_toList, hcs]
  have hget : ∀ k, k < n * 5 → cur.toList[k]? = xs[k]? := fun k hk => by rw [← htk, List.getElem?_take, if_pos hk]
  have hcell : ∀ k, w.cell? ⟨g, k, none⟩ = cur[k]? := fun k => by rw [cell_of_row w g k cur 37 (0, 0) hh]
  have hcells : ∀ j u, xs[j]? = some u → w.cell? ⟨g, j, none⟩ = some u := fun j u hj => by
    have hjl := (List.getElem?_eq_some_iff.1 hj).1
    rw [hcell, ← hj, ← hget j (by omega), Array.getElem?_toList]
  have hsome : ∀ j, j < cap * 5 → (w.cell? ⟨g, j, none⟩).isSome = true := fun j hj => by
    rw [hcell, Array.getElem?_eq_getElem (by omega)]; rfl
  have hfz : ∀ k, w.frozen? ⟨g, k, none⟩ = false := fun k => by unfold World.frozen?; rw [hh]; simp
  have hfv : ∀ k, w.frozen? ⟨vb, k, none⟩ = false := fun k => by unfold World.frozen?; rw [hvb]; simp
  have hmx' : cap ≤ 9223372036854775807 := by unfold maxLen at hmx; omega
  by_cases hroom : n + 1 ≤ cap
  · refine (insC_shift g n cap i vb vcap xs y w hlt hroom hmx' (fun h => hne (by rw [h]; rfl)) hxl hyl hcells (fun j hj => hsome _ (by omega)) hfz hvs hxs hy1 ety 37 ecur.size cur.size (by unfold World.shape?; rw [hvb]) (by unfold World.shape?; rw [hh]) (by omega) (hfv _) (hfv _)).mono ?_
    rintro e w' ⟨rfl, rfl⟩
    have hs1 := setCells_heap (g := g) (e := 37) (xs.drop (i * 5)) ((i + 1) * 5) w.drew cur.toList (by rw [Array.toArray_toList]; exact hh) (by simp; omega)
    have hs := setCells_heap (g := g) (e := 37) y (i * 5) _ _ hs1 (by simp; omega)
    refine ⟨_, rfl, ⟨hlen, .inr ⟨g, cap, _, rfl, hg, hs, hroom, hmx, ?_, ?_⟩⟩, ((drew_turn w _).trans (setCells_turn g _ _ _)).trans (setCells_turn g _ _ _), fun g' hg' => .inl hg'⟩
    · simp; omega
    · rw [show (n + 1) * 5 = n * 5 + 5 by omega]
      refine ins_takeS hxl (by omega) hyl (fun k hk => ?_) (fun k hk => ?_) (fun k h1 h2 => ?_)
      · rw [get3]
        simp only [List.length_take, List.length_append, List.length_drop, hcl, hxl]
        rw [if_pos (by omega), List.getElem?_take, if_pos hk, get3]
        simp only [List.length_take, hcl]
        rw [if_pos (by omega), List.getElem?_take, if_pos (by omega), hget k (by omega)]
      · rw [get3]
        simp only [List.length_take, List.length_append, List.length_drop, hcl, hxl]
        rw [if_neg (by omega), if_pos (by omega)]
        congr 1
        omega
      · rw [get3]
        simp only [List.length_take, List.length_append, List.length_drop, hcl, hxl, hyl]
        rw [if_neg (by omega), if_neg (by omega), List.getElem?_drop, get3]
        simp only [List.length_take, List.length_drop, hcl, hxl]
        rw [if_neg (by omega), if_pos (by omega), List.getElem?_drop]
        congr 1
        omega
  · refine (insC_grow g n cap i vb vcap xs y w hlt hn (by omega) hb hxl hyl hcells hvs hxs hy1).mono ?_
    rintro e w' ⟨rfl, rfl⟩
    have hge := grownCap_ge w (n + 1) cap 37
    have hle := grownCap_le_maxLen w (n + 1) cap 37 hG
    generalize grownCap w (n + 1) cap 37 = G at hge hle
    have h0 := alloc_at w (.cells ((xs.take (i * 5)).toArray ++ Builtin.zeroCells zcpyV.cells (n + 1 - i) ++ Builtin.zeroCells zcpyV.cells (G - (n + 1))) 37 (0, 0))
    generalize hA : (xs.take (i * 5)).toArray ++ Builtin.zeroCells zcpyV.cells (n + 1 - i) ++ Builtin.zeroCells zcpyV.cells (G - (n + 1)) = A at h0
    have hAs : A.size = G * 5 := by rw [← hA]; simp only [Array.size_append, zeros7, List.size_toArray, List.length_take]; omega
    have hAg : ∀ k, k < i * 5 → A.toList[k]? = xs[k]? := fun k hk => by
      rw [← hA]
      simp only [Array.toList_append]
      rw [List.append_assoc, List.getElem?_append_left (by simp; omega)]
      simp only [List.getElem?_take]
      rw [if_pos hk]
    have hs1 := setCells_heap (g := w.heap.size) (e := 37) y (i * 5) (w.alloc (.cells A 37 (0, 0))).drew A.toList (by rw [Array.toArray_toList]; exact h0) (by simp; omega)
    have hs := setCells_heap (g := w.heap.size) (e := 37) (xs.drop (i * 5)) ((i + 1) * 5) (((w.alloc (.cells A 37 (0, 0))).drew.setCells w.heap.size (i * 5) y).drew) (A.toList.take (i * 5) ++ y ++ A.toList.drop (i * 5 + y.length)) hs1 (by simp; omega)
    refine ⟨_, rfl, own_allocC hB hlen hge hle ?_ ?_ hs, ?_, fun g' hg' => .inr ?_⟩
    · simp; omega
    · rw [show (n + 1) * 5 = n * 5 + 5 by omega]
      refine ins_takeS hxl (by omega) hyl (fun k hk => ?_) (fun k hk => ?_) (fun k h1 h2 => ?_)
      · rw [get3]
        simp only [List.length_take, List.length_append, List.length_drop, Array.length_toList, hAs, hxl, hyl]
        rw [if_pos (by omega), List.getElem?_take, if_pos (by omega), get3]
        simp only [List.length_take, Array.length_toList, hAs]
        rw [if_pos (by omega), List.getElem?_take, if_pos hk, hAg k hk]
      · rw [get3]
        simp only [List.length_take, List.length_append, List.length_drop, Array.length_toList, hAs, hxl, hyl]
        rw [if_pos (by omega), List.getElem?_take, if_pos (by omega), get3]
        simp only [List.length_take, Array.length_toList, hAs]
        rw [if_neg (by omega), if_pos (by omega)]
        congr 1
        omega
      · rw [get3]
        simp only [List.length_take, List.length_append, List.length_drop, Array.length_toList, hAs, hxl, hyl]
        rw [if_neg (by omega), if_pos (by omega), List.getElem?_drop]
        congr 1
        omega
    · have k1 := Turn.behind (alloc_turn w (.cells A 37 (0, 0)) (some g)) (Nat.le_refl _) ((drew_turn _ _).trans (setCells_turn w.heap.size y (i * 5) _))
      exact Turn.behind k1 (Nat.le_refl _) ((drew_turn _ _).trans (setCells_turn w.heap.size (xs.drop (i * 5)) ((i + 1) * 5) _))
    · simp [blk] at hg'; omega
theorem insT : InsT Tryz.prog 89 37 5 56 := ⟨Enters.of Tryz.func89 rfl rfl, fun h1 h2 h3 h4 h5 h6 h7 h8 h9 h10 h11 => insC_calls h1 h2 h3 h4 h5 h6 h7 h8 h9 h10 h11⟩
end InsU
end Go.Proofs.YtekenfknoakboaaGreatDoor


namespace Go.Proofs.YtekenfknoakboaaGreatDoor
open Go.RowKit
set_option linter.unusedVariables false

/-! Types. -/
namespace TyM11
theorem ag_127 : AggT Tryz.prog 127 5 := .of (by kernel_rfl)
theorem et_22 : ElemTy Tryz.prog 22 127 5 64 (.agg #[(.string ⟨#[]⟩), (.int .i64 0), (.int .i64 0), (.int .i64 0), (.slice none 0 0)]) := ⟨by kernel_rfl, by kernel_rfl, by kernel_rfl, by decide⟩
theorem fo_127_0 : fieldOff Tryz.prog 127 0 = some 0 := by kernel_rfl
theorem sc_9 : Scal Tryz.prog 9 := .of (by kernel_rfl)
theorem sz_127 : ∀ w, (sizeOf 127).run Tryz.prog w = .ok 5 w := SizeT.of (by kernel_rfl)
theorem zt_127 : (Tryz.prog.info? 127).bind (·.zero) = some (.agg #[(.string ⟨#[]⟩), (.int .i64 0), (.int .i64 0), (.int .i64 0), (.slice none 0 0)]) := by kernel_rfl
end TyM11
open TyM11


theorem drop_ds {l : List Rpt} (m : Nat) : (l.map Rpt.ds).drop m = (l.drop m).map Rpt.ds := (List.map_drop).symm


set_option maxRecDepth 100000 in
set_option maxHeartbeats 4000000 in
theorem c_rVal (l : List Rpt) (hll : l.length ≤ 300) : ACall Tryz.prog 83 [.sl (l.map Rpt.ds)] (.sl ((outV l l.length).map Rpt.ds)) := by
  refine acall_of (n := 47) (ds' := [.sl ((outV l l.length).map Rpt.ds)]) Tryz.func83 rfl (by kernel_rfl) rfl [2] rfl rfl ?_
  intro B w0 F0 fr
  refine AWP.seq (AWP.region ?_)
  refine AOps.aD rfl rfl rfl rfl rfl (.nil ?_)
  refine AWP.seq (AWP.region ?_)
  refine AOps.aD rfl rfl rfl rfl rfl (.nil ?_)
  refine AWP.seq ?_
  refine AWP.seq (AWP.region ?_)
  refine AOps.mD rfl rfl rfl rfl rfl ?_
  refine AOps.step rfl rfl rfl (AOp.lenSl rfl et_22.ht rfl) ?_
  refine AOps.mD rfl rfl rfl rfl rfl (.nil ?_)
  refine AWP.block ?_
  refine AWP.adopt 3 61 127 5 rfl rfl ?_
  refine AWP.loop (G := Nat) (fun k => Env.of [(11, .d (.v (.int .i64 (k : Int)))), (9, .d (.sl (l.map Rpt.ds))), (10, .d (.v (.int .i64 ((l.map Rpt.ds).length : Int)))), (0, .d (.sl (l.map Rpt.ds))), (3, .own 61)]) (fun k => [(61, .row 127 5 ((outV l k).map Rpt.ds))]) (fun k => k ≤ l.length) (fun k => l.length - k) 0 (Nat.zero_le _) (Sub.less ⟨(SLe.of_eq rfl), SLe.refl _, SLe.refl _, SLe.refl _, SLe.refl _, trivial⟩ (row_sameM rfl)) ?_
  intro k hk
  refine AWP.seq (AWP.region ?_)
  refine AOps.step rfl rfl rfl (AOp.lss rfl rfl rfl) (.nil ?_)
  refine AWP.seq ?_
  refine AWP.cond rfl (fun h1 => ?_) (fun h1 => ?_)
  · replace h1 := of_decide_eq_true h1
    rw [List.length_map] at h1
    have hlt : k < l.length := by omega
    have hol := outV_len l k
    refine AWP.skip ?_
    refine AWP.seq ?_
    refine AWP.block ?_
    refine AWP.seq (AWP.region ?_)
    refine AOps.mD rfl rfl rfl rfl rfl ?_
    refine AOps.step rfl rfl rfl (AOp.indexAddr rfl et_22 rfl rfl k rfl (at_lst hlt) rfl) ?_
    refine AOps.step rfl rfl rfl (AOp.loadAgg rfl ag_127 rfl rfl) ?_
    refine AOps.alloc 101 rfl rfl rfl rfl zt_127 rfl rfl rfl ?_
    refine AOps.aD rfl rfl rfl rfl rfl ?_
    refine AOps.store rfl rfl rfl sz_127 rfl (.head _) rfl rfl rfl (Nat.le_of_ble_eq_true rfl) ?_
    refine AOps.freezeCells 5 (ds := l[k].ds) rfl (.head _) (.nil ?_)
    refine AWP.seq (AWP.region ?_)
    refine AOps.aD rfl rfl rfl rfl rfl (.nil ?_)
    refine AWP.seq ?_
    refine AWP.seq (AWP.region ?_)
    refine AOps.mD rfl rfl rfl rfl rfl ?_
    refine AOps.mD rfl rfl rfl rfl rfl ?_
    refine AOps.step rfl rfl rfl (AOp.add64 rfl rfl rfl (by omega) (by omega)) ?_
    refine AOps.step rfl rfl rfl (AOp.sliceL rfl et_22 rfl rfl (by omega) (by rw [List.length_map]; omega) (fun y hy => by obtain ⟨r, _, rfl⟩ := List.mem_map.1 hy; rfl)) ?_
    rw [show ((k : Int) + 1).toNat = k + 1 by omega, drop_ds]
    refine AOps.step rfl rfl rfl (AOp.lenSl rfl et_22.ht rfl) ?_
    refine AOps.mD rfl rfl rfl rfl rfl (.nil ?_)
    refine AWP.block ?_
    refine AWP.loop (G := Nat) (fun j => Env.of [(21, .d (.v (.int .i64 (j : Int)))), (19, .d (.sl ((l.drop (k + 1)).map Rpt.ds))), (20, .d (.v (.int .i64 (((l.drop (k + 1)).map Rpt.ds).length : Int)))), (6, .d (.v (.bool (okI l k j)))), (5, .d (.fp l[k].ds)), (11, .d (.v (.int .i64 (k : Int)))), (9, .d (.sl (l.map Rpt.ds))), (10, .d (.v (.int .i64 ((l.map Rpt.ds).length : Int)))), (0, .d (.sl (l.map Rpt.ds))), (3, .own 61)]) (fun j => [(61, .row 127 5 ((outV l k).map Rpt.ds))]) (fun j => j ≤ l.length - (k + 1)) (fun j => l.length - (k + 1) - j) 0 (Nat.zero_le _) (Sub.less ⟨(SLe.of_eq rfl), SLe.refl _, SLe.refl _, (SLe.of_eq rfl), SLe.refl _, SLe.refl _, SLe.refl _, SLe.refl _, SLe.refl _, SLe.refl _, trivial⟩ (row_sameM rfl)) ?_
    intro j hj
    refine AWP.seq (AWP.region ?_)
    refine AOps.step rfl rfl rfl (AOp.lss rfl rfl rfl) (.nil ?_)
    refine AWP.seq ?_
    refine AWP.cond rfl (fun h2 => ?_) (fun h2 => ?_)
    · replace h2 := of_decide_eq_true h2
      rw [List.length_map, List.length_drop] at h2
      have hjl : k + 1 + j < l.length := by omega
      have hsg := sg_at (l := l) hlt hjl
      have hnx := okI_next l k j
      rw [hsg] at hnx
      refine AWP.skip ?_
      refine AWP.seq ?_
      refine AWP.block ?_
      refine AWP.seq (AWP.region ?_)
      refine AOps.step rfl rfl rfl (AOp.indexAddr rfl et_22 rfl rfl j rfl (at_drop hjl) rfl) ?_
      refine AOps.step rfl rfl rfl (AOp.loadAgg rfl ag_127 rfl rfl) ?_
      refine AOps.alloc 102 rfl rfl rfl rfl zt_127 rfl rfl rfl ?_
      refine AOps.store rfl rfl rfl sz_127 rfl (.head _) rfl rfl rfl (Nat.le_of_ble_eq_true rfl) ?_
      refine AOps.freezeCells 8 (ds := l[k + 1 + j].ds) rfl (.head _) (.nil ?_)
      refine AWP.seq ?_
      refine AWP.draw (by kernel_rfl) (by kernel_rfl) ?_
      refine DRun.step rfl rfl rfl (AOp.fieldAddr rfl fo_127_0 rfl) ?_
      refine DRun.step rfl rfl rfl (AOp.load rfl sc_9 rfl) ?_
      refine DRun.step rfl rfl rfl (AOp.fieldAddr rfl fo_127_0 rfl) ?_
      refine DRun.step rfl rfl rfl (AOp.load rfl sc_9 rfl) ?_
      refine DRun.step rfl rfl rfl (AOp.seql rfl rfl rfl) ?_
      refine DRun.step rfl rfl rfl (AOp.moveD rfl rfl) ?_
      refine DRun.split 30 rfl (fun g3 => ?_) (fun g3 => ?_)
      · replace g3 := of_decide_eq_true g3
        have e1 := g3
        refine DRun.step ⟨30, rfl, .inl ⟨_, rfl, rfl⟩⟩ rfl rfl (AOp.moveD rfl rfl) ?_
        refine DRun.step ⟨30, rfl, .inl ⟨_, rfl, rfl⟩⟩ rfl rfl (AOp.loadAgg rfl ag_127 rfl rfl) ?_
        refine DRun.step ⟨30, rfl, .inl ⟨_, rfl, rfl⟩⟩ rfl rfl (AOp.call rfl (.cons (ArgOk.rfl' rfl) (.cons (ArgOk.rfl' rfl) .nil)) (c_root l _ hll)) ?_
        refine DRun.step ⟨30, rfl, .inl ⟨_, rfl, rfl⟩⟩ rfl rfl (AOp.moveD rfl rfl) ?_
        refine DRun.step ⟨30, rfl, .inl ⟨_, rfl, rfl⟩⟩ rfl rfl (AOp.loadAgg rfl ag_127 rfl rfl) ?_
        refine DRun.step ⟨30, rfl, .inl ⟨_, rfl, rfl⟩⟩ rfl rfl (AOp.call rfl (.cons (ArgOk.rfl' rfl) (.cons (ArgOk.rfl' rfl) .nil)) (c_root l _ hll)) ?_
        refine DRun.step ⟨30, rfl, .inl ⟨_, rfl, rfl⟩⟩ rfl rfl (AOp.eql rfl rfl rfl) ?_
        refine DRun.step rfl rfl rfl (AOp.pickT rfl rfl rfl) ?_
        refine DRun.nil ?_
        refine AWP.cond rfl (fun h4 => ?_) (fun h4 => ?_)
        · replace h4 := of_decide_eq_true h4
          have HU : okI l k (j + 1) = false := by rw [hnx, decide_eq_true e1, decide_eq_true h4]; simp
          refine AWP.region ?_
          refine AOps.aD rfl rfl rfl rfl rfl (.nil ?_)
          refine AWP.region ?_
          refine AOps.step rfl rfl rfl (AOp.add64 rfl rfl rfl (by omega) (by omega)) ?_
          refine AOps.mD rfl rfl rfl rfl rfl (.nil ?_)
          refine ⟨j + 1, (by dsimp only; omega), (by dsimp only; omega), Sub.less ⟨(SLe.of_eq rfl), SLe.refl _, SLe.refl _, (SLe.of_eq (by rw [HU]; rfl)), SLe.refl _, SLe.refl _, SLe.refl _, SLe.refl _, SLe.refl _, SLe.refl _, trivial⟩ (row_sameM rfl)⟩
        replace h4 := of_decide_eq_false h4
        have HU : okI l k (j + 1) = okI l k j := by rw [hnx, decide_eq_false h4]; simp
        refine AWP.skip ?_
        refine AWP.region ?_
        refine AOps.step rfl rfl rfl (AOp.add64 rfl rfl rfl (by omega) (by omega)) ?_
        refine AOps.mD rfl rfl rfl rfl rfl (.nil ?_)
        refine ⟨j + 1, (by dsimp only; omega), (by dsimp only; omega), Sub.less ⟨(SLe.of_eq rfl), SLe.refl _, SLe.refl _, (SLe.of_eq (by rw [HU]; rfl)), SLe.refl _, SLe.refl _, SLe.refl _, SLe.refl _, SLe.refl _, SLe.refl _, trivial⟩ (row_sameM rfl)⟩
      replace g3 := of_decide_eq_false g3
      have HU : okI l k (j + 1) = okI l k j := by rw [hnx, decide_eq_false g3]; simp
      refine DRun.pass ⟨30, rfl, .inl ⟨_, rfl, rfl⟩⟩ rfl rfl ?_
      refine DRun.pass ⟨30, rfl, .inl ⟨_, rfl, rfl⟩⟩ rfl rfl ?_
      refine DRun.pass ⟨30, rfl, .inl ⟨_, rfl, rfl⟩⟩ rfl rfl ?_
      refine DRun.pass ⟨30, rfl, .inl ⟨_, rfl, rfl⟩⟩ rfl rfl ?_
      refine DRun.pass ⟨30, rfl, .inl ⟨_, rfl, rfl⟩⟩ rfl rfl ?_
      refine DRun.pass ⟨30, rfl, .inl ⟨_, rfl, rfl⟩⟩ rfl rfl ?_
      refine DRun.pass ⟨30, rfl, .inl ⟨_, rfl, rfl⟩⟩ rfl rfl ?_
      refine DRun.step rfl rfl rfl (AOp.pickF rfl rfl rfl) ?_
      refine DRun.nil ?_
      refine AWP.cond rfl (fun h => nomatch h) (fun _ => ?_)
      refine AWP.skip ?_
      refine AWP.region ?_
      refine AOps.step rfl rfl rfl (AOp.add64 rfl rfl rfl (by omega) (by omega)) ?_
      refine AOps.mD rfl rfl rfl rfl rfl (.nil ?_)
      refine ⟨j + 1, (by dsimp only; omega), (by dsimp only; omega), Sub.less ⟨(SLe.of_eq rfl), SLe.refl _, SLe.refl _, (SLe.of_eq (by rw [HU]; rfl)), SLe.refl _, SLe.refl _, SLe.refl _, SLe.refl _, SLe.refl _, SLe.refl _, trivial⟩ (row_sameM rfl)⟩
    replace h2 := of_decide_eq_false h2
    rw [List.length_map, List.length_drop] at h2
    obtain rfl : j = l.length - (k + 1) := by omega
    refine AWP.exit ?_
    refine AWP.seq (AWP.region ?_)
    refine AOps.mD rfl rfl rfl rfl rfl (.nil ?_)
    refine AWP.cond rfl (fun h5 => ?_) (fun h5 => ?_)
    · skip
      have HN := outV_yes hlt h5
      refine AWP.region ?_
      refine AOps.step rfl rfl rfl (AOp.moveO rfl rfl) ?_
      refine AOps.step rfl rfl rfl (AOp.loadAgg rfl ag_127 rfl rfl) ?_
      refine AOps.step rfl rfl rfl (AOp.buildSlice rfl et_22 (.cons rfl rfl rfl .nil) rfl (by decide)) ?_
      -- append 44
      refine AOps.append rfl rfl rfl rfl et_22 rfl (.head _) rfl (fun y hy => by obtain rfl := List.mem_singleton.1 hy; rfl) (by simp; omega) (by simp; omega) ?_
      refine AOps.step rfl rfl rfl (AOp.assignO rfl rfl) (.nil ?_)
      refine AWP.region ?_
      refine AOps.step rfl rfl rfl (AOp.add64 rfl rfl rfl (by omega) (by omega)) ?_
      refine AOps.mD rfl rfl rfl rfl rfl (.nil ?_)
      refine ⟨k + 1, (by omega), (by dsimp only; omega), Sub.less ⟨(SLe.of_eq rfl), SLe.refl _, SLe.refl _, SLe.refl _, SLe.refl _, trivial⟩ (row_sameM (by rw [HN]; first | done | rfl))⟩
    have HN := outV_no (l := l) (k := k) h5
    refine AWP.skip ?_
    refine AWP.region ?_
    refine AOps.step rfl rfl rfl (AOp.add64 rfl rfl rfl (by omega) (by omega)) ?_
    refine AOps.mD rfl rfl rfl rfl rfl (.nil ?_)
    refine ⟨k + 1, (by omega), (by dsimp only; omega), Sub.less ⟨(SLe.of_eq rfl), SLe.refl _, SLe.refl _, SLe.refl _, SLe.refl _, trivial⟩ (row_sameM (by rw [HN]; first | done | rfl))⟩
  replace h1 := of_decide_eq_false h1
  rw [List.length_map] at h1
  obtain rfl : k = l.length := by omega
  refine AWP.exit ?_
  refine AWP.seq (AWP.region ?_)
  refine AOps.step rfl rfl rfl (AOp.moveO rfl rfl) ?_
  refine AOps.step rfl rfl rfl (AOp.assignO rfl rfl) (.nil ?_)
  refine AWP.ret ?_
  refine ⟨RetD.own rfl (.head _) ?_, trivial⟩
  all_goals (rfl)

end Go.Proofs.YtekenfknoakboaaGreatDoor


namespace Go.Proofs.YtekenfknoakboaaGreatDoor
open Go.RowKit
set_option linter.unusedVariables false

/-! Types. -/
namespace TyO6
theorem ag_80 : AggT Tryz.prog 80 3 := .of (by kernel_rfl)
theorem et_23 : ElemTy Tryz.prog 23 80 3 40 (.agg #[(.string ⟨#[]⟩), (.string ⟨#[]⟩), (.int .i64 0)]) := ⟨by kernel_rfl, by kernel_rfl, by kernel_rfl, by decide⟩
theorem fo_80_0 : fieldOff Tryz.prog 80 0 = some 0 := by kernel_rfl
theorem fo_80_1 : fieldOff Tryz.prog 80 1 = some 1 := by kernel_rfl
theorem fo_80_2 : fieldOff Tryz.prog 80 2 = some 2 := by kernel_rfl
theorem sc_3 : Scal Tryz.prog 3 := .of (by kernel_rfl)
theorem sc_9 : Scal Tryz.prog 9 := .of (by kernel_rfl)
theorem sz_80 : ∀ w, (sizeOf 80).run Tryz.prog w = .ok 3 w := SizeT.of (by kernel_rfl)
theorem zt_80 : (Tryz.prog.info? 80).bind (·.zero) = some (.agg #[(.string ⟨#[]⟩), (.string ⟨#[]⟩), (.int .i64 0)]) := by kernel_rfl
end TyO6
open TyO6


open Go.Sort Go.Lib
/-! ### Insert or add, by the place -/
section
variable {κ : Type} [DecidableEq κ]
theorem addO_ins {lt : κ → κ → Bool} {β : Type} {add : β → β → β} {e : κ × β} : ∀ {O : List (κ × β)} {i : Nat}, i ≤ O.length → (∀ o ∈ O.take i, lt o.1 e.1 = true) → (i = O.length ∨ ∃ h : i < O.length, lt O[i].1 e.1 = false ∧ ¬ O[i].1 = e.1) → addO lt add e O = O.take i ++ [e] ++ O.drop i
  | [], i, hi, _, _ => by
    have : i = 0 := by simpa using hi
    subst this
    rfl
  | p :: l, 0, _, _, hs => by
    rcases hs with hs | ⟨h, h1, h2⟩
    · simp at hs
    · rw [addO, if_neg (by rw [show lt p.1 e.1 = false from h1]; simp), if_neg (show ¬ p.1 = e.1 from h2)]; rfl
  | p :: l, i + 1, hi, ha, hs => by
    have hp : lt p.1 e.1 = true := ha p (by simp)
    rw [addO, if_pos hp, addO_ins (i := i) (by simpa using hi) (fun o ho => ha o (by simp [ho])) (by
      rcases hs with hs | ⟨h, h1, h2⟩
      · exact .inl (by simpa using hs)
      · exact .inr ⟨by simpa using h, by simpa using h1, by simpa using h2⟩)]
    simp
theorem addO_add {lt : κ → κ → Bool} {β : Type} {add : β → β → β} {e : κ × β} : ∀ {O : List (κ × β)} {i : Nat} (h : i < O.length), (∀ o ∈ O.take i, lt o.1 e.1 = true) → lt O[i].1 e.1 = false → O[i].1 = e.1 → addO lt add e O = O.set i (e.1, add O[i].2 e.2)
  | [], i, h, _, _, _ => by simp at h
  | p :: l, 0, _, _, h1, h2 => by
    have h1' : lt p.1 e.1 = false := h1
    have h2' : p.1 = e.1 := h2
    rw [addO, if_neg (by rw [h1']; simp), if_pos h2']; rfl
  | p :: l, i + 1, h, ha, h1, h2 => by
    have hp : lt p.1 e.1 = true := ha p (by simp)
    rw [addO, if_pos hp, addO_add (i := i) (by simpa using h) (fun o ho => ha o (by simp [ho])) (by simpa using h1) (by simpa using h2)]
    rfl
/-- The place at which something is added: what stands there, what comes of it. -/
structure Plc (lt : κ → κ → Bool) (dz : κ × UM → List D) (O : List (κ × UM)) (k : κ) (i : Nat) (O1 : List (κ × UM)) (v : UM) : Prop where
  pos : i < O1.length
  at_ : (O1.map dz)[i]? = some (dz (k, v))
  fin : ∀ u m, O1.set i (k, (v.1 + u, v.2 + m)) = addO lt addU (k, (u, m)) O
  len : O1.length ≤ O.length + 1
  bnd : v = (0, 0) ∨ ∃ p ∈ O, p.2 = v
end
theorem plc_ins {κ : Type} [DecidableEq κ] {lt : κ → κ → Bool} {dz : κ × UM → List D} {O : List (κ × UM)} {k : κ} {i : Nat} (hi : i ≤ O.length) (ha : ∀ o ∈ O.take i, lt o.1 k = true) (hs : i = O.length ∨ ∃ h : i < O.length, lt O[i].1 k = false ∧ ¬ O[i].1 = k) :
    ∃ O1 v, (O.map dz).take i ++ [dz (k, (0, 0))] ++ (O.map dz).drop i = O1.map dz ∧ Plc lt dz O k i O1 v := by
  have hT : (O.take i).length = i := by rw [List.length_take]; omega
  refine ⟨O.take i ++ [(k, (0, 0))] ++ O.drop i, (0, 0), by simp [List.map_take, List.map_drop], ?_⟩
  have hl : (O.take i ++ [(k, ((0, 0) : UM))] ++ O.drop i).length = O.length + 1 := by simp; omega
  refine ⟨by omega, ?_, fun u m => ?_, by omega, .inl rfl⟩
  · rw [List.getElem?_map, List.getElem?_append_left (by simp; omega), List.getElem?_append_right (by omega)]
    simp [hT]
  · rw [addO_ins hi ha hs]
    simp [hT]
theorem plc_add {κ : Type} [DecidableEq κ] {lt : κ → κ → Bool} {dz : κ × UM → List D} {O : List (κ × UM)} {k : κ} {i : Nat} (h : i < O.length) (ha : ∀ o ∈ O.take i, lt o.1 k = true) (h1 : lt O[i].1 k = false) (h2 : O[i].1 = k) :
    ∃ O1 v, O.map dz = O1.map dz ∧ Plc lt dz O k i O1 v := by
  refine ⟨O, O[i].2, rfl, h, ?_, fun u m => ?_, by omega, .inr ⟨O[i], List.getElem_mem h, rfl⟩⟩
  · rw [List.getElem?_map, List.getElem?_eq_getElem h, ← h2]; rfl
  · rw [addO_add h ha h1 h2]; rfl
theorem take_lt {κ : Type} {lt : κ → κ → Bool} {O : List (κ × UM)} {k : κ} {i : Nat} (h : i < O.length) (ha : ∀ o ∈ O.take i, lt o.1 k = true) (h1 : lt O[i].1 k = true) : ∀ o ∈ O.take (i + 1), lt o.1 k = true := fun o ho => by
  rw [List.take_add_one, List.getElem?_eq_getElem h, Option.toList_some, List.mem_append, List.mem_singleton] at ho
  rcases ho with ho | rfl
  · exact ha o ho
  · exact h1
/-! ### How far the reference has come -/
def dzS (p : KS × UM) : List D := (toS p).ds
def dzU (p : KU × UM) : List D := (toU p).ds
def oS (a : List Ali) (l : List Rpt) (x : Rpt) (j : Nat) : List (KS × UM) := foldO ltS addU (knA a l ++ (x.lines.take j).flatMap (knE a x))
def oU (a : List Ali) (l : List Rpt) (x : Rpt) (j : Nat) : List (KU × UM) := foldO ltU addU (opA a l ++ (x.lines.take j).flatMap (opE a x))
theorem foldO_snoc {κ β : Type} [DecidableEq κ] {lt : κ → κ → Bool} {add : β → β → β} (E : List (κ × β)) (e : κ × β) : foldO lt add (E ++ [e]) = addO lt add e (foldO lt add E) := by
  unfold foldO
  rw [List.foldl_append]; rfl
theorem fm_next {γ : Type} {x : Rpt} {j : Nat} (h : j < x.lines.length) (f : Usd → List γ) (L : List γ) : L ++ (x.lines.take (j + 1)).flatMap f = (L ++ (x.lines.take j).flatMap f) ++ f x.lines[j] := by
  rw [List.take_add_one, List.getElem?_eq_getElem h, Option.toList_some, List.flatMap_append, List.flatMap_cons, List.flatMap_nil, List.append_nil, List.append_assoc]
theorem oS_0 (a : List Ali) (l : List Rpt) (x : Rpt) : oS a l x 0 = foldO ltS addU (knA a l) := by simp [oS]
theorem oU_0 (a : List Ali) (l : List Rpt) (x : Rpt) : oU a l x 0 = foldO ltU addU (opA a l) := by simp [oU]
theorem kn_snoc (a : List Ali) {V : List Rpt} {k : Nat} (h : k < V.length) : knA a (V.take (k + 1)) = knA a (V.take k) ++ V[k].lines.flatMap (knE a V[k]) := by
  unfold knA
  rw [List.take_add_one, List.getElem?_eq_getElem h, Option.toList_some, List.flatMap_append, List.flatMap_cons, List.flatMap_nil, List.append_nil]
theorem op_snoc (a : List Ali) {V : List Rpt} {k : Nat} (h : k < V.length) : opA a (V.take (k + 1)) = opA a (V.take k) ++ V[k].lines.flatMap (opE a V[k]) := by
  unfold opA
  rw [List.take_add_one, List.getElem?_eq_getElem h, Option.toList_some, List.flatMap_append, List.flatMap_cons, List.flatMap_nil, List.append_nil]
theorem oS_end (a : List Ali) {V : List Rpt} {k : Nat} (h : k < V.length) : oS a (V.take k) V[k] V[k].lines.length = foldO ltS addU (knA a (V.take (k + 1))) := by
  rw [kn_snoc a h]; unfold oS; rw [List.take_length]
theorem oU_end (a : List Ali) {V : List Rpt} {k : Nat} (h : k < V.length) : oU a (V.take k) V[k] V[k].lines.length = foldO ltU addU (opA a (V.take (k + 1))) := by
  rw [op_snoc a h]; unfold oU; rw [List.take_length]
theorem oS_yes {a : List Ali} {l : List Rpt} {x : Rpt} {j : Nat} (h : j < x.lines.length) (hm : meantA a x.source x.lines[j].title ≠ 0) : oS a l x (j + 1) = addO ltS addU ((meantA a x.source x.lines[j].title, x.period), (x.lines[j].units, x.lines[j].money)) (oS a l x j) := by
  unfold oS
  rw [fm_next h, show knE a x x.lines[j] = [((meantA a x.source x.lines[j].title, x.period), (x.lines[j].units, x.lines[j].money))] from if_pos hm, foldO_snoc]
theorem oS_no {a : List Ali} {l : List Rpt} {x : Rpt} {j : Nat} (h : j < x.lines.length) (hm : meantA a x.source x.lines[j].title = 0) : oS a l x (j + 1) = oS a l x j := by
  unfold oS
  rw [fm_next h, show knE a x x.lines[j] = [] from if_neg (by rw [hm]; simp), List.append_nil]
theorem oU_yes {a : List Ali} {l : List Rpt} {x : Rpt} {j : Nat} (h : j < x.lines.length) (hm : meantA a x.source x.lines[j].title = 0) : oU a l x (j + 1) = addO ltU addU ((x.source, x.lines[j].title, x.period), (x.lines[j].units, x.lines[j].money)) (oU a l x j) := by
  unfold oU
  rw [fm_next h, show opE a x x.lines[j] = [((x.source, x.lines[j].title, x.period), (x.lines[j].units, x.lines[j].money))] from if_neg (by rw [hm]; simp), foldO_snoc]
theorem oU_no {a : List Ali} {l : List Rpt} {x : Rpt} {j : Nat} (h : j < x.lines.length) (hm : meantA a x.source x.lines[j].title ≠ 0) : oU a l x (j + 1) = oU a l x j := by
  unfold oU
  rw [fm_next h, show opE a x x.lines[j] = [] from if_pos hm, List.append_nil]
theorem stB_fold (a : List Ali) (l : List Rpt) (x : Rpt) (j : Nat) : stB a x (stA a l) j = (foldP addU (knA a l ++ (x.lines.take j).flatMap (knE a x)), foldP addU (opA a l ++ (x.lines.take j).flatMap (opE a x))) := by
  unfold stB
  rw [stX_eq, stA_eq]
  unfold foldP
  rw [List.foldl_append, List.foldl_append]
/-- The reference's lists: in order, not long, not great. -/
structure OrdG {κ : Type} (lt : κ → κ → Bool) (O : List (κ × UM)) : Prop where
  ri : RiG lt O
  len : O.length ≤ 30000
  bnd : ∀ p ∈ O, (0 ≤ p.2.1 ∧ p.2.1 ≤ 30000000000000) ∧ 0 ≤ p.2.2 ∧ p.2.2 ≤ 30000000000000
theorem fold_len {κ : Type} [DecidableEq κ] {lt : κ → κ → Bool} (T : Tot lt) (E : List (κ × UM)) : (foldO lt addU E).length = (foldP addU E).length := by
  have nd1 : (foldO lt addU E).Nodup := (foldO_ri (add := addU) T E).imp fun {a b} hab e => by rw [e, T.irr] at hab; cases hab
  have nd2 : (foldP addU E).Nodup := (foldP_nk (add := addU) T E).imp fun {a b} hab e => hab (by rw [e])
  exact ((List.perm_ext_iff_of_nodup nd1 nd2).2 fun p => (fold_mem T E p).symm).length_eq
theorem ord_S {a : List Ali} (ha : Als a) {V : List Rpt} (hV : ∀ x ∈ V, RpO x) {k j : Nat} (hk : k < V.length) (hl : V.length ≤ 300) (hj : j ≤ V[k].lines.length) : OrdG ltS (oS a (V.take k) V[k] j) := by
  have hx := hV _ (List.getElem_mem hk)
  have hI := inv_B ha hx (show 0 ≤ 100 * (k : Int) by omega) (inv_A ha hV k (by omega)) j hj
  have hll := hx.len
  rw [stB_fold] at hI
  refine ⟨foldO_ri tot_S _, ?_, fun p hp => ?_⟩
  · have h1 := hI.l1
    have h2 := fold_len tot_S (knA a (V.take k) ++ (V[k].lines.take j).flatMap (knE a V[k]))
    unfold oS
    dsimp only at h1
    omega
  · have := hI.b1 p ((fold_mem tot_S _ p).2 hp)
    omega
theorem ord_U {a : List Ali} (ha : Als a) {V : List Rpt} (hV : ∀ x ∈ V, RpO x) {k j : Nat} (hk : k < V.length) (hl : V.length ≤ 300) (hj : j ≤ V[k].lines.length) : OrdG ltU (oU a (V.take k) V[k] j) := by
  have hx := hV _ (List.getElem_mem hk)
  have hI := inv_B ha hx (show 0 ≤ 100 * (k : Int) by omega) (inv_A ha hV k (by omega)) j hj
  have hll := hx.len
  rw [stB_fold] at hI
  refine ⟨foldO_ri tot_U _, ?_, fun p hp => ?_⟩
  · have h1 := hI.l2
    have h2 := fold_len tot_U (opA a (V.take k) ++ (V[k].lines.take j).flatMap (opE a V[k]))
    unfold oU
    dsimp only at h1
    omega
  · have := hI.b2 p ((fold_mem tot_U _ p).2 hp)
    omega
theorem plc_bnd {κ : Type} [DecidableEq κ] {lt : κ → κ → Bool} {dz : κ × UM → List D} {O O1 : List (κ × UM)} {k : κ} {i : Nat} {v : UM} (h : Plc lt dz O k i O1 v) (hO : OrdG lt O) : (0 ≤ v.1 ∧ v.1 ≤ 30000000000000) ∧ 0 ≤ v.2 ∧ v.2 ≤ 30000000000000 := by
  rcases h.bnd with rfl | ⟨p, hp, rfl⟩
  · show (0 ≤ (0 : Int) ∧ (0 : Int) ≤ 30000000000000) ∧ 0 ≤ (0 : Int) ∧ (0 : Int) ≤ 30000000000000
    omega
  · exact hO.bnd p hp
theorem set_dzS (O1 : List (KS × UM)) (i : Nat) (k : KS) (v : UM) (u m : Int) : ((O1.map dzS).set i [.v (.int .i64 k.1), .v (.int .i64 k.2), .v (.int .i64 (v.1 + u)), .v (.int .i64 v.2)]).set i [.v (.int .i64 k.1), .v (.int .i64 k.2), .v (.int .i64 (v.1 + u)), .v (.int .i64 (v.2 + m))] = (O1.set i (k, (v.1 + u, v.2 + m))).map dzS := by
  rw [List.set_set, List.map_set]; rfl
theorem set_dzU (O1 : List (KU × UM)) (i : Nat) (k : KU) (v : UM) (u m : Int) : ((O1.map dzU).set i [.v (.string k.1), .v (.string k.2.1), .v (.int .i64 k.2.2), .v (.int .i64 (v.1 + u)), .v (.int .i64 v.2)]).set i [.v (.string k.1), .v (.string k.2.1), .v (.int .i64 k.2.2), .v (.int .i64 (v.1 + u)), .v (.int .i64 (v.2 + m))] = (O1.set i (k, (v.1 + u, v.2 + m))).map dzU := by
  rw [List.set_set, List.map_set]; rfl
theorem ltS_1 {a b : KS} (h : a.1 < b.1) : ltS a b = true := lexL_iff.2 (.inl (by unfold ltI2; exact decide_eq_true h))
theorem ltS_2 {a b : KS} (h : a.1 = b.1) (h2 : a.2 < b.2) : ltS a b = true := lexL_iff.2 (.inr ⟨h, by unfold ltI2; exact decide_eq_true h2⟩)
theorem ltS_0 {a b : KS} (h : ¬ a.1 < b.1) (h2 : ¬ (a.1 = b.1 ∧ a.2 < b.2)) : ltS a b = false := by
  cases h3 : ltS a b with
  | false => rfl
  | true =>
    rcases lexL_iff.1 h3 with h4 | ⟨h4, h5⟩
    · exact absurd (of_decide_eq_true h4) h
    · exact absurd ⟨h4, of_decide_eq_true h5⟩ h2
theorem meant_hit {a : List Ali} {s t : ByteArray} {k : Nat} (hk : k < a.length) (h0 : ∀ x ∈ a.take k, ¬ (x.source = s ∧ x.title = t)) (h1 : a[k].source = s) (h2 : a[k].title = t) : meantA a s t = a[k].recd := by
  have h3 : a.find? (fun x => decide (x.source = s) && decide (x.title = t)) = some a[k] := List.find?_eq_some_iff_getElem.2 ⟨by simp [h1, h2], k, hk, rfl, fun j hj => by
    have := h0 a[j] (List.mem_take_iff_getElem.2 ⟨j, by omega, rfl⟩)
    rw [Bool.not_eq_true', Bool.and_eq_false_iff, decide_eq_false_iff_not, decide_eq_false_iff_not]
    exact Decidable.not_and_iff_not_or_not.1 this⟩
  unfold meantA
  rw [h3]; rfl
theorem meant_next {a : List Ali} {s t : ByteArray} {k : Nat} (hk : k < a.length) (h0 : ∀ x ∈ a.take k, ¬ (x.source = s ∧ x.title = t)) (h1 : ¬ (a[k].source = s ∧ a[k].title = t)) : ∀ x ∈ a.take (k + 1), ¬ (x.source = s ∧ x.title = t) := fun x hx => by
  rw [List.take_add_one, List.getElem?_eq_getElem hk, Option.toList_some, List.mem_append, List.mem_singleton] at hx
  rcases hx with hx | rfl
  · exact h0 x hx
  · exact h1


set_option maxRecDepth 100000 in
set_option maxHeartbeats 1000000 in
theorem c_meant (a : List Ali) (s t : ByteArray) (hal : a.length ≤ 500) : ACall Tryz.prog 84 [.sl (a.map Ali.ds), .v (.string s), .v (.string t)] (.v (.int .i64 (meantA a s t))) := by
  refine acall_of (n := 28) (ds' := [.v (.int .i64 (meantA a s t))]) Tryz.func84 rfl (by kernel_rfl) rfl [6] rfl rfl ?_
  intro B w0 F0 fr
  refine AWP.seq (AWP.region ?_)
  refine AOps.aD rfl rfl rfl rfl rfl (.nil ?_)
  refine AWP.seq ?_
  refine AWP.seq (AWP.region ?_)
  refine AOps.mD rfl rfl rfl rfl rfl ?_
  refine AOps.step rfl rfl rfl (AOp.lenSl rfl et_23.ht rfl) ?_
  refine AOps.mD rfl rfl rfl rfl rfl (.nil ?_)
  refine AWP.block ?_
  refine AWP.loop (G := Nat) (fun k => Env.of [(11, .d (.v (.int .i64 (k : Int)))), (9, .d (.sl (a.map Ali.ds))), (10, .d (.v (.int .i64 ((a.map Ali.ds).length : Int)))), (1, .d (.v (.string s))), (2, .d (.v (.string t)))]) (fun k => []) (fun k => k ≤ a.length ∧ ∀ x ∈ a.take k, ¬ (x.source = s ∧ x.title = t)) (fun k => a.length - k) 0 ⟨Nat.zero_le _, fun x h => by simp at h⟩ (Sub.less ⟨(SLe.of_eq rfl), SLe.refl _, SLe.refl _, SLe.refl _, SLe.refl _, trivial⟩ (fun _ h => h)) ?_
  intro k hk
  refine AWP.seq (AWP.region ?_)
  refine AOps.step rfl rfl rfl (AOp.lss rfl rfl rfl) (.nil ?_)
  refine AWP.seq ?_
  refine AWP.cond rfl (fun h1 => ?_) (fun h1 => ?_)
  · replace h1 := of_decide_eq_true h1
    rw [List.length_map] at h1
    have hlt : k < a.length := by omega
    refine AWP.skip ?_
    refine AWP.seq ?_
    refine AWP.block ?_
    refine AWP.seq (AWP.region ?_)
    refine AOps.step rfl rfl rfl (AOp.indexAddr rfl et_23 rfl rfl k rfl (at_lst hlt) rfl) ?_
    refine AOps.step rfl rfl rfl (AOp.loadAgg rfl ag_80 rfl rfl) ?_
    refine AOps.alloc 101 rfl rfl rfl rfl zt_80 rfl rfl rfl ?_
    refine AOps.store rfl rfl rfl sz_80 rfl (.head _) rfl rfl rfl (Nat.le_of_ble_eq_true rfl) ?_
    refine AOps.freezeCells 8 (ds := a[k].ds) rfl (.head _) (.nil ?_)
    refine AWP.seq (AWP.region ?_)
    refine AOps.step rfl rfl rfl (AOp.fieldAddr rfl fo_80_0 rfl) ?_
    refine AOps.step rfl rfl rfl (AOp.load rfl sc_9 rfl) ?_
    refine AOps.mD rfl rfl rfl rfl rfl ?_
    refine AOps.step rfl rfl rfl (AOp.seql rfl rfl rfl) ?_
    refine AOps.mD rfl rfl rfl rfl rfl ?_
    refine AOps.split 19 rfl (fun g2 => ?_) (fun g2 => ?_)
    · replace g2 := of_decide_eq_true g2
      have h19 := g2
      refine AOps.step ⟨19, rfl, .inl ⟨_, rfl, rfl⟩⟩ rfl rfl (AOp.fieldAddr rfl fo_80_1 rfl) ?_
      refine AOps.step ⟨19, rfl, .inl ⟨_, rfl, rfl⟩⟩ rfl rfl (AOp.load rfl sc_9 rfl) ?_
      refine AOps.step ⟨19, rfl, .inl ⟨_, rfl, rfl⟩⟩ rfl rfl (AOp.moveD rfl rfl) ?_
      refine AOps.step ⟨19, rfl, .inl ⟨_, rfl, rfl⟩⟩ rfl rfl (AOp.seql rfl rfl rfl) ?_
      refine AOps.step rfl rfl rfl (AOp.pickT rfl rfl rfl) (.nil ?_)
      refine AWP.cond rfl (fun h3 => ?_) (fun h3 => ?_)
      · replace h3 := of_decide_eq_true h3
        rw [meant_hit hlt hk.2 h19 h3]
        refine AWP.seq (AWP.region ?_)
        refine AOps.step rfl rfl rfl (AOp.fieldAddr rfl fo_80_2 rfl) ?_
        refine AOps.step rfl rfl rfl (AOp.load rfl sc_3 rfl) ?_
        refine AOps.aD rfl rfl rfl rfl rfl (.nil ?_)
        refine AWP.ret ?_
        refine ⟨RetD.eq rfl ?_, trivial⟩
        all_goals (rfl)
      replace h3 := of_decide_eq_false h3
      have HN := meant_next hlt hk.2 (fun hh => h3 hh.2)
      refine AWP.skip ?_
      refine AWP.region ?_
      refine AOps.step rfl rfl rfl (AOp.add64 rfl rfl rfl (by omega) (by omega)) ?_
      refine AOps.mD rfl rfl rfl rfl rfl (.nil ?_)
      refine ⟨k + 1, ⟨by omega, HN⟩, (by dsimp only; omega), Sub.less ⟨(SLe.of_eq rfl), SLe.refl _, SLe.refl _, SLe.refl _, SLe.refl _, trivial⟩ (fun _ h => h)⟩
    replace g2 := of_decide_eq_false g2
    have HN := meant_next hlt hk.2 (fun hh => g2 hh.1)
    refine AOps.pass ⟨19, rfl, .inl ⟨_, rfl, rfl⟩⟩ rfl rfl ?_
    refine AOps.pass ⟨19, rfl, .inl ⟨_, rfl, rfl⟩⟩ rfl rfl ?_
    refine AOps.pass ⟨19, rfl, .inl ⟨_, rfl, rfl⟩⟩ rfl rfl ?_
    refine AOps.pass ⟨19, rfl, .inl ⟨_, rfl, rfl⟩⟩ rfl rfl ?_
    refine AOps.step rfl rfl rfl (AOp.pickF rfl rfl rfl) (.nil ?_)
    refine AWP.cond rfl (fun h => nomatch h) (fun _ => ?_)
    refine AWP.skip ?_
    refine AWP.region ?_
    refine AOps.step rfl rfl rfl (AOp.add64 rfl rfl rfl (by omega) (by omega)) ?_
    refine AOps.mD rfl rfl rfl rfl rfl (.nil ?_)
    refine ⟨k + 1, ⟨by omega, HN⟩, (by dsimp only; omega), Sub.less ⟨(SLe.of_eq rfl), SLe.refl _, SLe.refl _, SLe.refl _, SLe.refl _, trivial⟩ (fun _ h => h)⟩
  replace h1 := of_decide_eq_false h1
  rw [List.length_map] at h1
  obtain rfl : k = a.length := by omega
  rw [meant_no (a := a) (s := s) (t := t) (fun x hx => hk.2 x (by rw [List.take_length]; exact hx))]
  refine AWP.exit ?_
  refine AWP.seq (AWP.region ?_)
  refine AOps.aD rfl rfl rfl rfl rfl (.nil ?_)
  refine AWP.ret ?_
  refine ⟨RetD.eq rfl ?_, trivial⟩
  all_goals (rfl)

end Go.Proofs.YtekenfknoakboaaGreatDoor


namespace Go.Proofs.YtekenfknoakboaaGreatDoor
open Go.RowKit
set_option linter.unusedVariables false

/-! Types. -/
namespace TyO7
theorem ag_127 : AggT Tryz.prog 127 5 := .of (by kernel_rfl)
theorem ag_134 : AggT Tryz.prog 134 3 := .of (by kernel_rfl)
theorem bu_31 : StructT Tryz.prog 31 (fun i => (#[(0, 1), (1, 1), (2, 1), (3, 1)] : Array (Nat × Nat))[i]?) [(.int .i64 0), (.int .i64 0), (.int .i64 0), (.int .i64 0)] := .of (by kernel_rfl) (by kernel_rfl) (by decide)
theorem et_125 : ElemTy Tryz.prog 125 134 3 32 (.agg #[(.string ⟨#[]⟩), (.int .i64 0), (.int .i64 0)]) := ⟨by kernel_rfl, by kernel_rfl, by kernel_rfl, by decide⟩
theorem et_22 : ElemTy Tryz.prog 22 127 5 64 (.agg #[(.string ⟨#[]⟩), (.int .i64 0), (.int .i64 0), (.int .i64 0), (.slice none 0 0)]) := ⟨by kernel_rfl, by kernel_rfl, by kernel_rfl, by decide⟩
theorem et_24 : ElemTy Tryz.prog 24 31 4 32 (.agg #[(.int .i64 0), (.int .i64 0), (.int .i64 0), (.int .i64 0)]) := ⟨by kernel_rfl, by kernel_rfl, by kernel_rfl, by decide⟩
theorem fo_127_0 : fieldOff Tryz.prog 127 0 = some 0 := by kernel_rfl
theorem fo_127_2 : fieldOff Tryz.prog 127 2 = some 2 := by kernel_rfl
theorem fo_127_4 : fieldOff Tryz.prog 127 4 = some 4 := by kernel_rfl
theorem fo_134_0 : fieldOff Tryz.prog 134 0 = some 0 := by kernel_rfl
theorem fo_134_1 : fieldOff Tryz.prog 134 1 = some 1 := by kernel_rfl
theorem fo_134_2 : fieldOff Tryz.prog 134 2 = some 2 := by kernel_rfl
theorem fo_31_0 : fieldOff Tryz.prog 31 0 = some 0 := by kernel_rfl
theorem fo_31_1 : fieldOff Tryz.prog 31 1 = some 1 := by kernel_rfl
theorem fo_31_2 : fieldOff Tryz.prog 31 2 = some 2 := by kernel_rfl
theorem fo_31_3 : fieldOff Tryz.prog 31 3 = some 3 := by kernel_rfl
theorem sc_125 : Scal Tryz.prog 125 := .of (by kernel_rfl)
theorem sc_3 : Scal Tryz.prog 3 := .of (by kernel_rfl)
theorem sc_9 : Scal Tryz.prog 9 := .of (by kernel_rfl)
theorem sz_127 : ∀ w, (sizeOf 127).run Tryz.prog w = .ok 5 w := SizeT.of (by kernel_rfl)
theorem sz_134 : ∀ w, (sizeOf 134).run Tryz.prog w = .ok 3 w := SizeT.of (by kernel_rfl)
theorem sz_3 : ∀ w, (sizeOf 3).run Tryz.prog w = .ok 1 w := SizeT.of (by kernel_rfl)
theorem zt_127 : (Tryz.prog.info? 127).bind (·.zero) = some (.agg #[(.string ⟨#[]⟩), (.int .i64 0), (.int .i64 0), (.int .i64 0), (.slice none 0 0)]) := by kernel_rfl
theorem zt_134 : (Tryz.prog.info? 134).bind (·.zero) = some (.agg #[(.string ⟨#[]⟩), (.int .i64 0), (.int .i64 0)]) := by kernel_rfl
end TyO7
open TyO7


open Go.Sort Go.Lib
theorem dz_map_S (L : List (KS × UM)) : (L.map toS).map Sal.ds = L.map dzS := List.map_map
theorem dz_map_U (L : List (KU × UM)) : (L.map toU).map Unk.ds = L.map dzU := List.map_map


set_option maxRecDepth 100000 in
set_option maxHeartbeats 8000000 in
theorem c_rSales (l : List Rpt) (a : List Ali) (hl : Log l) (ho : ∀ x ∈ l, okRpt x) (ha : Als a) : ACall Tryz.prog 34 [.sl (l.map Rpt.ds), .sl (a.map Ali.ds)] (.sl ((salesR a (validR l)).map Sal.ds)) := by
  refine acall_of (n := 122) (ds' := [.sl ((salesR a (validR l)).map Sal.ds)]) Tryz.func34 rfl (by kernel_rfl) rfl [4] rfl rfl ?_
  intro B w0 F0 fr
  have hll := hl.len
  have hvl : (validR l).length ≤ l.length := List.length_filter_le _ _
  have hV : ∀ x ∈ (validR l), RpO x := fun x hx => rpO (hl.ok x (List.mem_filter.1 hx).1) (ho x (List.mem_filter.1 hx).1)
  have hal := ha.len
  refine AWP.seq (AWP.region ?_)
  refine AOps.aD rfl rfl rfl rfl rfl (.nil ?_)
  refine AWP.seq (AWP.region ?_)
  refine AOps.aD rfl rfl rfl rfl rfl (.nil ?_)
  refine AWP.seq ?_
  refine AWP.seq (AWP.region ?_)
  refine AOps.mD rfl rfl rfl rfl rfl ?_
  refine AOps.step rfl rfl rfl (AOp.call rfl (.cons (ArgOk.rfl' rfl) .nil) (c_rVal l hll)) ?_
  rw [out_eq hl]
  refine AOps.step rfl rfl rfl (AOp.lenSl rfl et_22.ht rfl) ?_
  refine AOps.mD rfl rfl rfl rfl rfl (.nil ?_)
  refine AWP.block ?_
  refine AWP.adopt 5 61 31 4 rfl rfl ?_
  refine AWP.loop (G := Nat) (fun k => Env.of [(15, .d (.v (.int .i64 (k : Int)))), (13, .d (.sl ((validR l).map Rpt.ds))), (14, .d (.v (.int .i64 (((validR l).map Rpt.ds).length : Int)))), (1, .d (.sl (a.map Ali.ds))), (5, .own 61)]) (fun k => [(61, .row 31 4 ((foldO ltS addU (knA a ((validR l).take k))).map dzS))]) (fun k => k ≤ (validR l).length) (fun k => (validR l).length - k) 0 (Nat.zero_le _) (Sub.less ⟨(SLe.of_eq rfl), SLe.refl _, SLe.refl _, SLe.refl _, SLe.refl _, trivial⟩ (row_sameM rfl)) ?_
  intro k hk
  refine AWP.seq (AWP.region ?_)
  refine AOps.step rfl rfl rfl (AOp.lss rfl rfl rfl) (.nil ?_)
  refine AWP.seq ?_
  refine AWP.cond rfl (fun h1 => ?_) (fun h1 => ?_)
  · replace h1 := of_decide_eq_true h1
    rw [List.length_map] at h1
    have hlt : k < (validR l).length := by omega
    have hx := hV _ (List.getElem_mem hlt)
    have hxl := hx.len
    refine AWP.skip ?_
    refine AWP.seq ?_
    refine AWP.block ?_
    refine AWP.seq (AWP.region ?_)
    refine AOps.step rfl rfl rfl (AOp.indexAddr rfl et_22 rfl rfl k rfl (at_lst hlt) rfl) ?_
    refine AOps.step rfl rfl rfl (AOp.loadAgg rfl ag_127 rfl rfl) ?_
    refine AOps.alloc 101 rfl rfl rfl rfl zt_127 rfl rfl rfl ?_
    refine AOps.store rfl rfl rfl sz_127 rfl (.head _) rfl rfl rfl (Nat.le_of_ble_eq_true rfl) ?_
    refine AOps.freezeCells 7 (ds := (validR l)[k].ds) rfl (.head _) (.nil ?_)
    refine AWP.seq (AWP.region ?_)
    refine AOps.step rfl rfl rfl (AOp.fieldAddr rfl fo_127_4 rfl) ?_
    refine AOps.step rfl rfl rfl (AOp.load rfl sc_125 rfl) ?_
    refine AOps.step rfl rfl rfl (AOp.lenSl rfl et_125.ht rfl) ?_
    refine AOps.mD rfl rfl rfl rfl rfl (.nil ?_)
    refine AWP.block ?_
    refine AWP.loop (G := Nat) (fun j => Env.of [(22, .d (.v (.int .i64 (j : Int)))), (20, .d (.sl ((validR l)[k].lines.map Usd.ds))), (21, .d (.v (.int .i64 (((validR l)[k].lines.map Usd.ds).length : Int)))), (7, .d (.fp (validR l)[k].ds)), (15, .d (.v (.int .i64 (k : Int)))), (13, .d (.sl ((validR l).map Rpt.ds))), (14, .d (.v (.int .i64 (((validR l).map Rpt.ds).length : Int)))), (1, .d (.sl (a.map Ali.ds))), (5, .own 61)]) (fun j => [(61, .row 31 4 ((oS a ((validR l).take k) (validR l)[k] j).map dzS))]) (fun j => j ≤ (validR l)[k].lines.length) (fun j => (validR l)[k].lines.length - j) 0 (Nat.zero_le _) (Sub.less ⟨(SLe.of_eq rfl), SLe.refl _, SLe.refl _, SLe.refl _, SLe.refl _, SLe.refl _, SLe.refl _, SLe.refl _, SLe.refl _, trivial⟩ (row_sameM (by rw [oS_0]))) ?_
    intro j hj
    refine AWP.seq (AWP.region ?_)
    refine AOps.step rfl rfl rfl (AOp.lss rfl rfl rfl) (.nil ?_)
    refine AWP.seq ?_
    refine AWP.cond rfl (fun h2 => ?_) (fun h2 => ?_)
    · replace h2 := of_decide_eq_true h2
      rw [List.length_map] at h2
      have hjl : j < (validR l)[k].lines.length := by omega
      have hu := hx.use _ (List.getElem_mem hjl)
      have hO := ord_S ha hV hlt (by omega) (Nat.le_of_lt hjl)
      have hOl := hO.len
      refine AWP.skip ?_
      refine AWP.seq ?_
      refine AWP.block ?_
      refine AWP.seq (AWP.region ?_)
      refine AOps.step rfl rfl rfl (AOp.indexAddr rfl et_125 rfl rfl j rfl (at_lst hjl) rfl) ?_
      refine AOps.step rfl rfl rfl (AOp.loadAgg rfl ag_134 rfl rfl) ?_
      refine AOps.alloc 102 rfl rfl rfl rfl zt_134 rfl rfl rfl ?_
      refine AOps.store rfl rfl rfl sz_134 rfl (.head _) rfl rfl rfl (Nat.le_of_ble_eq_true rfl) ?_
      refine AOps.freezeCells 9 (ds := (validR l)[k].lines[j].ds) rfl (.head _) (.nil ?_)
      refine AWP.seq (AWP.region ?_)
      refine AOps.mD rfl rfl rfl rfl rfl ?_
      refine AOps.step rfl rfl rfl (AOp.fieldAddr rfl fo_127_0 rfl) ?_
      refine AOps.step rfl rfl rfl (AOp.load rfl sc_9 rfl) ?_
      refine AOps.step rfl rfl rfl (AOp.fieldAddr rfl fo_134_0 rfl) ?_
      refine AOps.step rfl rfl rfl (AOp.load rfl sc_9 rfl) ?_
      refine AOps.step rfl rfl rfl (AOp.call rfl (.cons (ArgOk.rfl' rfl) (.cons (ArgOk.rfl' rfl) (.cons (ArgOk.rfl' rfl) .nil))) (c_meant _ _ _ hal)) ?_
      refine AOps.aD rfl rfl rfl rfl rfl (.nil ?_)
      refine AWP.seq ?_
      refine AWP.seq (AWP.region ?_)
      refine AOps.mD rfl rfl rfl rfl rfl ?_
      refine AOps.step rfl rfl rfl (AOp.eql rfl rfl rfl) (.nil ?_)
      refine AWP.cond rfl (fun h3 => ?_) (fun h3 => ?_)
      · replace h3 := of_decide_eq_true h3
        have HN := oS_no (a := a) (l := (validR l).take k) hjl h3
        refine AWP.exit ?_
        refine AWP.region ?_
        refine AOps.step rfl rfl rfl (AOp.add64 rfl rfl rfl (by omega) (by omega)) ?_
        refine AOps.mD rfl rfl rfl rfl rfl (.nil ?_)
        refine ⟨j + 1, (by dsimp only; omega), (by dsimp only; omega), Sub.less ⟨(SLe.of_eq rfl), SLe.refl _, SLe.refl _, SLe.refl _, SLe.refl _, SLe.refl _, SLe.refl _, SLe.refl _, SLe.refl _, trivial⟩ (row_sameM (by first | (rw [← HF]; exact HS) | (rw [HN])))⟩
      replace h3 := of_decide_eq_false h3
      have HN := oS_yes (a := a) (l := (validR l).take k) hjl h3
      refine AWP.skip ?_
      refine AWP.seq (AWP.region ?_)
      refine AOps.aD rfl rfl rfl rfl rfl (.nil ?_)
      refine AWP.seq ?_
      refine AWP.block ?_
      refine AWP.loop (G := Nat) (fun i => Env.of [(11, .d (.v (.int .i64 (i : Int)))), (10, .d (.v (.int .i64 (meantA a (validR l)[k].source (validR l)[k].lines[j].title)))), (9, .d (.fp (validR l)[k].lines[j].ds)), (22, .d (.v (.int .i64 (j : Int)))), (20, .d (.sl ((validR l)[k].lines.map Usd.ds))), (21, .d (.v (.int .i64 (((validR l)[k].lines.map Usd.ds).length : Int)))), (7, .d (.fp (validR l)[k].ds)), (15, .d (.v (.int .i64 (k : Int)))), (13, .d (.sl ((validR l).map Rpt.ds))), (14, .d (.v (.int .i64 (((validR l).map Rpt.ds).length : Int)))), (1, .d (.sl (a.map Ali.ds))), (5, .own 61)]) (fun i => [(61, .row 31 4 ((oS a ((validR l).take k) (validR l)[k] j).map dzS))]) (fun i => i ≤ (oS a ((validR l).take k) (validR l)[k] j).length ∧ ∀ o ∈ (oS a ((validR l).take k) (validR l)[k] j).take i, ltS o.1 ((meantA a (validR l)[k].source (validR l)[k].lines[j].title), (validR l)[k].period) = true) (fun i => (oS a ((validR l).take k) (validR l)[k] j).length - i) 0 ⟨Nat.zero_le _, fun o h => by simp at h⟩ (Sub.less ⟨(SLe.of_eq rfl), SLe.refl _, SLe.refl _, SLe.refl _, SLe.refl _, SLe.refl _, SLe.refl _, SLe.refl _, SLe.refl _, SLe.refl _, SLe.refl _, SLe.refl _, trivial⟩ (row_sameM rfl)) ?_
      intro i hi
      refine AWP.seq ?_
      refine AWP.seq ?_
      refine AWP.draw (by kernel_rfl) (by kernel_rfl) ?_
      refine DRun.step rfl rfl rfl (AOp.moveD rfl rfl) ?_
      refine DRun.step rfl rfl rfl (AOp.moveO rfl rfl) ?_
      refine DRun.step rfl rfl rfl (AOp.lenOwn rfl et_24.ht rfl (.head _)) ?_
      refine DRun.step rfl rfl rfl (AOp.lss rfl rfl rfl) ?_
      refine DRun.step rfl rfl rfl (AOp.moveD rfl rfl) ?_
      refine DRun.split 38 rfl (fun g4 => ?_) (fun g4 => ?_)
      · replace g4 := of_decide_eq_true g4
        rw [List.length_map] at g4
        have hil : i < (oS a ((validR l).take k) (validR l)[k] j).length := by omega
        refine DRun.step ⟨38, rfl, .inl ⟨_, rfl, rfl⟩⟩ rfl rfl (AOp.moveO rfl rfl) ?_
        refine DRun.step ⟨38, rfl, .inl ⟨_, rfl, rfl⟩⟩ rfl rfl (AOp.moveD rfl rfl) ?_
        refine DRun.step ⟨38, rfl, .inl ⟨_, rfl, rfl⟩⟩ rfl rfl (AOp.indexOwn rfl et_24 rfl rfl (.head _) i rfl (by rw [List.length_map]; omega)) ?_
        refine DRun.step ⟨38, rfl, .inl ⟨_, rfl, rfl⟩⟩ rfl rfl (AOp.fieldAddrP rfl fo_31_0 rfl) ?_
        refine DRun.step ⟨38, rfl, .inl ⟨_, rfl, rfl⟩⟩ rfl rfl (AOp.loadRow rfl sc_3 rfl (.head _) i 0 rfl (at_lst hil) rfl) ?_
        refine DRun.step ⟨38, rfl, .inl ⟨_, rfl, rfl⟩⟩ rfl rfl (AOp.moveD rfl rfl) ?_
        refine DRun.step ⟨38, rfl, .inl ⟨_, rfl, rfl⟩⟩ rfl rfl (AOp.lss rfl rfl rfl) ?_
        refine DRun.step ⟨38, rfl, .inl ⟨_, rfl, rfl⟩⟩ rfl rfl (AOp.moveD rfl rfl) ?_
        refine DRun.split 46 rfl (fun g5 => ?_) (fun g5 => ?_)
        · replace g5 := of_decide_eq_true g5
          have HT := take_lt hil hi.2 (ltS_1 (b := ((meantA a (validR l)[k].source (validR l)[k].lines[j].title), (validR l)[k].period)) g5)
          refine DRun.pass ⟨46, rfl, .inl ⟨_, rfl, rfl⟩⟩ rfl rfl ?_
          refine DRun.pass ⟨46, rfl, .inl ⟨_, rfl, rfl⟩⟩ rfl rfl ?_
          refine DRun.pass ⟨46, rfl, .inl ⟨_, rfl, rfl⟩⟩ rfl rfl ?_
          refine DRun.pass ⟨46, rfl, .inl ⟨_, rfl, rfl⟩⟩ rfl rfl ?_
          refine DRun.pass ⟨46, rfl, .inl ⟨_, rfl, rfl⟩⟩ rfl rfl ?_
          refine DRun.pass ⟨46, rfl, .inl ⟨_, rfl, rfl⟩⟩ rfl rfl ?_
          refine DRun.pass ⟨46, rfl, .inl ⟨_, rfl, rfl⟩⟩ rfl rfl ?_
          refine DRun.pass ⟨46, rfl, .inl ⟨_, rfl, rfl⟩⟩ rfl rfl ?_
          refine DRun.pass ⟨54, rfl, .inr ⟨rfl, rfl⟩⟩ rfl rfl ?_
          refine DRun.pass ⟨54, rfl, .inr ⟨rfl, rfl⟩⟩ rfl rfl ?_
          refine DRun.pass ⟨54, rfl, .inr ⟨rfl, rfl⟩⟩ rfl rfl ?_
          refine DRun.pass ⟨54, rfl, .inr ⟨rfl, rfl⟩⟩ rfl rfl ?_
          refine DRun.pass ⟨54, rfl, .inr ⟨rfl, rfl⟩⟩ rfl rfl ?_
          refine DRun.pass ⟨54, rfl, .inr ⟨rfl, rfl⟩⟩ rfl rfl ?_
          refine DRun.pass ⟨54, rfl, .inr ⟨rfl, rfl⟩⟩ rfl rfl ?_
          refine DRun.pass ⟨54, rfl, .inr ⟨rfl, rfl⟩⟩ rfl rfl ?_
          refine DRun.pass ⟨46, rfl, .inl ⟨_, rfl, rfl⟩⟩ rfl rfl ?_
          refine DRun.step ⟨38, rfl, .inl ⟨_, rfl, rfl⟩⟩ rfl rfl (AOp.pickT rfl rfl rfl) ?_
          refine DRun.step rfl rfl rfl (AOp.pickT rfl rfl rfl) ?_
          refine DRun.nil ?_
          refine AWP.cond rfl (fun _ => ?_) (fun h => nomatch h)
          refine AWP.skip ?_
          refine AWP.block ?_
          refine AWP.region ?_
          refine AOps.mD rfl rfl rfl rfl rfl ?_
          refine AOps.step rfl rfl rfl (AOp.add64 rfl rfl rfl (by omega) (by omega)) ?_
          refine AOps.aD rfl rfl rfl rfl rfl (.nil ?_)
          refine ⟨i + 1, ⟨by omega, HT⟩, (by dsimp only; omega), Sub.less ⟨(SLe.of_eq rfl), SLe.refl _, SLe.refl _, SLe.refl _, SLe.refl _, SLe.refl _, SLe.refl _, SLe.refl _, SLe.refl _, SLe.refl _, SLe.refl _, SLe.refl _, trivial⟩ (row_sameM rfl)⟩
        replace g5 := of_decide_eq_false g5
        have g46 := g5
        refine DRun.step ⟨46, rfl, .inl ⟨_, rfl, rfl⟩⟩ rfl rfl (AOp.moveO rfl rfl) ?_
        refine DRun.step ⟨46, rfl, .inl ⟨_, rfl, rfl⟩⟩ rfl rfl (AOp.moveD rfl rfl) ?_
        refine DRun.step ⟨46, rfl, .inl ⟨_, rfl, rfl⟩⟩ rfl rfl (AOp.indexOwn rfl et_24 rfl rfl (.head _) i rfl (by rw [List.length_map]; omega)) ?_
        refine DRun.step ⟨46, rfl, .inl ⟨_, rfl, rfl⟩⟩ rfl rfl (AOp.fieldAddrP rfl fo_31_0 rfl) ?_
        refine DRun.step ⟨46, rfl, .inl ⟨_, rfl, rfl⟩⟩ rfl rfl (AOp.loadRow rfl sc_3 rfl (.head _) i 0 rfl (at_lst hil) rfl) ?_
        refine DRun.step ⟨46, rfl, .inl ⟨_, rfl, rfl⟩⟩ rfl rfl (AOp.moveD rfl rfl) ?_
        refine DRun.step ⟨46, rfl, .inl ⟨_, rfl, rfl⟩⟩ rfl rfl (AOp.eql rfl rfl rfl) ?_
        refine DRun.step ⟨46, rfl, .inl ⟨_, rfl, rfl⟩⟩ rfl rfl (AOp.moveD rfl rfl) ?_
        refine DRun.split 54 rfl (fun g6 => ?_) (fun g6 => ?_)
        · replace g6 := of_decide_eq_true g6
          have g54 := g6
          refine DRun.step ⟨54, rfl, .inl ⟨_, rfl, rfl⟩⟩ rfl rfl (AOp.moveO rfl rfl) ?_
          refine DRun.step ⟨54, rfl, .inl ⟨_, rfl, rfl⟩⟩ rfl rfl (AOp.moveD rfl rfl) ?_
          refine DRun.step ⟨54, rfl, .inl ⟨_, rfl, rfl⟩⟩ rfl rfl (AOp.indexOwn rfl et_24 rfl rfl (.head _) i rfl (by rw [List.length_map]; omega)) ?_
          refine DRun.step ⟨54, rfl, .inl ⟨_, rfl, rfl⟩⟩ rfl rfl (AOp.fieldAddrP rfl fo_31_1 rfl) ?_
          refine DRun.step ⟨54, rfl, .inl ⟨_, rfl, rfl⟩⟩ rfl rfl (AOp.loadRow rfl sc_3 rfl (.head _) i 1 rfl (at_lst hil) rfl) ?_
          refine DRun.step ⟨54, rfl, .inl ⟨_, rfl, rfl⟩⟩ rfl rfl (AOp.fieldAddr rfl fo_127_2 rfl) ?_
          refine DRun.step ⟨54, rfl, .inl ⟨_, rfl, rfl⟩⟩ rfl rfl (AOp.load rfl sc_3 rfl) ?_
          refine DRun.step ⟨54, rfl, .inl ⟨_, rfl, rfl⟩⟩ rfl rfl (AOp.lss rfl rfl rfl) ?_
          refine DRun.step ⟨46, rfl, .inl ⟨_, rfl, rfl⟩⟩ rfl rfl (AOp.pickT rfl rfl rfl) ?_
          refine DRun.step ⟨38, rfl, .inl ⟨_, rfl, rfl⟩⟩ rfl rfl (AOp.pickF rfl rfl rfl) ?_
          refine DRun.step rfl rfl rfl (AOp.pickT rfl rfl rfl) ?_
          refine DRun.nil ?_
          refine AWP.cond rfl (fun h7 => ?_) (fun h7 => ?_)
          · replace h7 := of_decide_eq_true h7
            have HT := take_lt hil hi.2 (ltS_2 (b := ((meantA a (validR l)[k].source (validR l)[k].lines[j].title), (validR l)[k].period)) g54 h7)
            refine AWP.skip ?_
            refine AWP.block ?_
            refine AWP.region ?_
            refine AOps.mD rfl rfl rfl rfl rfl ?_
            refine AOps.step rfl rfl rfl (AOp.add64 rfl rfl rfl (by omega) (by omega)) ?_
            refine AOps.aD rfl rfl rfl rfl rfl (.nil ?_)
            refine ⟨i + 1, ⟨by omega, HT⟩, (by dsimp only; omega), Sub.less ⟨(SLe.of_eq rfl), SLe.refl _, SLe.refl _, SLe.refl _, SLe.refl _, SLe.refl _, SLe.refl _, SLe.refl _, SLe.refl _, SLe.refl _, SLe.refl _, SLe.refl _, trivial⟩ (row_sameM rfl)⟩
          replace h7 := of_decide_eq_false h7
          have HNL := ltS_0 (b := ((meantA a (validR l)[k].source (validR l)[k].lines[j].title), (validR l)[k].period)) g46 (fun hh => h7 hh.2)
          have g65 := h7
          refine AWP.exit ?_
          refine AWP.seq ?_
          refine AWP.seq ?_
          refine AWP.draw (by kernel_rfl) (by kernel_rfl) ?_
          refine DRun.step rfl rfl rfl (AOp.moveD rfl rfl) ?_
          refine DRun.step rfl rfl rfl (AOp.moveO rfl rfl) ?_
          refine DRun.step rfl rfl rfl (AOp.lenOwn rfl et_24.ht rfl (.head _)) ?_
          refine DRun.step rfl rfl rfl (AOp.eql rfl rfl rfl) ?_
          refine DRun.step rfl rfl rfl (AOp.moveD rfl rfl) ?_
          refine DRun.split 72 rfl (fun g8 => ?_) (fun g8 => ?_)
          · replace g8 := of_decide_eq_true g8
            rw [List.length_map] at g8; exfalso; omega
          replace g8 := of_decide_eq_false g8
          skip
          refine DRun.step ⟨72, rfl, .inl ⟨_, rfl, rfl⟩⟩ rfl rfl (AOp.moveO rfl rfl) ?_
          refine DRun.step ⟨72, rfl, .inl ⟨_, rfl, rfl⟩⟩ rfl rfl (AOp.moveD rfl rfl) ?_
          refine DRun.step ⟨72, rfl, .inl ⟨_, rfl, rfl⟩⟩ rfl rfl (AOp.indexOwn rfl et_24 rfl rfl (.head _) i rfl (by rw [List.length_map]; omega)) ?_
          refine DRun.step ⟨72, rfl, .inl ⟨_, rfl, rfl⟩⟩ rfl rfl (AOp.fieldAddrP rfl fo_31_0 rfl) ?_
          refine DRun.step ⟨72, rfl, .inl ⟨_, rfl, rfl⟩⟩ rfl rfl (AOp.loadRow rfl sc_3 rfl (.head _) i 0 rfl (at_lst hil) rfl) ?_
          refine DRun.step ⟨72, rfl, .inl ⟨_, rfl, rfl⟩⟩ rfl rfl (AOp.moveD rfl rfl) ?_
          refine DRun.step ⟨72, rfl, .inl ⟨_, rfl, rfl⟩⟩ rfl rfl (AOp.neq rfl rfl rfl) ?_
          refine DRun.step rfl rfl rfl (AOp.pickF rfl rfl rfl) ?_
          refine DRun.step rfl rfl rfl (AOp.moveD rfl rfl) ?_
          refine DRun.split 81 rfl (fun g9 => ?_) (fun g9 => ?_)
          · replace g9 := of_decide_eq_true g9
            exact absurd g54 g9
          replace g9 := of_decide_eq_false g9
          skip
          refine DRun.step ⟨81, rfl, .inl ⟨_, rfl, rfl⟩⟩ rfl rfl (AOp.moveO rfl rfl) ?_
          refine DRun.step ⟨81, rfl, .inl ⟨_, rfl, rfl⟩⟩ rfl rfl (AOp.moveD rfl rfl) ?_
          refine DRun.step ⟨81, rfl, .inl ⟨_, rfl, rfl⟩⟩ rfl rfl (AOp.indexOwn rfl et_24 rfl rfl (.head _) i rfl (by rw [List.length_map]; omega)) ?_
          refine DRun.step ⟨81, rfl, .inl ⟨_, rfl, rfl⟩⟩ rfl rfl (AOp.fieldAddrP rfl fo_31_1 rfl) ?_
          refine DRun.step ⟨81, rfl, .inl ⟨_, rfl, rfl⟩⟩ rfl rfl (AOp.loadRow rfl sc_3 rfl (.head _) i 1 rfl (at_lst hil) rfl) ?_
          refine DRun.step ⟨81, rfl, .inl ⟨_, rfl, rfl⟩⟩ rfl rfl (AOp.fieldAddr rfl fo_127_2 rfl) ?_
          refine DRun.step ⟨81, rfl, .inl ⟨_, rfl, rfl⟩⟩ rfl rfl (AOp.load rfl sc_3 rfl) ?_
          refine DRun.step ⟨81, rfl, .inl ⟨_, rfl, rfl⟩⟩ rfl rfl (AOp.neq rfl rfl rfl) ?_
          refine DRun.step rfl rfl rfl (AOp.pickF rfl rfl rfl) ?_
          refine DRun.nil ?_
          refine AWP.cond rfl (fun h10 => ?_) (fun h10 => ?_)
          · replace h10 := of_decide_eq_true h10
            obtain ⟨O1, v, hW, hP⟩ := plc_ins (lt := ltS) (dz := dzS) (O := (oS a ((validR l).take k) (validR l)[k] j)) (k := ((meantA a (validR l)[k].source (validR l)[k].lines[j].title), (validR l)[k].period)) (i := i) hi.1 hi.2 (.inr ⟨hil, HNL, fun hh => h10 (congrArg Prod.snd hh)⟩)
            have hb := plc_bnd hP hO
            have hPl := hP.len
            have hPp := hP.pos
            have HF := hP.fin (validR l)[k].lines[j].units (validR l)[k].lines[j].money
            rw [← HN] at HF
            have hv1 : (toS (((meantA a (validR l)[k].source (validR l)[k].lines[j].title), (validR l)[k].period), v)).units = v.1 := rfl
            have hv2 : (toS (((meantA a (validR l)[k].source (validR l)[k].lines[j].title), (validR l)[k].period), v)).money = v.2 := rfl
            refine AWP.region ?_
            refine AOps.step rfl rfl rfl (AOp.moveO rfl rfl) ?_
            refine AOps.mD rfl rfl rfl rfl rfl ?_
            refine AOps.mD rfl rfl rfl rfl rfl ?_
            refine AOps.step rfl rfl rfl (AOp.fieldAddr rfl fo_127_2 rfl) ?_
            refine AOps.step rfl rfl rfl (AOp.load rfl sc_3 rfl) ?_
            refine AOps.step rfl rfl rfl (AOp.build rfl bu_31 (.cons rfl rfl (.cons rfl rfl .nil)) rfl) ?_
            refine AOps.buildS 171 rfl rfl rfl rfl et_24 rfl rfl rfl rfl rfl ?_
            -- inserts into 61
            refine AOps.insertK (id := 61) (idx := 171) (k := i) InsS.insT rfl rfl rfl rfl rfl (.tail _ (.head _)) rfl rfl (by rw [List.length_map]; exact hi.1) rfl (.head _) (by decide) (by rw [List.length_map]; omega) ?_
            refine AOps.step rfl rfl rfl (AOp.assignO rfl rfl) (.nil ?_)
            refine AWP.seq ?_
            refine AWP.obs (σ' := [(61, .row 31 4 (O1.map dzS))]) (row_sameM hW) ?_
            refine AWP.drawG (fun k => (Nat.beq k 10) || (Nat.beq k 2 || Nat.beq k 4 || Nat.beq k 8)) (fun k => Nat.beq k 10) (fun k h => Bool.or_eq_true_iff.2 (.inl h)) (by kernel_rfl) (by kernel_rfl) (by kernel_rfl) ?_
            refine GRun.step rfl rfl rfl (fun _ => AOp.moveO rfl rfl) ?_
            refine GRun.step rfl rfl rfl (fun _ => AOp.moveD rfl rfl) ?_
            refine GRun.stepS rfl rfl rfl rfl (AOp.indexOwn rfl et_24 rfl rfl (.head _) i rfl (by rw [List.length_map]; omega)) ?_
            refine GRun.step rfl rfl rfl (fun _ => AOp.fieldAddrP rfl fo_31_2 rfl) ?_
            refine GRun.stepS rfl rfl rfl rfl (AOp.loadRow rfl sc_3 rfl (.head _) i 2 rfl hP.at_ rfl) ?_
            refine GRun.step rfl rfl rfl (fun _ => AOp.fieldAddr rfl fo_134_1 rfl) ?_
            refine GRun.step rfl rfl rfl (fun _ => AOp.load rfl sc_3 rfl) ?_
            refine GRun.step rfl rfl rfl (fun _ => AOp.add64 rfl rfl rfl (by omega) (by omega)) ?_
            refine GRun.stepS rfl rfl rfl rfl (AOp.indexOwn rfl et_24 rfl rfl (.head _) i rfl (by rw [List.length_map]; omega)) ?_
            refine GRun.step rfl rfl rfl (fun _ => AOp.fieldAddrP rfl fo_31_2 rfl) ?_
            refine GRun.eff rfl rfl rfl (EOp.storeRow rfl rfl sz_3 rfl (.head _) rfl rfl rfl i 2 rfl hP.at_ (Nat.le_of_ble_eq_true rfl)) ?_
            refine GRun.nil ?_
            refine AWP.obs (σ' := [(61, .row 31 4 ((O1.map dzS).set i [.v (.int .i64 (meantA a (validR l)[k].source (validR l)[k].lines[j].title)), .v (.int .i64 (validR l)[k].period), .v (.int .i64 (v.1 + (validR l)[k].lines[j].units)), .v (.int .i64 v.2)]))]) (row_sameM rfl) ?_
            have HS := set_dzS O1 i ((meantA a (validR l)[k].source (validR l)[k].lines[j].title), (validR l)[k].period) v (validR l)[k].lines[j].units (validR l)[k].lines[j].money
            have hL1 : ((O1.map dzS).set i [.v (.int .i64 (meantA a (validR l)[k].source (validR l)[k].lines[j].title)), .v (.int .i64 (validR l)[k].period), .v (.int .i64 (v.1 + (validR l)[k].lines[j].units)), .v (.int .i64 v.2)])[i]? = some [.v (.int .i64 (meantA a (validR l)[k].source (validR l)[k].lines[j].title)), .v (.int .i64 (validR l)[k].period), .v (.int .i64 (v.1 + (validR l)[k].lines[j].units)), .v (.int .i64 v.2)] := List.getElem?_set_self (by rw [List.length_map]; omega)
            refine AWP.drawG (fun k => (Nat.beq k 10) || (Nat.beq k 2 || Nat.beq k 4 || Nat.beq k 8)) (fun k => Nat.beq k 10) (fun k h => Bool.or_eq_true_iff.2 (.inl h)) (by kernel_rfl) (by kernel_rfl) (by kernel_rfl) ?_
            refine GRun.step rfl rfl rfl (fun _ => AOp.moveO rfl rfl) ?_
            refine GRun.step rfl rfl rfl (fun _ => AOp.moveD rfl rfl) ?_
            refine GRun.stepS rfl rfl rfl rfl (AOp.indexOwn rfl et_24 rfl rfl (.head _) i rfl (by rw [List.length_set, List.length_map]; omega)) ?_
            refine GRun.step rfl rfl rfl (fun _ => AOp.fieldAddrP rfl fo_31_3 rfl) ?_
            refine GRun.stepS rfl rfl rfl rfl (AOp.loadRow rfl sc_3 rfl (.head _) i 3 rfl hL1 rfl) ?_
            refine GRun.step rfl rfl rfl (fun _ => AOp.fieldAddr rfl fo_134_2 rfl) ?_
            refine GRun.step rfl rfl rfl (fun _ => AOp.load rfl sc_3 rfl) ?_
            refine GRun.step rfl rfl rfl (fun _ => AOp.add64 rfl rfl rfl (by omega) (by omega)) ?_
            refine GRun.stepS rfl rfl rfl rfl (AOp.indexOwn rfl et_24 rfl rfl (.head _) i rfl (by rw [List.length_set, List.length_map]; omega)) ?_
            refine GRun.step rfl rfl rfl (fun _ => AOp.fieldAddrP rfl fo_31_3 rfl) ?_
            refine GRun.eff rfl rfl rfl (EOp.storeRow rfl rfl sz_3 rfl (.head _) rfl rfl rfl i 3 rfl hL1 (Nat.le_of_ble_eq_true rfl)) ?_
            refine GRun.nil ?_
            refine AWP.region ?_
            refine AOps.step rfl rfl rfl (AOp.add64 rfl rfl rfl (by omega) (by omega)) ?_
            refine AOps.mD rfl rfl rfl rfl rfl (.nil ?_)
            refine ⟨j + 1, (by dsimp only; omega), (by dsimp only; omega), Sub.less ⟨(SLe.of_eq rfl), SLe.refl _, SLe.refl _, SLe.refl _, SLe.refl _, SLe.refl _, SLe.refl _, SLe.refl _, SLe.refl _, trivial⟩ (row_sameM (by first | (rw [← HF]; exact HS) | (rw [HN])))⟩
          replace h10 := of_decide_eq_false h10
          obtain ⟨O1, v, hW, hP⟩ := plc_add (lt := ltS) (dz := dzS) hil hi.2 HNL (Prod.ext g54 (by first | exact h10 | exact Decidable.not_not.1 h10))
          have hb := plc_bnd hP hO
          have hPl := hP.len
          have hPp := hP.pos
          have HF := hP.fin (validR l)[k].lines[j].units (validR l)[k].lines[j].money
          rw [← HN] at HF
          have hv1 : (toS (((meantA a (validR l)[k].source (validR l)[k].lines[j].title), (validR l)[k].period), v)).units = v.1 := rfl
          have hv2 : (toS (((meantA a (validR l)[k].source (validR l)[k].lines[j].title), (validR l)[k].period), v)).money = v.2 := rfl
          refine AWP.skip ?_
          refine AWP.seq ?_
          refine AWP.obs (σ' := [(61, .row 31 4 (O1.map dzS))]) (row_sameM hW) ?_
          refine AWP.drawG (fun k => (Nat.beq k 10) || (Nat.beq k 2 || Nat.beq k 4 || Nat.beq k 8)) (fun k => Nat.beq k 10) (fun k h => Bool.or_eq_true_iff.2 (.inl h)) (by kernel_rfl) (by kernel_rfl) (by kernel_rfl) ?_
          refine GRun.step rfl rfl rfl (fun _ => AOp.moveO rfl rfl) ?_
          refine GRun.step rfl rfl rfl (fun _ => AOp.moveD rfl rfl) ?_
          refine GRun.stepS rfl rfl rfl rfl (AOp.indexOwn rfl et_24 rfl rfl (.head _) i rfl (by rw [List.length_map]; omega)) ?_
          refine GRun.step rfl rfl rfl (fun _ => AOp.fieldAddrP rfl fo_31_2 rfl) ?_
          refine GRun.stepS rfl rfl rfl rfl (AOp.loadRow rfl sc_3 rfl (.head _) i 2 rfl hP.at_ rfl) ?_
          refine GRun.step rfl rfl rfl (fun _ => AOp.fieldAddr rfl fo_134_1 rfl) ?_
          refine GRun.step rfl rfl rfl (fun _ => AOp.load rfl sc_3 rfl) ?_
          refine GRun.step rfl rfl rfl (fun _ => AOp.add64 rfl rfl rfl (by omega) (by omega)) ?_
          refine GRun.stepS rfl rfl rfl rfl (AOp.indexOwn rfl et_24 rfl rfl (.head _) i rfl (by rw [List.length_map]; omega)) ?_
          refine GRun.step rfl rfl rfl (fun _ => AOp.fieldAddrP rfl fo_31_2 rfl) ?_
          refine GRun.eff rfl rfl rfl (EOp.storeRow rfl rfl sz_3 rfl (.head _) rfl rfl rfl i 2 rfl hP.at_ (Nat.le_of_ble_eq_true rfl)) ?_
          refine GRun.nil ?_
          refine AWP.obs (σ' := [(61, .row 31 4 ((O1.map dzS).set i [.v (.int .i64 (meantA a (validR l)[k].source (validR l)[k].lines[j].title)), .v (.int .i64 (validR l)[k].period), .v (.int .i64 (v.1 + (validR l)[k].lines[j].units)), .v (.int .i64 v.2)]))]) (row_sameM rfl) ?_
          have HS := set_dzS O1 i ((meantA a (validR l)[k].source (validR l)[k].lines[j].title), (validR l)[k].period) v (validR l)[k].lines[j].units (validR l)[k].lines[j].money
          have hL1 : ((O1.map dzS).set i [.v (.int .i64 (meantA a (validR l)[k].source (validR l)[k].lines[j].title)), .v (.int .i64 (validR l)[k].period), .v (.int .i64 (v.1 + (validR l)[k].lines[j].units)), .v (.int .i64 v.2)])[i]? = some [.v (.int .i64 (meantA a (validR l)[k].source (validR l)[k].lines[j].title)), .v (.int .i64 (validR l)[k].period), .v (.int .i64 (v.1 + (validR l)[k].lines[j].units)), .v (.int .i64 v.2)] := List.getElem?_set_self (by rw [List.length_map]; omega)
          refine AWP.drawG (fun k => (Nat.beq k 10) || (Nat.beq k 2 || Nat.beq k 4 || Nat.beq k 8)) (fun k => Nat.beq k 10) (fun k h => Bool.or_eq_true_iff.2 (.inl h)) (by kernel_rfl) (by kernel_rfl) (by kernel_rfl) ?_
          refine GRun.step rfl rfl rfl (fun _ => AOp.moveO rfl rfl) ?_
          refine GRun.step rfl rfl rfl (fun _ => AOp.moveD rfl rfl) ?_
          refine GRun.stepS rfl rfl rfl rfl (AOp.indexOwn rfl et_24 rfl rfl (.head _) i rfl (by rw [List.length_set, List.length_map]; omega)) ?_
          refine GRun.step rfl rfl rfl (fun _ => AOp.fieldAddrP rfl fo_31_3 rfl) ?_
          refine GRun.stepS rfl rfl rfl rfl (AOp.loadRow rfl sc_3 rfl (.head _) i 3 rfl hL1 rfl) ?_
          refine GRun.step rfl rfl rfl (fun _ => AOp.fieldAddr rfl fo_134_2 rfl) ?_
          refine GRun.step rfl rfl rfl (fun _ => AOp.load rfl sc_3 rfl) ?_
          refine GRun.step rfl rfl rfl (fun _ => AOp.add64 rfl rfl rfl (by omega) (by omega)) ?_
          refine GRun.stepS rfl rfl rfl rfl (AOp.indexOwn rfl et_24 rfl rfl (.head _) i rfl (by rw [List.length_set, List.length_map]; omega)) ?_
          refine GRun.step rfl rfl rfl (fun _ => AOp.fieldAddrP rfl fo_31_3 rfl) ?_
          refine GRun.eff rfl rfl rfl (EOp.storeRow rfl rfl sz_3 rfl (.head _) rfl rfl rfl i 3 rfl hL1 (Nat.le_of_ble_eq_true rfl)) ?_
          refine GRun.nil ?_
          refine AWP.region ?_
          refine AOps.step rfl rfl rfl (AOp.add64 rfl rfl rfl (by omega) (by omega)) ?_
          refine AOps.mD rfl rfl rfl rfl rfl (.nil ?_)
          refine ⟨j + 1, (by dsimp only; omega), (by dsimp only; omega), Sub.less ⟨(SLe.of_eq rfl), SLe.refl _, SLe.refl _, SLe.refl _, SLe.refl _, SLe.refl _, SLe.refl _, SLe.refl _, SLe.refl _, trivial⟩ (row_sameM (by first | (rw [← HF]; exact HS) | (rw [HN])))⟩
        replace g6 := of_decide_eq_false g6
        have HNL := ltS_0 (b := ((meantA a (validR l)[k].source (validR l)[k].lines[j].title), (validR l)[k].period)) g46 (fun hh => g6 hh.1)
        have g54 := g6
        refine DRun.pass ⟨54, rfl, .inl ⟨_, rfl, rfl⟩⟩ rfl rfl ?_
        refine DRun.pass ⟨54, rfl, .inl ⟨_, rfl, rfl⟩⟩ rfl rfl ?_
        refine DRun.pass ⟨54, rfl, .inl ⟨_, rfl, rfl⟩⟩ rfl rfl ?_
        refine DRun.pass ⟨54, rfl, .inl ⟨_, rfl, rfl⟩⟩ rfl rfl ?_
        refine DRun.pass ⟨54, rfl, .inl ⟨_, rfl, rfl⟩⟩ rfl rfl ?_
        refine DRun.pass ⟨54, rfl, .inl ⟨_, rfl, rfl⟩⟩ rfl rfl ?_
        refine DRun.pass ⟨54, rfl, .inl ⟨_, rfl, rfl⟩⟩ rfl rfl ?_
        refine DRun.pass ⟨54, rfl, .inl ⟨_, rfl, rfl⟩⟩ rfl rfl ?_
        refine DRun.step ⟨46, rfl, .inl ⟨_, rfl, rfl⟩⟩ rfl rfl (AOp.pickF rfl rfl rfl) ?_
        refine DRun.step ⟨38, rfl, .inl ⟨_, rfl, rfl⟩⟩ rfl rfl (AOp.pickF rfl rfl rfl) ?_
        refine DRun.step rfl rfl rfl (AOp.pickT rfl rfl rfl) ?_
        refine DRun.nil ?_
        refine AWP.cond rfl (fun h => nomatch h) (fun _ => ?_)
        refine AWP.exit ?_
        refine AWP.seq ?_
        refine AWP.seq ?_
        refine AWP.draw (by kernel_rfl) (by kernel_rfl) ?_
        refine DRun.step rfl rfl rfl (AOp.moveD rfl rfl) ?_
        refine DRun.step rfl rfl rfl (AOp.moveO rfl rfl) ?_
        refine DRun.step rfl rfl rfl (AOp.lenOwn rfl et_24.ht rfl (.head _)) ?_
        refine DRun.step rfl rfl rfl (AOp.eql rfl rfl rfl) ?_
        refine DRun.step rfl rfl rfl (AOp.moveD rfl rfl) ?_
        refine DRun.split 72 rfl (fun g11 => ?_) (fun g11 => ?_)
        · replace g11 := of_decide_eq_true g11
          rw [List.length_map] at g11; exfalso; omega
        replace g11 := of_decide_eq_false g11
        skip
        refine DRun.step ⟨72, rfl, .inl ⟨_, rfl, rfl⟩⟩ rfl rfl (AOp.moveO rfl rfl) ?_
        refine DRun.step ⟨72, rfl, .inl ⟨_, rfl, rfl⟩⟩ rfl rfl (AOp.moveD rfl rfl) ?_
        refine DRun.step ⟨72, rfl, .inl ⟨_, rfl, rfl⟩⟩ rfl rfl (AOp.indexOwn rfl et_24 rfl rfl (.head _) i rfl (by rw [List.length_map]; omega)) ?_
        refine DRun.step ⟨72, rfl, .inl ⟨_, rfl, rfl⟩⟩ rfl rfl (AOp.fieldAddrP rfl fo_31_0 rfl) ?_
        refine DRun.step ⟨72, rfl, .inl ⟨_, rfl, rfl⟩⟩ rfl rfl (AOp.loadRow rfl sc_3 rfl (.head _) i 0 rfl (at_lst hil) rfl) ?_
        refine DRun.step ⟨72, rfl, .inl ⟨_, rfl, rfl⟩⟩ rfl rfl (AOp.moveD rfl rfl) ?_
        refine DRun.step ⟨72, rfl, .inl ⟨_, rfl, rfl⟩⟩ rfl rfl (AOp.neq rfl rfl rfl) ?_
        refine DRun.step rfl rfl rfl (AOp.pickF rfl rfl rfl) ?_
        refine DRun.step rfl rfl rfl (AOp.moveD rfl rfl) ?_
        refine DRun.split 81 rfl (fun g12 => ?_) (fun g12 => ?_)
        · replace g12 := of_decide_eq_true g12
          obtain ⟨O1, v, hW, hP⟩ := plc_ins (lt := ltS) (dz := dzS) (O := (oS a ((validR l).take k) (validR l)[k] j)) (k := ((meantA a (validR l)[k].source (validR l)[k].lines[j].title), (validR l)[k].period)) (i := i) hi.1 hi.2 (.inr ⟨hil, HNL, fun hh => g54 (congrArg Prod.fst hh)⟩)
          have hb := plc_bnd hP hO
          have hPl := hP.len
          have hPp := hP.pos
          have HF := hP.fin (validR l)[k].lines[j].units (validR l)[k].lines[j].money
          rw [← HN] at HF
          have hv1 : (toS (((meantA a (validR l)[k].source (validR l)[k].lines[j].title), (validR l)[k].period), v)).units = v.1 := rfl
          have hv2 : (toS (((meantA a (validR l)[k].source (validR l)[k].lines[j].title), (validR l)[k].period), v)).money = v.2 := rfl
          refine DRun.pass ⟨81, rfl, .inl ⟨_, rfl, rfl⟩⟩ rfl rfl ?_
          refine DRun.pass ⟨81, rfl, .inl ⟨_, rfl, rfl⟩⟩ rfl rfl ?_
          refine DRun.pass ⟨81, rfl, .inl ⟨_, rfl, rfl⟩⟩ rfl rfl ?_
          refine DRun.pass ⟨81, rfl, .inl ⟨_, rfl, rfl⟩⟩ rfl rfl ?_
          refine DRun.pass ⟨81, rfl, .inl ⟨_, rfl, rfl⟩⟩ rfl rfl ?_
          refine DRun.pass ⟨81, rfl, .inl ⟨_, rfl, rfl⟩⟩ rfl rfl ?_
          refine DRun.pass ⟨81, rfl, .inl ⟨_, rfl, rfl⟩⟩ rfl rfl ?_
          refine DRun.pass ⟨81, rfl, .inl ⟨_, rfl, rfl⟩⟩ rfl rfl ?_
          refine DRun.step rfl rfl rfl (AOp.pickT rfl rfl rfl) ?_
          refine DRun.nil ?_
          refine AWP.cond rfl (fun _ => ?_) (fun h => nomatch h)
          refine AWP.region ?_
          refine AOps.step rfl rfl rfl (AOp.moveO rfl rfl) ?_
          refine AOps.mD rfl rfl rfl rfl rfl ?_
          refine AOps.mD rfl rfl rfl rfl rfl ?_
          refine AOps.step rfl rfl rfl (AOp.fieldAddr rfl fo_127_2 rfl) ?_
          refine AOps.step rfl rfl rfl (AOp.load rfl sc_3 rfl) ?_
          refine AOps.step rfl rfl rfl (AOp.build rfl bu_31 (.cons rfl rfl (.cons rfl rfl .nil)) rfl) ?_
          refine AOps.buildS 171 rfl rfl rfl rfl et_24 rfl rfl rfl rfl rfl ?_
          -- inserts into 61
          refine AOps.insertK (id := 61) (idx := 171) (k := i) InsS.insT rfl rfl rfl rfl rfl (.tail _ (.head _)) rfl rfl (by rw [List.length_map]; exact hi.1) rfl (.head _) (by decide) (by rw [List.length_map]; omega) ?_
          refine AOps.step rfl rfl rfl (AOp.assignO rfl rfl) (.nil ?_)
          refine AWP.seq ?_
          refine AWP.obs (σ' := [(61, .row 31 4 (O1.map dzS))]) (row_sameM hW) ?_
          refine AWP.drawG (fun k => (Nat.beq k 10) || (Nat.beq k 2 || Nat.beq k 4 || Nat.beq k 8)) (fun k => Nat.beq k 10) (fun k h => Bool.or_eq_true_iff.2 (.inl h)) (by kernel_rfl) (by kernel_rfl) (by kernel_rfl) ?_
          refine GRun.step rfl rfl rfl (fun _ => AOp.moveO rfl rfl) ?_
          refine GRun.step rfl rfl rfl (fun _ => AOp.moveD rfl rfl) ?_
          refine GRun.stepS rfl rfl rfl rfl (AOp.indexOwn rfl et_24 rfl rfl (.head _) i rfl (by rw [List.length_map]; omega)) ?_
          refine GRun.step rfl rfl rfl (fun _ => AOp.fieldAddrP rfl fo_31_2 rfl) ?_
          refine GRun.stepS rfl rfl rfl rfl (AOp.loadRow rfl sc_3 rfl (.head _) i 2 rfl hP.at_ rfl) ?_
          refine GRun.step rfl rfl rfl (fun _ => AOp.fieldAddr rfl fo_134_1 rfl) ?_
          refine GRun.step rfl rfl rfl (fun _ => AOp.load rfl sc_3 rfl) ?_
          refine GRun.step rfl rfl rfl (fun _ => AOp.add64 rfl rfl rfl (by omega) (by omega)) ?_
          refine GRun.stepS rfl rfl rfl rfl (AOp.indexOwn rfl et_24 rfl rfl (.head _) i rfl (by rw [List.length_map]; omega)) ?_
          refine GRun.step rfl rfl rfl (fun _ => AOp.fieldAddrP rfl fo_31_2 rfl) ?_
          refine GRun.eff rfl rfl rfl (EOp.storeRow rfl rfl sz_3 rfl (.head _) rfl rfl rfl i 2 rfl hP.at_ (Nat.le_of_ble_eq_true rfl)) ?_
          refine GRun.nil ?_
          refine AWP.obs (σ' := [(61, .row 31 4 ((O1.map dzS).set i [.v (.int .i64 (meantA a (validR l)[k].source (validR l)[k].lines[j].title)), .v (.int .i64 (validR l)[k].period), .v (.int .i64 (v.1 + (validR l)[k].lines[j].units)), .v (.int .i64 v.2)]))]) (row_sameM rfl) ?_
          have HS := set_dzS O1 i ((meantA a (validR l)[k].source (validR l)[k].lines[j].title), (validR l)[k].period) v (validR l)[k].lines[j].units (validR l)[k].lines[j].money
          have hL1 : ((O1.map dzS).set i [.v (.int .i64 (meantA a (validR l)[k].source (validR l)[k].lines[j].title)), .v (.int .i64 (validR l)[k].period), .v (.int .i64 (v.1 + (validR l)[k].lines[j].units)), .v (.int .i64 v.2)])[i]? = some [.v (.int .i64 (meantA a (validR l)[k].source (validR l)[k].lines[j].title)), .v (.int .i64 (validR l)[k].period), .v (.int .i64 (v.1 + (validR l)[k].lines[j].units)), .v (.int .i64 v.2)] := List.getElem?_set_self (by rw [List.length_map]; omega)
          refine AWP.drawG (fun k => (Nat.beq k 10) || (Nat.beq k 2 || Nat.beq k 4 || Nat.beq k 8)) (fun k => Nat.beq k 10) (fun k h => Bool.or_eq_true_iff.2 (.inl h)) (by kernel_rfl) (by kernel_rfl) (by kernel_rfl) ?_
          refine GRun.step rfl rfl rfl (fun _ => AOp.moveO rfl rfl) ?_
          refine GRun.step rfl rfl rfl (fun _ => AOp.moveD rfl rfl) ?_
          refine GRun.stepS rfl rfl rfl rfl (AOp.indexOwn rfl et_24 rfl rfl (.head _) i rfl (by rw [List.length_set, List.length_map]; omega)) ?_
          refine GRun.step rfl rfl rfl (fun _ => AOp.fieldAddrP rfl fo_31_3 rfl) ?_
          refine GRun.stepS rfl rfl rfl rfl (AOp.loadRow rfl sc_3 rfl (.head _) i 3 rfl hL1 rfl) ?_
          refine GRun.step rfl rfl rfl (fun _ => AOp.fieldAddr rfl fo_134_2 rfl) ?_
          refine GRun.step rfl rfl rfl (fun _ => AOp.load rfl sc_3 rfl) ?_
          refine GRun.step rfl rfl rfl (fun _ => AOp.add64 rfl rfl rfl (by omega) (by omega)) ?_
          refine GRun.stepS rfl rfl rfl rfl (AOp.indexOwn rfl et_24 rfl rfl (.head _) i rfl (by rw [List.length_set, List.length_map]; omega)) ?_
          refine GRun.step rfl rfl rfl (fun _ => AOp.fieldAddrP rfl fo_31_3 rfl) ?_
          refine GRun.eff rfl rfl rfl (EOp.storeRow rfl rfl sz_3 rfl (.head _) rfl rfl rfl i 3 rfl hL1 (Nat.le_of_ble_eq_true rfl)) ?_
          refine GRun.nil ?_
          refine AWP.region ?_
          refine AOps.step rfl rfl rfl (AOp.add64 rfl rfl rfl (by omega) (by omega)) ?_
          refine AOps.mD rfl rfl rfl rfl rfl (.nil ?_)
          refine ⟨j + 1, (by dsimp only; omega), (by dsimp only; omega), Sub.less ⟨(SLe.of_eq rfl), SLe.refl _, SLe.refl _, SLe.refl _, SLe.refl _, SLe.refl _, SLe.refl _, SLe.refl _, SLe.refl _, trivial⟩ (row_sameM (by first | (rw [← HF]; exact HS) | (rw [HN])))⟩
        replace g12 := of_decide_eq_false g12
        exact absurd (Decidable.not_not.1 g12) g54
      replace g4 := of_decide_eq_false g4
      rw [List.length_map] at g4
      have hE : i = (oS a ((validR l).take k) (validR l)[k] j).length := by omega
      refine DRun.pass ⟨38, rfl, .inl ⟨_, rfl, rfl⟩⟩ rfl rfl ?_
      refine DRun.pass ⟨38, rfl, .inl ⟨_, rfl, rfl⟩⟩ rfl rfl ?_
      refine DRun.pass ⟨38, rfl, .inl ⟨_, rfl, rfl⟩⟩ rfl rfl ?_
      refine DRun.pass ⟨38, rfl, .inl ⟨_, rfl, rfl⟩⟩ rfl rfl ?_
      refine DRun.pass ⟨38, rfl, .inl ⟨_, rfl, rfl⟩⟩ rfl rfl ?_
      refine DRun.pass ⟨38, rfl, .inl ⟨_, rfl, rfl⟩⟩ rfl rfl ?_
      refine DRun.pass ⟨38, rfl, .inl ⟨_, rfl, rfl⟩⟩ rfl rfl ?_
      refine DRun.pass ⟨38, rfl, .inl ⟨_, rfl, rfl⟩⟩ rfl rfl ?_
      refine DRun.pass ⟨46, rfl, .inr ⟨rfl, rfl⟩⟩ rfl rfl ?_
      refine DRun.pass ⟨46, rfl, .inr ⟨rfl, rfl⟩⟩ rfl rfl ?_
      refine DRun.pass ⟨46, rfl, .inr ⟨rfl, rfl⟩⟩ rfl rfl ?_
      refine DRun.pass ⟨46, rfl, .inr ⟨rfl, rfl⟩⟩ rfl rfl ?_
      refine DRun.pass ⟨46, rfl, .inr ⟨rfl, rfl⟩⟩ rfl rfl ?_
      refine DRun.pass ⟨46, rfl, .inr ⟨rfl, rfl⟩⟩ rfl rfl ?_
      refine DRun.pass ⟨46, rfl, .inr ⟨rfl, rfl⟩⟩ rfl rfl ?_
      refine DRun.pass ⟨46, rfl, .inr ⟨rfl, rfl⟩⟩ rfl rfl ?_
      refine DRun.pass ⟨54, rfl, .inr ⟨rfl, rfl⟩⟩ rfl rfl ?_
      refine DRun.pass ⟨54, rfl, .inr ⟨rfl, rfl⟩⟩ rfl rfl ?_
      refine DRun.pass ⟨54, rfl, .inr ⟨rfl, rfl⟩⟩ rfl rfl ?_
      refine DRun.pass ⟨54, rfl, .inr ⟨rfl, rfl⟩⟩ rfl rfl ?_
      refine DRun.pass ⟨54, rfl, .inr ⟨rfl, rfl⟩⟩ rfl rfl ?_
      refine DRun.pass ⟨54, rfl, .inr ⟨rfl, rfl⟩⟩ rfl rfl ?_
      refine DRun.pass ⟨54, rfl, .inr ⟨rfl, rfl⟩⟩ rfl rfl ?_
      refine DRun.pass ⟨54, rfl, .inr ⟨rfl, rfl⟩⟩ rfl rfl ?_
      refine DRun.pass ⟨46, rfl, .inr ⟨rfl, rfl⟩⟩ rfl rfl ?_
      refine DRun.pass ⟨38, rfl, .inl ⟨_, rfl, rfl⟩⟩ rfl rfl ?_
      refine DRun.step rfl rfl rfl (AOp.pickF rfl rfl rfl) ?_
      refine DRun.nil ?_
      refine AWP.cond rfl (fun h => nomatch h) (fun _ => ?_)
      refine AWP.exit ?_
      refine AWP.seq ?_
      refine AWP.seq ?_
      refine AWP.draw (by kernel_rfl) (by kernel_rfl) ?_
      refine DRun.step rfl rfl rfl (AOp.moveD rfl rfl) ?_
      refine DRun.step rfl rfl rfl (AOp.moveO rfl rfl) ?_
      refine DRun.step rfl rfl rfl (AOp.lenOwn rfl et_24.ht rfl (.head _)) ?_
      refine DRun.step rfl rfl rfl (AOp.eql rfl rfl rfl) ?_
      refine DRun.step rfl rfl rfl (AOp.moveD rfl rfl) ?_
      refine DRun.split 72 rfl (fun g13 => ?_) (fun g13 => ?_)
      · replace g13 := of_decide_eq_true g13
        obtain ⟨O1, v, hW, hP⟩ := plc_ins (lt := ltS) (dz := dzS) (O := (oS a ((validR l).take k) (validR l)[k] j)) (k := ((meantA a (validR l)[k].source (validR l)[k].lines[j].title), (validR l)[k].period)) (i := i) hi.1 hi.2 (.inl hE)
        have hb := plc_bnd hP hO
        have hPl := hP.len
        have hPp := hP.pos
        have HF := hP.fin (validR l)[k].lines[j].units (validR l)[k].lines[j].money
        rw [← HN] at HF
        have hv1 : (toS (((meantA a (validR l)[k].source (validR l)[k].lines[j].title), (validR l)[k].period), v)).units = v.1 := rfl
        have hv2 : (toS (((meantA a (validR l)[k].source (validR l)[k].lines[j].title), (validR l)[k].period), v)).money = v.2 := rfl
        refine DRun.pass ⟨72, rfl, .inl ⟨_, rfl, rfl⟩⟩ rfl rfl ?_
        refine DRun.pass ⟨72, rfl, .inl ⟨_, rfl, rfl⟩⟩ rfl rfl ?_
        refine DRun.pass ⟨72, rfl, .inl ⟨_, rfl, rfl⟩⟩ rfl rfl ?_
        refine DRun.pass ⟨72, rfl, .inl ⟨_, rfl, rfl⟩⟩ rfl rfl ?_
        refine DRun.pass ⟨72, rfl, .inl ⟨_, rfl, rfl⟩⟩ rfl rfl ?_
        refine DRun.pass ⟨72, rfl, .inl ⟨_, rfl, rfl⟩⟩ rfl rfl ?_
        refine DRun.pass ⟨72, rfl, .inl ⟨_, rfl, rfl⟩⟩ rfl rfl ?_
        refine DRun.step rfl rfl rfl (AOp.pickT rfl rfl rfl) ?_
        refine DRun.step rfl rfl rfl (AOp.moveD rfl rfl) ?_
        refine DRun.pass ⟨81, rfl, .inl ⟨_, rfl, rfl⟩⟩ rfl rfl ?_
        refine DRun.pass ⟨81, rfl, .inl ⟨_, rfl, rfl⟩⟩ rfl rfl ?_
        refine DRun.pass ⟨81, rfl, .inl ⟨_, rfl, rfl⟩⟩ rfl rfl ?_
        refine DRun.pass ⟨81, rfl, .inl ⟨_, rfl, rfl⟩⟩ rfl rfl ?_
        refine DRun.pass ⟨81, rfl, .inl ⟨_, rfl, rfl⟩⟩ rfl rfl ?_
        refine DRun.pass ⟨81, rfl, .inl ⟨_, rfl, rfl⟩⟩ rfl rfl ?_
        refine DRun.pass ⟨81, rfl, .inl ⟨_, rfl, rfl⟩⟩ rfl rfl ?_
        refine DRun.pass ⟨81, rfl, .inl ⟨_, rfl, rfl⟩⟩ rfl rfl ?_
        refine DRun.step rfl rfl rfl (AOp.pickT rfl rfl rfl) ?_
        refine DRun.nil ?_
        refine AWP.cond rfl (fun _ => ?_) (fun h => nomatch h)
        refine AWP.region ?_
        refine AOps.step rfl rfl rfl (AOp.moveO rfl rfl) ?_
        refine AOps.mD rfl rfl rfl rfl rfl ?_
        refine AOps.mD rfl rfl rfl rfl rfl ?_
        refine AOps.step rfl rfl rfl (AOp.fieldAddr rfl fo_127_2 rfl) ?_
        refine AOps.step rfl rfl rfl (AOp.load rfl sc_3 rfl) ?_
        refine AOps.step rfl rfl rfl (AOp.build rfl bu_31 (.cons rfl rfl (.cons rfl rfl .nil)) rfl) ?_
        refine AOps.buildS 171 rfl rfl rfl rfl et_24 rfl rfl rfl rfl rfl ?_
        -- inserts into 61
        refine AOps.insertK (id := 61) (idx := 171) (k := i) InsS.insT rfl rfl rfl rfl rfl (.tail _ (.head _)) rfl rfl (by rw [List.length_map]; exact hi.1) rfl (.head _) (by decide) (by rw [List.length_map]; omega) ?_
        refine AOps.step rfl rfl rfl (AOp.assignO rfl rfl) (.nil ?_)
        refine AWP.seq ?_
        refine AWP.obs (σ' := [(61, .row 31 4 (O1.map dzS))]) (row_sameM hW) ?_
        refine AWP.drawG (fun k => (Nat.beq k 10) || (Nat.beq k 2 || Nat.beq k 4 || Nat.beq k 8)) (fun k => Nat.beq k 10) (fun k h => Bool.or_eq_true_iff.2 (.inl h)) (by kernel_rfl) (by kernel_rfl) (by kernel_rfl) ?_
        refine GRun.step rfl rfl rfl (fun _ => AOp.moveO rfl rfl) ?_
        refine GRun.step rfl rfl rfl (fun _ => AOp.moveD rfl rfl) ?_
        refine GRun.stepS rfl rfl rfl rfl (AOp.indexOwn rfl et_24 rfl rfl (.head _) i rfl (by rw [List.length_map]; omega)) ?_
        refine GRun.step rfl rfl rfl (fun _ => AOp.fieldAddrP rfl fo_31_2 rfl) ?_
        refine GRun.stepS rfl rfl rfl rfl (AOp.loadRow rfl sc_3 rfl (.head _) i 2 rfl hP.at_ rfl) ?_
        refine GRun.step rfl rfl rfl (fun _ => AOp.fieldAddr rfl fo_134_1 rfl) ?_
        refine GRun.step rfl rfl rfl (fun _ => AOp.load rfl sc_3 rfl) ?_
        refine GRun.step rfl rfl rfl (fun _ => AOp.add64 rfl rfl rfl (by omega) (by omega)) ?_
        refine GRun.stepS rfl rfl rfl rfl (AOp.indexOwn rfl et_24 rfl rfl (.head _) i rfl (by rw [List.length_map]; omega)) ?_
        refine GRun.step rfl rfl rfl (fun _ => AOp.fieldAddrP rfl fo_31_2 rfl) ?_
        refine GRun.eff rfl rfl rfl (EOp.storeRow rfl rfl sz_3 rfl (.head _) rfl rfl rfl i 2 rfl hP.at_ (Nat.le_of_ble_eq_true rfl)) ?_
        refine GRun.nil ?_
        refine AWP.obs (σ' := [(61, .row 31 4 ((O1.map dzS).set i [.v (.int .i64 (meantA a (validR l)[k].source (validR l)[k].lines[j].title)), .v (.int .i64 (validR l)[k].period), .v (.int .i64 (v.1 + (validR l)[k].lines[j].units)), .v (.int .i64 v.2)]))]) (row_sameM rfl) ?_
        have HS := set_dzS O1 i ((meantA a (validR l)[k].source (validR l)[k].lines[j].title), (validR l)[k].period) v (validR l)[k].lines[j].units (validR l)[k].lines[j].money
        have hL1 : ((O1.map dzS).set i [.v (.int .i64 (meantA a (validR l)[k].source (validR l)[k].lines[j].title)), .v (.int .i64 (validR l)[k].period), .v (.int .i64 (v.1 + (validR l)[k].lines[j].units)), .v (.int .i64 v.2)])[i]? = some [.v (.int .i64 (meantA a (validR l)[k].source (validR l)[k].lines[j].title)), .v (.int .i64 (validR l)[k].period), .v (.int .i64 (v.1 + (validR l)[k].lines[j].units)), .v (.int .i64 v.2)] := List.getElem?_set_self (by rw [List.length_map]; omega)
        refine AWP.drawG (fun k => (Nat.beq k 10) || (Nat.beq k 2 || Nat.beq k 4 || Nat.beq k 8)) (fun k => Nat.beq k 10) (fun k h => Bool.or_eq_true_iff.2 (.inl h)) (by kernel_rfl) (by kernel_rfl) (by kernel_rfl) ?_
        refine GRun.step rfl rfl rfl (fun _ => AOp.moveO rfl rfl) ?_
        refine GRun.step rfl rfl rfl (fun _ => AOp.moveD rfl rfl) ?_
        refine GRun.stepS rfl rfl rfl rfl (AOp.indexOwn rfl et_24 rfl rfl (.head _) i rfl (by rw [List.length_set, List.length_map]; omega)) ?_
        refine GRun.step rfl rfl rfl (fun _ => AOp.fieldAddrP rfl fo_31_3 rfl) ?_
        refine GRun.stepS rfl rfl rfl rfl (AOp.loadRow rfl sc_3 rfl (.head _) i 3 rfl hL1 rfl) ?_
        refine GRun.step rfl rfl rfl (fun _ => AOp.fieldAddr rfl fo_134_2 rfl) ?_
        refine GRun.step rfl rfl rfl (fun _ => AOp.load rfl sc_3 rfl) ?_
        refine GRun.step rfl rfl rfl (fun _ => AOp.add64 rfl rfl rfl (by omega) (by omega)) ?_
        refine GRun.stepS rfl rfl rfl rfl (AOp.indexOwn rfl et_24 rfl rfl (.head _) i rfl (by rw [List.length_set, List.length_map]; omega)) ?_
        refine GRun.step rfl rfl rfl (fun _ => AOp.fieldAddrP rfl fo_31_3 rfl) ?_
        refine GRun.eff rfl rfl rfl (EOp.storeRow rfl rfl sz_3 rfl (.head _) rfl rfl rfl i 3 rfl hL1 (Nat.le_of_ble_eq_true rfl)) ?_
        refine GRun.nil ?_
        refine AWP.region ?_
        refine AOps.step rfl rfl rfl (AOp.add64 rfl rfl rfl (by omega) (by omega)) ?_
        refine AOps.mD rfl rfl rfl rfl rfl (.nil ?_)
        refine ⟨j + 1, (by dsimp only; omega), (by dsimp only; omega), Sub.less ⟨(SLe.of_eq rfl), SLe.refl _, SLe.refl _, SLe.refl _, SLe.refl _, SLe.refl _, SLe.refl _, SLe.refl _, SLe.refl _, trivial⟩ (row_sameM (by first | (rw [← HF]; exact HS) | (rw [HN])))⟩
      replace g13 := of_decide_eq_false g13
      rw [List.length_map] at g13; exfalso; omega
    replace h2 := of_decide_eq_false h2
    rw [List.length_map] at h2
    obtain rfl : j = (validR l)[k].lines.length := by omega
    have HE := oS_end a hlt
    refine AWP.exit ?_
    refine AWP.region ?_
    refine AOps.step rfl rfl rfl (AOp.add64 rfl rfl rfl (by omega) (by omega)) ?_
    refine AOps.mD rfl rfl rfl rfl rfl (.nil ?_)
    refine ⟨k + 1, (by omega), (by dsimp only; omega), Sub.less ⟨(SLe.of_eq rfl), SLe.refl _, SLe.refl _, SLe.refl _, SLe.refl _, trivial⟩ (row_sameM (by rw [HE]))⟩
  replace h1 := of_decide_eq_false h1
  rw [List.length_map] at h1
  obtain rfl : k = (validR l).length := by omega
  rw [List.take_length, ← dz_map_S]
  refine AWP.exit ?_
  refine AWP.seq (AWP.region ?_)
  refine AOps.step rfl rfl rfl (AOp.moveO rfl rfl) ?_
  refine AOps.step rfl rfl rfl (AOp.assignO rfl rfl) (.nil ?_)
  refine AWP.ret ?_
  refine ⟨RetD.own rfl (.head _) ?_, trivial⟩
  all_goals (rfl)

end Go.Proofs.YtekenfknoakboaaGreatDoor


namespace Go.Proofs.YtekenfknoakboaaGreatDoor
open Go.RowKit
set_option linter.unusedVariables false

/-! Types. -/
namespace TyO8
theorem ag_127 : AggT Tryz.prog 127 5 := .of (by kernel_rfl)
theorem ag_134 : AggT Tryz.prog 134 3 := .of (by kernel_rfl)
theorem ag_37 : AggT Tryz.prog 37 5 := .of (by kernel_rfl)
theorem bu_37 : StructT Tryz.prog 37 (fun i => (#[(0, 1), (1, 1), (2, 1), (3, 1), (4, 1)] : Array (Nat × Nat))[i]?) [(.string ⟨#[]⟩), (.string ⟨#[]⟩), (.int .i64 0), (.int .i64 0), (.int .i64 0)] := .of (by kernel_rfl) (by kernel_rfl) (by decide)
theorem et_125 : ElemTy Tryz.prog 125 134 3 32 (.agg #[(.string ⟨#[]⟩), (.int .i64 0), (.int .i64 0)]) := ⟨by kernel_rfl, by kernel_rfl, by kernel_rfl, by decide⟩
theorem et_22 : ElemTy Tryz.prog 22 127 5 64 (.agg #[(.string ⟨#[]⟩), (.int .i64 0), (.int .i64 0), (.int .i64 0), (.slice none 0 0)]) := ⟨by kernel_rfl, by kernel_rfl, by kernel_rfl, by decide⟩
theorem et_32 : ElemTy Tryz.prog 32 37 5 56 (.agg #[(.string ⟨#[]⟩), (.string ⟨#[]⟩), (.int .i64 0), (.int .i64 0), (.int .i64 0)]) := ⟨by kernel_rfl, by kernel_rfl, by kernel_rfl, by decide⟩
theorem fo_127_0 : fieldOff Tryz.prog 127 0 = some 0 := by kernel_rfl
theorem fo_127_2 : fieldOff Tryz.prog 127 2 = some 2 := by kernel_rfl
theorem fo_127_4 : fieldOff Tryz.prog 127 4 = some 4 := by kernel_rfl
theorem fo_134_0 : fieldOff Tryz.prog 134 0 = some 0 := by kernel_rfl
theorem fo_134_1 : fieldOff Tryz.prog 134 1 = some 1 := by kernel_rfl
theorem fo_134_2 : fieldOff Tryz.prog 134 2 = some 2 := by kernel_rfl
theorem fo_37_0 : fieldOff Tryz.prog 37 0 = some 0 := by kernel_rfl
theorem fo_37_1 : fieldOff Tryz.prog 37 1 = some 1 := by kernel_rfl
theorem fo_37_2 : fieldOff Tryz.prog 37 2 = some 2 := by kernel_rfl
theorem fo_37_3 : fieldOff Tryz.prog 37 3 = some 3 := by kernel_rfl
theorem fo_37_4 : fieldOff Tryz.prog 37 4 = some 4 := by kernel_rfl
theorem sc_125 : Scal Tryz.prog 125 := .of (by kernel_rfl)
theorem sc_3 : Scal Tryz.prog 3 := .of (by kernel_rfl)
theorem sc_9 : Scal Tryz.prog 9 := .of (by kernel_rfl)
theorem sz_127 : ∀ w, (sizeOf 127).run Tryz.prog w = .ok 5 w := SizeT.of (by kernel_rfl)
theorem sz_134 : ∀ w, (sizeOf 134).run Tryz.prog w = .ok 3 w := SizeT.of (by kernel_rfl)
theorem sz_3 : ∀ w, (sizeOf 3).run Tryz.prog w = .ok 1 w := SizeT.of (by kernel_rfl)
theorem sz_37 : ∀ w, (sizeOf 37).run Tryz.prog w = .ok 5 w := SizeT.of (by kernel_rfl)
theorem zt_127 : (Tryz.prog.info? 127).bind (·.zero) = some (.agg #[(.string ⟨#[]⟩), (.int .i64 0), (.int .i64 0), (.int .i64 0), (.slice none 0 0)]) := by kernel_rfl
theorem zt_134 : (Tryz.prog.info? 134).bind (·.zero) = some (.agg #[(.string ⟨#[]⟩), (.int .i64 0), (.int .i64 0)]) := by kernel_rfl
theorem zt_37 : (Tryz.prog.info? 37).bind (·.zero) = some (.agg #[(.string ⟨#[]⟩), (.string ⟨#[]⟩), (.int .i64 0), (.int .i64 0), (.int .i64 0)]) := by kernel_rfl
end TyO8
open TyO8


open Go.Sort Go.Lib
def ordU (x y : Unk) : Int := if strCmp x.source y.source ≠ 0 then strCmp x.source y.source else if strCmp x.title y.title ≠ 0 then strCmp x.title y.title else x.per - y.per
theorem ordU_zero {x y : Unk} : ordU x y = 0 ↔ x.key = y.key := by
  unfold ordU Unk.key
  by_cases h : strCmp x.source y.source = 0
  · rw [if_neg (by simpa using h)]
    have e1 := strCmp_zero.1 h
    by_cases h2 : strCmp x.title y.title = 0
    · rw [if_neg (by simpa using h2)]
      have e2 := strCmp_zero.1 h2
      simp only [e1, e2, Prod.mk.injEq, true_and]
      omega
    · rw [if_pos (by simpa using h2)]
      have e2 : ¬ x.title = y.title := fun e => h2 (strCmp_zero.2 e)
      simp [h2, e2]
  · rw [if_pos (by simpa using h)]
    have e1 : ¬ x.source = y.source := fun e => h (strCmp_zero.2 e)
    simp [h, e1]
theorem ordU_lt {x y : Unk} : ordU x y < 0 ↔ ltU x.key y.key = true := by
  unfold ordU Unk.key ltU
  rw [lexL_iff, lexL_iff]
  unfold ltB ltI2
  dsimp only
  simp only [decide_eq_true_eq]
  by_cases h : strCmp x.source y.source = 0
  · rw [if_neg (by simpa using h)]
    have e1 := strCmp_zero.1 h
    by_cases h2 : strCmp x.title y.title = 0
    · rw [if_neg (by simpa using h2)]
      have e2 := strCmp_zero.1 h2
      have e0 : strCmp y.source y.source = 0 := strCmp_zero.2 rfl
      have e3 : strCmp y.title y.title = 0 := strCmp_zero.2 rfl
      simp only [e1, e2, e0, e3, true_and]
      omega
    · rw [if_pos (by simpa using h2)]
      have e2 : ¬ x.title = y.title := fun e => h2 (strCmp_zero.2 e)
      have e0 : strCmp y.source y.source = 0 := strCmp_zero.2 rfl
      simp [e1, e2, e0]
  · rw [if_pos (by simpa using h)]
    have e1 : ¬ x.source = y.source := fun e => h (strCmp_zero.2 e)
    simp [e1]
theorem ord_Uk {a : List Ali} (ha : Als a) {V : List Rpt} (hV : ∀ x ∈ V, RpO x) {k j : Nat} (hk : k < V.length) (hj : j ≤ V[k].lines.length) : ∀ p ∈ oU a (V.take k) V[k] j, 0 ≤ p.1.2.2 ∧ p.1.2.2 ≤ 2400 := fun p hp => by
  have hI := inv_B ha (hV _ (List.getElem_mem hk)) (show 0 ≤ 100 * (k : Int) by omega) (inv_A ha hV k (by omega)) j hj
  rw [stB_fold] at hI
  exact (hI.k2 p ((fold_mem tot_U _ p).2 hp)).2.2


set_option maxRecDepth 100000 in
set_option maxHeartbeats 1000000 in
theorem c_ordU (x y : Unk) (hx : 0 ≤ x.per ∧ x.per ≤ 2400) (hy : 0 ≤ y.per ∧ y.per ≤ 2400) : ACall Tryz.prog 88 [.agg x.ds, .agg y.ds] (.v (.int .i64 (ordU x y))) := by
  refine acall_of (n := 28) (ds' := [.v (.int .i64 (ordU x y))]) Tryz.func88 rfl (by kernel_rfl) rfl [4] rfl rfl ?_
  intro B w0 F0 fr
  refine AWP.seq (AWP.region ?_)
  refine AOps.step rfl rfl rfl (AOp.box rfl rfl rfl) ?_
  refine AOps.step rfl rfl rfl (AOp.box rfl rfl rfl) ?_
  refine AOps.aD rfl rfl rfl rfl rfl (.nil ?_)
  refine AWP.seq ?_
  refine AWP.seq (AWP.region ?_)
  refine AOps.step rfl rfl rfl (AOp.fieldAddr rfl fo_37_0 rfl) ?_
  refine AOps.step rfl rfl rfl (AOp.load rfl sc_9 rfl) ?_
  refine AOps.step rfl rfl rfl (AOp.fieldAddr rfl fo_37_0 rfl) ?_
  refine AOps.step rfl rfl rfl (AOp.load rfl sc_9 rfl) ?_
  refine AOps.step rfl rfl rfl (AOp.call rfl (.cons (ArgOk.rfl' rfl) (.cons (ArgOk.rfl' rfl) .nil)) (c_strCmp _ _)) ?_
  refine AOps.aD rfl rfl rfl rfl rfl (.nil ?_)
  refine AWP.seq (AWP.region ?_)
  refine AOps.mD rfl rfl rfl rfl rfl ?_
  refine AOps.step rfl rfl rfl (AOp.neq rfl rfl rfl) (.nil ?_)
  refine AWP.cond rfl (fun h1 => ?_) (fun h1 => ?_)
  · replace h1 := of_decide_eq_true h1
    rw [show ordU x y = strCmp x.source y.source from if_pos h1]
    refine AWP.seq (AWP.region ?_)
    refine AOps.mD rfl rfl rfl rfl rfl ?_
    refine AOps.aD rfl rfl rfl rfl rfl (.nil ?_)
    refine AWP.ret ?_
    refine ⟨RetD.eq rfl ?_, trivial⟩
    all_goals (rfl)
  replace h1 := of_decide_eq_false h1
  have h13 := h1
  refine AWP.skip ?_
  refine AWP.seq ?_
  refine AWP.seq (AWP.region ?_)
  refine AOps.step rfl rfl rfl (AOp.fieldAddr rfl fo_37_1 rfl) ?_
  refine AOps.step rfl rfl rfl (AOp.load rfl sc_9 rfl) ?_
  refine AOps.step rfl rfl rfl (AOp.fieldAddr rfl fo_37_1 rfl) ?_
  refine AOps.step rfl rfl rfl (AOp.load rfl sc_9 rfl) ?_
  refine AOps.step rfl rfl rfl (AOp.call rfl (.cons (ArgOk.rfl' rfl) (.cons (ArgOk.rfl' rfl) .nil)) (c_strCmp _ _)) ?_
  refine AOps.aD rfl rfl rfl rfl rfl (.nil ?_)
  refine AWP.seq (AWP.region ?_)
  refine AOps.mD rfl rfl rfl rfl rfl ?_
  refine AOps.step rfl rfl rfl (AOp.neq rfl rfl rfl) (.nil ?_)
  refine AWP.cond rfl (fun h2 => ?_) (fun h2 => ?_)
  · replace h2 := of_decide_eq_true h2
    rw [show ordU x y = strCmp x.title y.title from (if_neg h13).trans (if_pos h2)]
    refine AWP.seq (AWP.region ?_)
    refine AOps.mD rfl rfl rfl rfl rfl ?_
    refine AOps.aD rfl rfl rfl rfl rfl (.nil ?_)
    refine AWP.ret ?_
    refine ⟨RetD.eq rfl ?_, trivial⟩
    all_goals (rfl)
  replace h2 := of_decide_eq_false h2
  rw [show ordU x y = x.per - y.per from (if_neg h13).trans (if_neg h2)]
  refine AWP.skip ?_
  refine AWP.seq (AWP.region ?_)
  refine AOps.step rfl rfl rfl (AOp.fieldAddr rfl fo_37_2 rfl) ?_
  refine AOps.step rfl rfl rfl (AOp.load rfl sc_3 rfl) ?_
  refine AOps.step rfl rfl rfl (AOp.fieldAddr rfl fo_37_2 rfl) ?_
  refine AOps.step rfl rfl rfl (AOp.load rfl sc_3 rfl) ?_
  refine AOps.step rfl rfl rfl (AOp.sub64 rfl rfl rfl (by omega) (by omega)) ?_
  refine AOps.aD rfl rfl rfl rfl rfl (.nil ?_)
  refine AWP.ret ?_
  refine ⟨RetD.eq rfl ?_, trivial⟩
  all_goals (rfl)

set_option maxRecDepth 100000 in
set_option maxHeartbeats 8000000 in
theorem c_rUnk (l : List Rpt) (a : List Ali) (hl : Log l) (ho : ∀ x ∈ l, okRpt x) (ha : Als a) : ACall Tryz.prog 42 [.sl (l.map Rpt.ds), .sl (a.map Ali.ds)] (.sl ((unkR a (validR l)).map Unk.ds)) := by
  refine acall_of (n := 96) (ds' := [.sl ((unkR a (validR l)).map Unk.ds)]) Tryz.func42 rfl (by kernel_rfl) rfl [4] rfl rfl ?_
  intro B w0 F0 fr
  have hll := hl.len
  have hvl : (validR l).length ≤ l.length := List.length_filter_le _ _
  have hV : ∀ x ∈ (validR l), RpO x := fun x hx => rpO (hl.ok x (List.mem_filter.1 hx).1) (ho x (List.mem_filter.1 hx).1)
  have hal := ha.len
  refine AWP.seq (AWP.region ?_)
  refine AOps.aD rfl rfl rfl rfl rfl (.nil ?_)
  refine AWP.seq (AWP.region ?_)
  refine AOps.aD rfl rfl rfl rfl rfl (.nil ?_)
  refine AWP.seq ?_
  refine AWP.seq (AWP.region ?_)
  refine AOps.mD rfl rfl rfl rfl rfl ?_
  refine AOps.step rfl rfl rfl (AOp.call rfl (.cons (ArgOk.rfl' rfl) .nil) (c_rVal l hll)) ?_
  rw [out_eq hl]
  refine AOps.step rfl rfl rfl (AOp.lenSl rfl et_22.ht rfl) ?_
  refine AOps.mD rfl rfl rfl rfl rfl (.nil ?_)
  refine AWP.block ?_
  refine AWP.adopt 5 61 37 5 rfl rfl ?_
  refine AWP.loop (G := Nat) (fun k => Env.of [(15, .d (.v (.int .i64 (k : Int)))), (13, .d (.sl ((validR l).map Rpt.ds))), (14, .d (.v (.int .i64 (((validR l).map Rpt.ds).length : Int)))), (1, .d (.sl (a.map Ali.ds))), (5, .own 61)]) (fun k => [(61, .row 37 5 ((foldO ltU addU (opA a ((validR l).take k))).map dzU))]) (fun k => k ≤ (validR l).length) (fun k => (validR l).length - k) 0 (Nat.zero_le _) (Sub.less ⟨(SLe.of_eq rfl), SLe.refl _, SLe.refl _, SLe.refl _, SLe.refl _, trivial⟩ (row_sameM rfl)) ?_
  intro k hk
  refine AWP.seq (AWP.region ?_)
  refine AOps.step rfl rfl rfl (AOp.lss rfl rfl rfl) (.nil ?_)
  refine AWP.seq ?_
  refine AWP.cond rfl (fun h1 => ?_) (fun h1 => ?_)
  · replace h1 := of_decide_eq_true h1
    rw [List.length_map] at h1
    have hlt : k < (validR l).length := by omega
    have hx := hV _ (List.getElem_mem hlt)
    have hxl := hx.len
    refine AWP.skip ?_
    refine AWP.seq ?_
    refine AWP.block ?_
    refine AWP.seq (AWP.region ?_)
    refine AOps.step rfl rfl rfl (AOp.indexAddr rfl et_22 rfl rfl k rfl (at_lst hlt) rfl) ?_
    refine AOps.step rfl rfl rfl (AOp.loadAgg rfl ag_127 rfl rfl) ?_
    refine AOps.alloc 101 rfl rfl rfl rfl zt_127 rfl rfl rfl ?_
    refine AOps.store rfl rfl rfl sz_127 rfl (.head _) rfl rfl rfl (Nat.le_of_ble_eq_true rfl) ?_
    refine AOps.freezeCells 7 (ds := (validR l)[k].ds) rfl (.head _) (.nil ?_)
    refine AWP.seq (AWP.region ?_)
    refine AOps.step rfl rfl rfl (AOp.fieldAddr rfl fo_127_4 rfl) ?_
    refine AOps.step rfl rfl rfl (AOp.load rfl sc_125 rfl) ?_
    refine AOps.step rfl rfl rfl (AOp.lenSl rfl et_125.ht rfl) ?_
    refine AOps.mD rfl rfl rfl rfl rfl (.nil ?_)
    refine AWP.block ?_
    refine AWP.loop (G := Nat) (fun j => Env.of [(22, .d (.v (.int .i64 (j : Int)))), (20, .d (.sl ((validR l)[k].lines.map Usd.ds))), (21, .d (.v (.int .i64 (((validR l)[k].lines.map Usd.ds).length : Int)))), (7, .d (.fp (validR l)[k].ds)), (15, .d (.v (.int .i64 (k : Int)))), (13, .d (.sl ((validR l).map Rpt.ds))), (14, .d (.v (.int .i64 (((validR l).map Rpt.ds).length : Int)))), (1, .d (.sl (a.map Ali.ds))), (5, .own 61)]) (fun j => [(61, .row 37 5 ((oU a ((validR l).take k) (validR l)[k] j).map dzU))]) (fun j => j ≤ (validR l)[k].lines.length) (fun j => (validR l)[k].lines.length - j) 0 (Nat.zero_le _) (Sub.less ⟨(SLe.of_eq rfl), SLe.refl _, SLe.refl _, SLe.refl _, SLe.refl _, SLe.refl _, SLe.refl _, SLe.refl _, SLe.refl _, trivial⟩ (row_sameM (by rw [oU_0]))) ?_
    intro j hj
    refine AWP.seq (AWP.region ?_)
    refine AOps.step rfl rfl rfl (AOp.lss rfl rfl rfl) (.nil ?_)
    refine AWP.seq ?_
    refine AWP.cond rfl (fun h2 => ?_) (fun h2 => ?_)
    · replace h2 := of_decide_eq_true h2
      rw [List.length_map] at h2
      have hjl : j < (validR l)[k].lines.length := by omega
      have hu := hx.use _ (List.getElem_mem hjl)
      have hO := ord_U ha hV hlt (by omega) (Nat.le_of_lt hjl)
      have hOl := hO.len
      refine AWP.skip ?_
      refine AWP.seq ?_
      refine AWP.block ?_
      refine AWP.seq (AWP.region ?_)
      refine AOps.step rfl rfl rfl (AOp.indexAddr rfl et_125 rfl rfl j rfl (at_lst hjl) rfl) ?_
      refine AOps.step rfl rfl rfl (AOp.loadAgg rfl ag_134 rfl rfl) ?_
      refine AOps.alloc 102 rfl rfl rfl rfl zt_134 rfl rfl rfl ?_
      refine AOps.store rfl rfl rfl sz_134 rfl (.head _) rfl rfl rfl (Nat.le_of_ble_eq_true rfl) ?_
      refine AOps.freezeCells 9 (ds := (validR l)[k].lines[j].ds) rfl (.head _) (.nil ?_)
      refine AWP.seq ?_
      refine AWP.seq (AWP.region ?_)
      refine AOps.mD rfl rfl rfl rfl rfl ?_
      refine AOps.step rfl rfl rfl (AOp.fieldAddr rfl fo_127_0 rfl) ?_
      refine AOps.step rfl rfl rfl (AOp.load rfl sc_9 rfl) ?_
      refine AOps.step rfl rfl rfl (AOp.fieldAddr rfl fo_134_0 rfl) ?_
      refine AOps.step rfl rfl rfl (AOp.load rfl sc_9 rfl) ?_
      refine AOps.step rfl rfl rfl (AOp.call rfl (.cons (ArgOk.rfl' rfl) (.cons (ArgOk.rfl' rfl) (.cons (ArgOk.rfl' rfl) .nil))) (c_meant _ _ _ hal)) ?_
      refine AOps.step rfl rfl rfl (AOp.neq rfl rfl rfl) (.nil ?_)
      refine AWP.cond rfl (fun h3 => ?_) (fun h3 => ?_)
      · replace h3 := of_decide_eq_true h3
        have HN := oU_no (a := a) (l := (validR l).take k) hjl h3
        refine AWP.exit ?_
        refine AWP.region ?_
        refine AOps.step rfl rfl rfl (AOp.add64 rfl rfl rfl (by omega) (by omega)) ?_
        refine AOps.mD rfl rfl rfl rfl rfl (.nil ?_)
        refine ⟨j + 1, (by dsimp only; omega), (by dsimp only; omega), Sub.less ⟨(SLe.of_eq rfl), SLe.refl _, SLe.refl _, SLe.refl _, SLe.refl _, SLe.refl _, SLe.refl _, SLe.refl _, SLe.refl _, trivial⟩ (row_sameM (by first | (rw [← HF]; exact HS) | (rw [HN])))⟩
      replace h3 := of_decide_eq_false h3
      have HN := oU_yes (a := a) (l := (validR l).take k) hjl (Decidable.not_not.1 h3)
      refine AWP.skip ?_
      refine AWP.seq (AWP.region ?_)
      refine AOps.step rfl rfl rfl (AOp.fieldAddr rfl fo_127_0 rfl) ?_
      refine AOps.step rfl rfl rfl (AOp.load rfl sc_9 rfl) ?_
      refine AOps.step rfl rfl rfl (AOp.fieldAddr rfl fo_134_0 rfl) ?_
      refine AOps.step rfl rfl rfl (AOp.load rfl sc_9 rfl) ?_
      refine AOps.step rfl rfl rfl (AOp.fieldAddr rfl fo_127_2 rfl) ?_
      refine AOps.step rfl rfl rfl (AOp.load rfl sc_3 rfl) ?_
      refine AOps.step rfl rfl rfl (AOp.build rfl bu_37 (.cons rfl rfl (.cons rfl rfl (.cons rfl rfl .nil))) rfl) ?_
      refine AOps.alloc 103 rfl rfl rfl rfl zt_37 rfl rfl rfl ?_
      refine AOps.store rfl rfl rfl sz_37 rfl (.head _) rfl rfl rfl (Nat.le_of_ble_eq_true rfl) ?_
      refine AOps.freezeCells 10 (ds := (toU (((validR l)[k].source, (validR l)[k].lines[j].title, (validR l)[k].period), (0, 0))).ds) rfl (.head _) (.nil ?_)
      refine AWP.seq (AWP.region ?_)
      refine AOps.aD rfl rfl rfl rfl rfl (.nil ?_)
      refine AWP.seq ?_
      refine AWP.block ?_
      refine AWP.loop (G := Nat) (fun i => Env.of [(11, .d (.v (.int .i64 (i : Int)))), (10, .d (.fp (toU (((validR l)[k].source, (validR l)[k].lines[j].title, (validR l)[k].period), (0, 0))).ds)), (9, .d (.fp (validR l)[k].lines[j].ds)), (22, .d (.v (.int .i64 (j : Int)))), (20, .d (.sl ((validR l)[k].lines.map Usd.ds))), (21, .d (.v (.int .i64 (((validR l)[k].lines.map Usd.ds).length : Int)))), (7, .d (.fp (validR l)[k].ds)), (15, .d (.v (.int .i64 (k : Int)))), (13, .d (.sl ((validR l).map Rpt.ds))), (14, .d (.v (.int .i64 (((validR l).map Rpt.ds).length : Int)))), (1, .d (.sl (a.map Ali.ds))), (5, .own 61)]) (fun i => [(61, .row 37 5 ((oU a ((validR l).take k) (validR l)[k] j).map dzU))]) (fun i => i ≤ (oU a ((validR l).take k) (validR l)[k] j).length ∧ ∀ o ∈ (oU a ((validR l).take k) (validR l)[k] j).take i, ltU o.1 ((validR l)[k].source, (validR l)[k].lines[j].title, (validR l)[k].period) = true) (fun i => (oU a ((validR l).take k) (validR l)[k] j).length - i) 0 ⟨Nat.zero_le _, fun o h => by simp at h⟩ (Sub.less ⟨(SLe.of_eq rfl), SLe.refl _, SLe.refl _, SLe.refl _, SLe.refl _, SLe.refl _, SLe.refl _, SLe.refl _, SLe.refl _, SLe.refl _, SLe.refl _, SLe.refl _, trivial⟩ (row_sameM rfl)) ?_
      intro i hi
      refine AWP.seq ?_
      refine AWP.seq ?_
      refine AWP.draw (by kernel_rfl) (by kernel_rfl) ?_
      refine DRun.step rfl rfl rfl (AOp.moveD rfl rfl) ?_
      refine DRun.step rfl rfl rfl (AOp.moveO rfl rfl) ?_
      refine DRun.step rfl rfl rfl (AOp.lenOwn rfl et_32.ht rfl (.head _)) ?_
      refine DRun.step rfl rfl rfl (AOp.lss rfl rfl rfl) ?_
      refine DRun.step rfl rfl rfl (AOp.moveD rfl rfl) ?_
      refine DRun.split 44 rfl (fun g4 => ?_) (fun g4 => ?_)
      · replace g4 := of_decide_eq_true g4
        rw [List.length_map] at g4
        have hil : i < (oU a ((validR l).take k) (validR l)[k] j).length := by omega
        refine DRun.step ⟨44, rfl, .inl ⟨_, rfl, rfl⟩⟩ rfl rfl (AOp.moveO rfl rfl) ?_
        refine DRun.step ⟨44, rfl, .inl ⟨_, rfl, rfl⟩⟩ rfl rfl (AOp.moveD rfl rfl) ?_
        refine DRun.step ⟨44, rfl, .inl ⟨_, rfl, rfl⟩⟩ rfl rfl (AOp.indexOwn rfl et_32 rfl rfl (.head _) i rfl (by rw [List.length_map]; omega)) ?_
        refine DRun.step ⟨44, rfl, .inl ⟨_, rfl, rfl⟩⟩ rfl rfl (AOp.loadRowAgg rfl ag_37 rfl (.head _) i rfl (at_lst hil)) ?_
        refine DRun.step ⟨44, rfl, .inl ⟨_, rfl, rfl⟩⟩ rfl rfl (AOp.loadAgg rfl ag_37 rfl rfl) ?_
        refine DRun.step ⟨44, rfl, .inl ⟨_, rfl, rfl⟩⟩ rfl rfl (AOp.call rfl (.cons (ArgOk.rfl' rfl) (.cons (ArgOk.rfl' rfl) .nil)) (c_ordU (toU (oU a ((validR l).take k) (validR l)[k] j)[i]) (toU (((validR l)[k].source, (validR l)[k].lines[j].title, (validR l)[k].period), (0, 0))) (ord_Uk ha hV hlt (Nat.le_of_lt hjl) _ (List.getElem_mem hil)) hx.per)) ?_
        refine DRun.step ⟨44, rfl, .inl ⟨_, rfl, rfl⟩⟩ rfl rfl (AOp.lss rfl rfl rfl) ?_
        refine DRun.step rfl rfl rfl (AOp.pickT rfl rfl rfl) ?_
        refine DRun.nil ?_
        refine AWP.cond rfl (fun h5 => ?_) (fun h5 => ?_)
        · replace h5 := of_decide_eq_true h5
          have HT := take_lt hil hi.2 ((ordU_lt (x := toU (oU a ((validR l).take k) (validR l)[k] j)[i]) (y := (toU (((validR l)[k].source, (validR l)[k].lines[j].title, (validR l)[k].period), (0, 0))))).1 h5)
          refine AWP.skip ?_
          refine AWP.block ?_
          refine AWP.region ?_
          refine AOps.mD rfl rfl rfl rfl rfl ?_
          refine AOps.step rfl rfl rfl (AOp.add64 rfl rfl rfl (by omega) (by omega)) ?_
          refine AOps.aD rfl rfl rfl rfl rfl (.nil ?_)
          refine ⟨i + 1, ⟨by omega, HT⟩, (by dsimp only; omega), Sub.less ⟨(SLe.of_eq rfl), SLe.refl _, SLe.refl _, SLe.refl _, SLe.refl _, SLe.refl _, SLe.refl _, SLe.refl _, SLe.refl _, SLe.refl _, SLe.refl _, SLe.refl _, trivial⟩ (row_sameM rfl)⟩
        replace h5 := of_decide_eq_false h5
        have HNL : ltU (oU a ((validR l).take k) (validR l)[k] j)[i].1 ((validR l)[k].source, (validR l)[k].lines[j].title, (validR l)[k].period) = false := by
          cases hh : ltU (oU a ((validR l).take k) (validR l)[k] j)[i].1 ((validR l)[k].source, (validR l)[k].lines[j].title, (validR l)[k].period) with
          | false => rfl
          | true => exact absurd ((ordU_lt (x := toU (oU a ((validR l).take k) (validR l)[k] j)[i]) (y := (toU (((validR l)[k].source, (validR l)[k].lines[j].title, (validR l)[k].period), (0, 0))))).2 hh) h5
        refine AWP.exit ?_
        refine AWP.seq ?_
        refine AWP.seq ?_
        refine AWP.draw (by kernel_rfl) (by kernel_rfl) ?_
        refine DRun.step rfl rfl rfl (AOp.moveD rfl rfl) ?_
        refine DRun.step rfl rfl rfl (AOp.moveO rfl rfl) ?_
        refine DRun.step rfl rfl rfl (AOp.lenOwn rfl et_32.ht rfl (.head _)) ?_
        refine DRun.step rfl rfl rfl (AOp.eql rfl rfl rfl) ?_
        refine DRun.step rfl rfl rfl (AOp.moveD rfl rfl) ?_
        refine DRun.split 59 rfl (fun g6 => ?_) (fun g6 => ?_)
        · replace g6 := of_decide_eq_true g6
          rw [List.length_map] at g6; exfalso; omega
        replace g6 := of_decide_eq_false g6
        skip
        refine DRun.step ⟨59, rfl, .inl ⟨_, rfl, rfl⟩⟩ rfl rfl (AOp.moveO rfl rfl) ?_
        refine DRun.step ⟨59, rfl, .inl ⟨_, rfl, rfl⟩⟩ rfl rfl (AOp.moveD rfl rfl) ?_
        refine DRun.step ⟨59, rfl, .inl ⟨_, rfl, rfl⟩⟩ rfl rfl (AOp.indexOwn rfl et_32 rfl rfl (.head _) i rfl (by rw [List.length_map]; omega)) ?_
        refine DRun.step ⟨59, rfl, .inl ⟨_, rfl, rfl⟩⟩ rfl rfl (AOp.loadRowAgg rfl ag_37 rfl (.head _) i rfl (at_lst hil)) ?_
        refine DRun.step ⟨59, rfl, .inl ⟨_, rfl, rfl⟩⟩ rfl rfl (AOp.loadAgg rfl ag_37 rfl rfl) ?_
        refine DRun.step ⟨59, rfl, .inl ⟨_, rfl, rfl⟩⟩ rfl rfl (AOp.call rfl (.cons (ArgOk.rfl' rfl) (.cons (ArgOk.rfl' rfl) .nil)) (c_ordU (toU (oU a ((validR l).take k) (validR l)[k] j)[i]) (toU (((validR l)[k].source, (validR l)[k].lines[j].title, (validR l)[k].period), (0, 0))) (ord_Uk ha hV hlt (Nat.le_of_lt hjl) _ (List.getElem_mem hil)) hx.per)) ?_
        refine DRun.step ⟨59, rfl, .inl ⟨_, rfl, rfl⟩⟩ rfl rfl (AOp.neq rfl rfl rfl) ?_
        refine DRun.step rfl rfl rfl (AOp.pickF rfl rfl rfl) ?_
        refine DRun.nil ?_
        refine AWP.cond rfl (fun h7 => ?_) (fun h7 => ?_)
        · replace h7 := of_decide_eq_true h7
          obtain ⟨O1, v, hW, hP⟩ := plc_ins (lt := ltU) (dz := dzU) (O := (oU a ((validR l).take k) (validR l)[k] j)) (k := ((validR l)[k].source, (validR l)[k].lines[j].title, (validR l)[k].period)) (i := i) hi.1 hi.2 (.inr ⟨hil, HNL, fun hh => h7 ((ordU_zero (x := toU (oU a ((validR l).take k) (validR l)[k] j)[i]) (y := (toU (((validR l)[k].source, (validR l)[k].lines[j].title, (validR l)[k].period), (0, 0))))).2 hh)⟩)
          have hb := plc_bnd hP hO
          have hPl := hP.len
          have hPp := hP.pos
          have HF := hP.fin (validR l)[k].lines[j].units (validR l)[k].lines[j].money
          rw [← HN] at HF
          have hv1 : (toU (((validR l)[k].source, (validR l)[k].lines[j].title, (validR l)[k].period), v)).units = v.1 := rfl
          have hv2 : (toU (((validR l)[k].source, (validR l)[k].lines[j].title, (validR l)[k].period), v)).money = v.2 := rfl
          refine AWP.region ?_
          refine AOps.step rfl rfl rfl (AOp.moveO rfl rfl) ?_
          refine AOps.mD rfl rfl rfl rfl rfl ?_
          refine AOps.step rfl rfl rfl (AOp.loadAgg rfl ag_37 rfl rfl) ?_
          refine AOps.buildS 171 rfl rfl rfl rfl et_32 rfl rfl rfl rfl rfl ?_
          -- inserts into 61
          refine AOps.insertK (id := 61) (idx := 171) (k := i) InsU.insT rfl rfl rfl rfl rfl (.tail _ (.head _)) rfl rfl (by rw [List.length_map]; exact hi.1) rfl (.head _) (by decide) (by rw [List.length_map]; omega) ?_
          refine AOps.step rfl rfl rfl (AOp.assignO rfl rfl) (.nil ?_)
          refine AWP.seq ?_
          refine AWP.obs (σ' := [(61, .row 37 5 (O1.map dzU))]) (row_sameM hW) ?_
          refine AWP.drawG (fun k => (Nat.beq k 10) || (Nat.beq k 2 || Nat.beq k 4 || Nat.beq k 8)) (fun k => Nat.beq k 10) (fun k h => Bool.or_eq_true_iff.2 (.inl h)) (by kernel_rfl) (by kernel_rfl) (by kernel_rfl) ?_
          refine GRun.step rfl rfl rfl (fun _ => AOp.moveO rfl rfl) ?_
          refine GRun.step rfl rfl rfl (fun _ => AOp.moveD rfl rfl) ?_
          refine GRun.stepS rfl rfl rfl rfl (AOp.indexOwn rfl et_32 rfl rfl (.head _) i rfl (by rw [List.length_map]; omega)) ?_
          refine GRun.step rfl rfl rfl (fun _ => AOp.fieldAddrP rfl fo_37_3 rfl) ?_
          refine GRun.stepS rfl rfl rfl rfl (AOp.loadRow rfl sc_3 rfl (.head _) i 3 rfl hP.at_ rfl) ?_
          refine GRun.step rfl rfl rfl (fun _ => AOp.fieldAddr rfl fo_134_1 rfl) ?_
          refine GRun.step rfl rfl rfl (fun _ => AOp.load rfl sc_3 rfl) ?_
          refine GRun.step rfl rfl rfl (fun _ => AOp.add64 rfl rfl rfl (by omega) (by omega)) ?_
          refine GRun.stepS rfl rfl rfl rfl (AOp.indexOwn rfl et_32 rfl rfl (.head _) i rfl (by rw [List.length_map]; omega)) ?_
          refine GRun.step rfl rfl rfl (fun _ => AOp.fieldAddrP rfl fo_37_3 rfl) ?_
          refine GRun.eff rfl rfl rfl (EOp.storeRow rfl rfl sz_3 rfl (.head _) rfl rfl rfl i 3 rfl hP.at_ (Nat.le_of_ble_eq_true rfl)) ?_
          refine GRun.nil ?_
          refine AWP.obs (σ' := [(61, .row 37 5 ((O1.map dzU).set i [.v (.string (validR l)[k].source), .v (.string (validR l)[k].lines[j].title), .v (.int .i64 (validR l)[k].period), .v (.int .i64 (v.1 + (validR l)[k].lines[j].units)), .v (.int .i64 v.2)]))]) (row_sameM rfl) ?_
          have HS := set_dzU O1 i ((validR l)[k].source, (validR l)[k].lines[j].title, (validR l)[k].period) v (validR l)[k].lines[j].units (validR l)[k].lines[j].money
          have hL1 : ((O1.map dzU).set i [.v (.string (validR l)[k].source), .v (.string (validR l)[k].lines[j].title), .v (.int .i64 (validR l)[k].period), .v (.int .i64 (v.1 + (validR l)[k].lines[j].units)), .v (.int .i64 v.2)])[i]? = some [.v (.string (validR l)[k].source), .v (.string (validR l)[k].lines[j].title), .v (.int .i64 (validR l)[k].period), .v (.int .i64 (v.1 + (validR l)[k].lines[j].units)), .v (.int .i64 v.2)] := List.getElem?_set_self (by rw [List.length_map]; omega)
          refine AWP.drawG (fun k => (Nat.beq k 10) || (Nat.beq k 2 || Nat.beq k 4 || Nat.beq k 8)) (fun k => Nat.beq k 10) (fun k h => Bool.or_eq_true_iff.2 (.inl h)) (by kernel_rfl) (by kernel_rfl) (by kernel_rfl) ?_
          refine GRun.step rfl rfl rfl (fun _ => AOp.moveO rfl rfl) ?_
          refine GRun.step rfl rfl rfl (fun _ => AOp.moveD rfl rfl) ?_
          refine GRun.stepS rfl rfl rfl rfl (AOp.indexOwn rfl et_32 rfl rfl (.head _) i rfl (by rw [List.length_set, List.length_map]; omega)) ?_
          refine GRun.step rfl rfl rfl (fun _ => AOp.fieldAddrP rfl fo_37_4 rfl) ?_
          refine GRun.stepS rfl rfl rfl rfl (AOp.loadRow rfl sc_3 rfl (.head _) i 4 rfl hL1 rfl) ?_
          refine GRun.step rfl rfl rfl (fun _ => AOp.fieldAddr rfl fo_134_2 rfl) ?_
          refine GRun.step rfl rfl rfl (fun _ => AOp.load rfl sc_3 rfl) ?_
          refine GRun.step rfl rfl rfl (fun _ => AOp.add64 rfl rfl rfl (by omega) (by omega)) ?_
          refine GRun.stepS rfl rfl rfl rfl (AOp.indexOwn rfl et_32 rfl rfl (.head _) i rfl (by rw [List.length_set, List.length_map]; omega)) ?_
          refine GRun.step rfl rfl rfl (fun _ => AOp.fieldAddrP rfl fo_37_4 rfl) ?_
          refine GRun.eff rfl rfl rfl (EOp.storeRow rfl rfl sz_3 rfl (.head _) rfl rfl rfl i 4 rfl hL1 (Nat.le_of_ble_eq_true rfl)) ?_
          refine GRun.nil ?_
          refine AWP.region ?_
          refine AOps.step rfl rfl rfl (AOp.add64 rfl rfl rfl (by omega) (by omega)) ?_
          refine AOps.mD rfl rfl rfl rfl rfl (.nil ?_)
          refine ⟨j + 1, (by dsimp only; omega), (by dsimp only; omega), Sub.less ⟨(SLe.of_eq rfl), SLe.refl _, SLe.refl _, SLe.refl _, SLe.refl _, SLe.refl _, SLe.refl _, SLe.refl _, SLe.refl _, trivial⟩ (row_sameM (by first | (rw [← HF]; exact HS) | (rw [HN])))⟩
        replace h7 := of_decide_eq_false h7
        obtain ⟨O1, v, hW, hP⟩ := plc_add (lt := ltU) (dz := dzU) hil hi.2 HNL ((ordU_zero (x := toU (oU a ((validR l).take k) (validR l)[k] j)[i]) (y := (toU (((validR l)[k].source, (validR l)[k].lines[j].title, (validR l)[k].period), (0, 0))))).1 (Decidable.not_not.1 h7))
        have hb := plc_bnd hP hO
        have hPl := hP.len
        have hPp := hP.pos
        have HF := hP.fin (validR l)[k].lines[j].units (validR l)[k].lines[j].money
        rw [← HN] at HF
        have hv1 : (toU (((validR l)[k].source, (validR l)[k].lines[j].title, (validR l)[k].period), v)).units = v.1 := rfl
        have hv2 : (toU (((validR l)[k].source, (validR l)[k].lines[j].title, (validR l)[k].period), v)).money = v.2 := rfl
        refine AWP.skip ?_
        refine AWP.seq ?_
        refine AWP.obs (σ' := [(61, .row 37 5 (O1.map dzU))]) (row_sameM hW) ?_
        refine AWP.drawG (fun k => (Nat.beq k 10) || (Nat.beq k 2 || Nat.beq k 4 || Nat.beq k 8)) (fun k => Nat.beq k 10) (fun k h => Bool.or_eq_true_iff.2 (.inl h)) (by kernel_rfl) (by kernel_rfl) (by kernel_rfl) ?_
        refine GRun.step rfl rfl rfl (fun _ => AOp.moveO rfl rfl) ?_
        refine GRun.step rfl rfl rfl (fun _ => AOp.moveD rfl rfl) ?_
        refine GRun.stepS rfl rfl rfl rfl (AOp.indexOwn rfl et_32 rfl rfl (.head _) i rfl (by rw [List.length_map]; omega)) ?_
        refine GRun.step rfl rfl rfl (fun _ => AOp.fieldAddrP rfl fo_37_3 rfl) ?_
        refine GRun.stepS rfl rfl rfl rfl (AOp.loadRow rfl sc_3 rfl (.head _) i 3 rfl hP.at_ rfl) ?_
        refine GRun.step rfl rfl rfl (fun _ => AOp.fieldAddr rfl fo_134_1 rfl) ?_
        refine GRun.step rfl rfl rfl (fun _ => AOp.load rfl sc_3 rfl) ?_
        refine GRun.step rfl rfl rfl (fun _ => AOp.add64 rfl rfl rfl (by omega) (by omega)) ?_
        refine GRun.stepS rfl rfl rfl rfl (AOp.indexOwn rfl et_32 rfl rfl (.head _) i rfl (by rw [List.length_map]; omega)) ?_
        refine GRun.step rfl rfl rfl (fun _ => AOp.fieldAddrP rfl fo_37_3 rfl) ?_
        refine GRun.eff rfl rfl rfl (EOp.storeRow rfl rfl sz_3 rfl (.head _) rfl rfl rfl i 3 rfl hP.at_ (Nat.le_of_ble_eq_true rfl)) ?_
        refine GRun.nil ?_
        refine AWP.obs (σ' := [(61, .row 37 5 ((O1.map dzU).set i [.v (.string (validR l)[k].source), .v (.string (validR l)[k].lines[j].title), .v (.int .i64 (validR l)[k].period), .v (.int .i64 (v.1 + (validR l)[k].lines[j].units)), .v (.int .i64 v.2)]))]) (row_sameM rfl) ?_
        have HS := set_dzU O1 i ((validR l)[k].source, (validR l)[k].lines[j].title, (validR l)[k].period) v (validR l)[k].lines[j].units (validR l)[k].lines[j].money
        have hL1 : ((O1.map dzU).set i [.v (.string (validR l)[k].source), .v (.string (validR l)[k].lines[j].title), .v (.int .i64 (validR l)[k].period), .v (.int .i64 (v.1 + (validR l)[k].lines[j].units)), .v (.int .i64 v.2)])[i]? = some [.v (.string (validR l)[k].source), .v (.string (validR l)[k].lines[j].title), .v (.int .i64 (validR l)[k].period), .v (.int .i64 (v.1 + (validR l)[k].lines[j].units)), .v (.int .i64 v.2)] := List.getElem?_set_self (by rw [List.length_map]; omega)
        refine AWP.drawG (fun k => (Nat.beq k 10) || (Nat.beq k 2 || Nat.beq k 4 || Nat.beq k 8)) (fun k => Nat.beq k 10) (fun k h => Bool.or_eq_true_iff.2 (.inl h)) (by kernel_rfl) (by kernel_rfl) (by kernel_rfl) ?_
        refine GRun.step rfl rfl rfl (fun _ => AOp.moveO rfl rfl) ?_
        refine GRun.step rfl rfl rfl (fun _ => AOp.moveD rfl rfl) ?_
        refine GRun.stepS rfl rfl rfl rfl (AOp.indexOwn rfl et_32 rfl rfl (.head _) i rfl (by rw [List.length_set, List.length_map]; omega)) ?_
        refine GRun.step rfl rfl rfl (fun _ => AOp.fieldAddrP rfl fo_37_4 rfl) ?_
        refine GRun.stepS rfl rfl rfl rfl (AOp.loadRow rfl sc_3 rfl (.head _) i 4 rfl hL1 rfl) ?_
        refine GRun.step rfl rfl rfl (fun _ => AOp.fieldAddr rfl fo_134_2 rfl) ?_
        refine GRun.step rfl rfl rfl (fun _ => AOp.load rfl sc_3 rfl) ?_
        refine GRun.step rfl rfl rfl (fun _ => AOp.add64 rfl rfl rfl (by omega) (by omega)) ?_
        refine GRun.stepS rfl rfl rfl rfl (AOp.indexOwn rfl et_32 rfl rfl (.head _) i rfl (by rw [List.length_set, List.length_map]; omega)) ?_
        refine GRun.step rfl rfl rfl (fun _ => AOp.fieldAddrP rfl fo_37_4 rfl) ?_
        refine GRun.eff rfl rfl rfl (EOp.storeRow rfl rfl sz_3 rfl (.head _) rfl rfl rfl i 4 rfl hL1 (Nat.le_of_ble_eq_true rfl)) ?_
        refine GRun.nil ?_
        refine AWP.region ?_
        refine AOps.step rfl rfl rfl (AOp.add64 rfl rfl rfl (by omega) (by omega)) ?_
        refine AOps.mD rfl rfl rfl rfl rfl (.nil ?_)
        refine ⟨j + 1, (by dsimp only; omega), (by dsimp only; omega), Sub.less ⟨(SLe.of_eq rfl), SLe.refl _, SLe.refl _, SLe.refl _, SLe.refl _, SLe.refl _, SLe.refl _, SLe.refl _, SLe.refl _, trivial⟩ (row_sameM (by first | (rw [← HF]; exact HS) | (rw [HN])))⟩
      replace g4 := of_decide_eq_false g4
      rw [List.length_map] at g4
      have hE : i = (oU a ((validR l).take k) (validR l)[k] j).length := by omega
      refine DRun.pass ⟨44, rfl, .inl ⟨_, rfl, rfl⟩⟩ rfl rfl ?_
      refine DRun.pass ⟨44, rfl, .inl ⟨_, rfl, rfl⟩⟩ rfl rfl ?_
      refine DRun.pass ⟨44, rfl, .inl ⟨_, rfl, rfl⟩⟩ rfl rfl ?_
      refine DRun.pass ⟨44, rfl, .inl ⟨_, rfl, rfl⟩⟩ rfl rfl ?_
      refine DRun.pass ⟨44, rfl, .inl ⟨_, rfl, rfl⟩⟩ rfl rfl ?_
      refine DRun.pass ⟨44, rfl, .inl ⟨_, rfl, rfl⟩⟩ rfl rfl ?_
      refine DRun.pass ⟨44, rfl, .inl ⟨_, rfl, rfl⟩⟩ rfl rfl ?_
      refine DRun.step rfl rfl rfl (AOp.pickF rfl rfl rfl) ?_
      refine DRun.nil ?_
      refine AWP.cond rfl (fun h => nomatch h) (fun _ => ?_)
      refine AWP.exit ?_
      refine AWP.seq ?_
      refine AWP.seq ?_
      refine AWP.draw (by kernel_rfl) (by kernel_rfl) ?_
      refine DRun.step rfl rfl rfl (AOp.moveD rfl rfl) ?_
      refine DRun.step rfl rfl rfl (AOp.moveO rfl rfl) ?_
      refine DRun.step rfl rfl rfl (AOp.lenOwn rfl et_32.ht rfl (.head _)) ?_
      refine DRun.step rfl rfl rfl (AOp.eql rfl rfl rfl) ?_
      refine DRun.step rfl rfl rfl (AOp.moveD rfl rfl) ?_
      refine DRun.split 59 rfl (fun g8 => ?_) (fun g8 => ?_)
      · replace g8 := of_decide_eq_true g8
        obtain ⟨O1, v, hW, hP⟩ := plc_ins (lt := ltU) (dz := dzU) (O := (oU a ((validR l).take k) (validR l)[k] j)) (k := ((validR l)[k].source, (validR l)[k].lines[j].title, (validR l)[k].period)) (i := i) hi.1 hi.2 (.inl hE)
        have hb := plc_bnd hP hO
        have hPl := hP.len
        have hPp := hP.pos
        have HF := hP.fin (validR l)[k].lines[j].units (validR l)[k].lines[j].money
        rw [← HN] at HF
        have hv1 : (toU (((validR l)[k].source, (validR l)[k].lines[j].title, (validR l)[k].period), v)).units = v.1 := rfl
        have hv2 : (toU (((validR l)[k].source, (validR l)[k].lines[j].title, (validR l)[k].period), v)).money = v.2 := rfl
        refine DRun.pass ⟨59, rfl, .inl ⟨_, rfl, rfl⟩⟩ rfl rfl ?_
        refine DRun.pass ⟨59, rfl, .inl ⟨_, rfl, rfl⟩⟩ rfl rfl ?_
        refine DRun.pass ⟨59, rfl, .inl ⟨_, rfl, rfl⟩⟩ rfl rfl ?_
        refine DRun.pass ⟨59, rfl, .inl ⟨_, rfl, rfl⟩⟩ rfl rfl ?_
        refine DRun.pass ⟨59, rfl, .inl ⟨_, rfl, rfl⟩⟩ rfl rfl ?_
        refine DRun.pass ⟨59, rfl, .inl ⟨_, rfl, rfl⟩⟩ rfl rfl ?_
        refine DRun.pass ⟨59, rfl, .inl ⟨_, rfl, rfl⟩⟩ rfl rfl ?_
        refine DRun.step rfl rfl rfl (AOp.pickT rfl rfl rfl) ?_
        refine DRun.nil ?_
        refine AWP.cond rfl (fun _ => ?_) (fun h => nomatch h)
        refine AWP.region ?_
        refine AOps.step rfl rfl rfl (AOp.moveO rfl rfl) ?_
        refine AOps.mD rfl rfl rfl rfl rfl ?_
        refine AOps.step rfl rfl rfl (AOp.loadAgg rfl ag_37 rfl rfl) ?_
        refine AOps.buildS 171 rfl rfl rfl rfl et_32 rfl rfl rfl rfl rfl ?_
        -- inserts into 61
        refine AOps.insertK (id := 61) (idx := 171) (k := i) InsU.insT rfl rfl rfl rfl rfl (.tail _ (.head _)) rfl rfl (by rw [List.length_map]; exact hi.1) rfl (.head _) (by decide) (by rw [List.length_map]; omega) ?_
        refine AOps.step rfl rfl rfl (AOp.assignO rfl rfl) (.nil ?_)
        refine AWP.seq ?_
        refine AWP.obs (σ' := [(61, .row 37 5 (O1.map dzU))]) (row_sameM hW) ?_
        refine AWP.drawG (fun k => (Nat.beq k 10) || (Nat.beq k 2 || Nat.beq k 4 || Nat.beq k 8)) (fun k => Nat.beq k 10) (fun k h => Bool.or_eq_true_iff.2 (.inl h)) (by kernel_rfl) (by kernel_rfl) (by kernel_rfl) ?_
        refine GRun.step rfl rfl rfl (fun _ => AOp.moveO rfl rfl) ?_
        refine GRun.step rfl rfl rfl (fun _ => AOp.moveD rfl rfl) ?_
        refine GRun.stepS rfl rfl rfl rfl (AOp.indexOwn rfl et_32 rfl rfl (.head _) i rfl (by rw [List.length_map]; omega)) ?_
        refine GRun.step rfl rfl rfl (fun _ => AOp.fieldAddrP rfl fo_37_3 rfl) ?_
        refine GRun.stepS rfl rfl rfl rfl (AOp.loadRow rfl sc_3 rfl (.head _) i 3 rfl hP.at_ rfl) ?_
        refine GRun.step rfl rfl rfl (fun _ => AOp.fieldAddr rfl fo_134_1 rfl) ?_
        refine GRun.step rfl rfl rfl (fun _ => AOp.load rfl sc_3 rfl) ?_
        refine GRun.step rfl rfl rfl (fun _ => AOp.add64 rfl rfl rfl (by omega) (by omega)) ?_
        refine GRun.stepS rfl rfl rfl rfl (AOp.indexOwn rfl et_32 rfl rfl (.head _) i rfl (by rw [List.length_map]; omega)) ?_
        refine GRun.step rfl rfl rfl (fun _ => AOp.fieldAddrP rfl fo_37_3 rfl) ?_
        refine GRun.eff rfl rfl rfl (EOp.storeRow rfl rfl sz_3 rfl (.head _) rfl rfl rfl i 3 rfl hP.at_ (Nat.le_of_ble_eq_true rfl)) ?_
        refine GRun.nil ?_
        refine AWP.obs (σ' := [(61, .row 37 5 ((O1.map dzU).set i [.v (.string (validR l)[k].source), .v (.string (validR l)[k].lines[j].title), .v (.int .i64 (validR l)[k].period), .v (.int .i64 (v.1 + (validR l)[k].lines[j].units)), .v (.int .i64 v.2)]))]) (row_sameM rfl) ?_
        have HS := set_dzU O1 i ((validR l)[k].source, (validR l)[k].lines[j].title, (validR l)[k].period) v (validR l)[k].lines[j].units (validR l)[k].lines[j].money
        have hL1 : ((O1.map dzU).set i [.v (.string (validR l)[k].source), .v (.string (validR l)[k].lines[j].title), .v (.int .i64 (validR l)[k].period), .v (.int .i64 (v.1 + (validR l)[k].lines[j].units)), .v (.int .i64 v.2)])[i]? = some [.v (.string (validR l)[k].source), .v (.string (validR l)[k].lines[j].title), .v (.int .i64 (validR l)[k].period), .v (.int .i64 (v.1 + (validR l)[k].lines[j].units)), .v (.int .i64 v.2)] := List.getElem?_set_self (by rw [List.length_map]; omega)
        refine AWP.drawG (fun k => (Nat.beq k 10) || (Nat.beq k 2 || Nat.beq k 4 || Nat.beq k 8)) (fun k => Nat.beq k 10) (fun k h => Bool.or_eq_true_iff.2 (.inl h)) (by kernel_rfl) (by kernel_rfl) (by kernel_rfl) ?_
        refine GRun.step rfl rfl rfl (fun _ => AOp.moveO rfl rfl) ?_
        refine GRun.step rfl rfl rfl (fun _ => AOp.moveD rfl rfl) ?_
        refine GRun.stepS rfl rfl rfl rfl (AOp.indexOwn rfl et_32 rfl rfl (.head _) i rfl (by rw [List.length_set, List.length_map]; omega)) ?_
        refine GRun.step rfl rfl rfl (fun _ => AOp.fieldAddrP rfl fo_37_4 rfl) ?_
        refine GRun.stepS rfl rfl rfl rfl (AOp.loadRow rfl sc_3 rfl (.head _) i 4 rfl hL1 rfl) ?_
        refine GRun.step rfl rfl rfl (fun _ => AOp.fieldAddr rfl fo_134_2 rfl) ?_
        refine GRun.step rfl rfl rfl (fun _ => AOp.load rfl sc_3 rfl) ?_
        refine GRun.step rfl rfl rfl (fun _ => AOp.add64 rfl rfl rfl (by omega) (by omega)) ?_
        refine GRun.stepS rfl rfl rfl rfl (AOp.indexOwn rfl et_32 rfl rfl (.head _) i rfl (by rw [List.length_set, List.length_map]; omega)) ?_
        refine GRun.step rfl rfl rfl (fun _ => AOp.fieldAddrP rfl fo_37_4 rfl) ?_
        refine GRun.eff rfl rfl rfl (EOp.storeRow rfl rfl sz_3 rfl (.head _) rfl rfl rfl i 4 rfl hL1 (Nat.le_of_ble_eq_true rfl)) ?_
        refine GRun.nil ?_
        refine AWP.region ?_
        refine AOps.step rfl rfl rfl (AOp.add64 rfl rfl rfl (by omega) (by omega)) ?_
        refine AOps.mD rfl rfl rfl rfl rfl (.nil ?_)
        refine ⟨j + 1, (by dsimp only; omega), (by dsimp only; omega), Sub.less ⟨(SLe.of_eq rfl), SLe.refl _, SLe.refl _, SLe.refl _, SLe.refl _, SLe.refl _, SLe.refl _, SLe.refl _, SLe.refl _, trivial⟩ (row_sameM (by first | (rw [← HF]; exact HS) | (rw [HN])))⟩
      replace g8 := of_decide_eq_false g8
      rw [List.length_map] at g8; exfalso; omega
    replace h2 := of_decide_eq_false h2
    rw [List.length_map] at h2
    obtain rfl : j = (validR l)[k].lines.length := by omega
    have HE := oU_end a hlt
    refine AWP.exit ?_
    refine AWP.region ?_
    refine AOps.step rfl rfl rfl (AOp.add64 rfl rfl rfl (by omega) (by omega)) ?_
    refine AOps.mD rfl rfl rfl rfl rfl (.nil ?_)
    refine ⟨k + 1, (by omega), (by dsimp only; omega), Sub.less ⟨(SLe.of_eq rfl), SLe.refl _, SLe.refl _, SLe.refl _, SLe.refl _, trivial⟩ (row_sameM (by rw [HE]))⟩
  replace h1 := of_decide_eq_false h1
  rw [List.length_map] at h1
  obtain rfl : k = (validR l).length := by omega
  rw [List.take_length, ← dz_map_U]
  refine AWP.exit ?_
  refine AWP.seq (AWP.region ?_)
  refine AOps.step rfl rfl rfl (AOp.moveO rfl rfl) ?_
  refine AOps.step rfl rfl rfl (AOp.assignO rfl rfl) (.nil ?_)
  refine AWP.ret ?_
  refine ⟨RetD.own rfl (.head _) ?_, trivial⟩
  all_goals (rfl)

set_option maxRecDepth 100000 in
set_option maxHeartbeats 1000000 in
theorem c_rAsk (l : List Rpt) (a : List Ali) (ho : ∀ x ∈ l, okRpt x) (ha : ∀ x ∈ a, x.source.size ≤ 9223372036854775807 ∧ x.title.size ≤ 9223372036854775807) : ACallT Tryz.prog MaxT 33 [.sl (l.map Rpt.ds), .sl (a.map Ali.ds)] (.v (.int .i64 (askF l a))) := by
  refine acall_ofT (n := 13) (ds' := [.v (.int .i64 (askF l a))]) Tryz.func33 rfl (by kernel_rfl) rfl [4] rfl rfl ?_
  intro B w0 F0 hT
  refine AWP.seq (AWP.region ?_)
  refine AOps.aD rfl rfl rfl rfl rfl (.nil ?_)
  refine AWP.seq ?_
  refine AWP.seq (AWP.region ?_)
  refine AOps.mD rfl rfl rfl rfl rfl ?_
  -- wants the world
  refine AOps.callT rfl rfl rfl hT maxT_stays rfl (.cons (ArgOk.rfl' rfl) .nil) (c_rLog l ho) ?_
  refine AOps.aD rfl rfl rfl rfl rfl (.nil ?_)
  refine AWP.seq (AWP.region ?_)
  refine AOps.mD rfl rfl rfl rfl rfl ?_
  refine AOps.step rfl rfl rfl (AOp.neq rfl rfl rfl) (.nil ?_)
  refine AWP.cond rfl (fun h1 => ?_) (fun h1 => ?_)
  · replace h1 := of_decide_eq_true h1
    have HR : askF l a = logF l := if_pos h1
    refine AWP.seq (AWP.region ?_)
    refine AOps.mD rfl rfl rfl rfl rfl ?_
    refine AOps.aD rfl rfl rfl rfl rfl (.nil ?_)
    refine AWP.ret ?_
    refine ⟨RetD.eq rfl ?_, trivial⟩
    all_goals (rw [HR])
  replace h1 := of_decide_eq_false h1
  have HR : askF l a = alisF a := if_neg h1
  refine AWP.skip ?_
  refine AWP.seq (AWP.region ?_)
  refine AOps.mD rfl rfl rfl rfl rfl ?_
  -- wants the world
  refine AOps.callT rfl rfl rfl hT maxT_stays rfl (.cons (ArgOk.rfl' rfl) .nil) (c_rAlis a ha) ?_
  refine AOps.aD rfl rfl rfl rfl rfl (.nil ?_)
  refine AWP.ret ?_
  refine ⟨RetD.eq rfl ?_, trivial⟩
  all_goals (rw [HR])

set_option maxRecDepth 100000 in
set_option maxHeartbeats 1000000 in
theorem c_rMatch (l : List Rpt) (a : List Ali) (ho : ∀ x ∈ l, okRpt x) (ha : ∀ x ∈ a, x.source.size ≤ 9223372036854775807 ∧ x.title.size ≤ 9223372036854775807) : ACallT Tryz.prog MaxT 8 [.sl (l.map Rpt.ds), .sl (a.map Ali.ds)] (.tup [.sl ((matchR l a).map Sal.ds), .v (.int .i64 (askF l a))]) := by
  refine acall_ofT (n := 16) (ds' := [.sl ((matchR l a).map Sal.ds), .v (.int .i64 (askF l a))]) Tryz.func8 rfl (by kernel_rfl) rfl [4, 5] rfl rfl ?_
  intro B w0 F0 hT
  refine AWP.seq (AWP.region ?_)
  refine AOps.aD rfl rfl rfl rfl rfl ?_
  refine AOps.aD rfl rfl rfl rfl rfl (.nil ?_)
  refine AWP.seq ?_
  refine AWP.seq (AWP.region ?_)
  refine AOps.mD rfl rfl rfl rfl rfl ?_
  refine AOps.mD rfl rfl rfl rfl rfl ?_
  -- wants the world
  refine AOps.callT rfl rfl rfl hT maxT_stays rfl (.cons (ArgOk.rfl' rfl) (.cons (ArgOk.rfl' rfl) .nil)) (c_rAsk l a ho ha) ?_
  refine AOps.aD rfl rfl rfl rfl rfl (.nil ?_)
  refine AWP.seq (AWP.region ?_)
  refine AOps.mD rfl rfl rfl rfl rfl ?_
  refine AOps.step rfl rfl rfl (AOp.neq rfl rfl rfl) (.nil ?_)
  refine AWP.cond rfl (fun h1 => ?_) (fun h1 => ?_)
  · replace h1 := of_decide_eq_true h1
    have HR : matchR l a = [] := if_neg h1
    rw [HR]
    refine AWP.seq (AWP.region ?_)
    refine AOps.mD rfl rfl rfl rfl rfl ?_
    refine AOps.aD rfl rfl rfl rfl rfl ?_
    refine AOps.aD rfl rfl rfl rfl rfl (.nil ?_)
    refine AWP.ret ?_
    refine ⟨RetD.nil rfl, RetD.eq rfl ?_, trivial⟩
    all_goals (rfl)
  replace h1 := of_decide_eq_false h1
  have h0 : askF l a = 0 := by omega
  obtain ⟨h1, h2⟩ := ask_ok h0
  have hl := log_of h1
  have hA := als_of h2
  have HR : matchR l a = salesR a (validR l) := if_pos h0
  rw [HR, h0]
  refine AWP.skip ?_
  refine AWP.seq (AWP.region ?_)
  refine AOps.mD rfl rfl rfl rfl rfl ?_
  refine AOps.mD rfl rfl rfl rfl rfl ?_
  refine AOps.step rfl rfl rfl (AOp.call rfl (.cons (ArgOk.rfl' rfl) (.cons (ArgOk.rfl' rfl) .nil)) (c_rSales l a hl ho hA)) ?_
  refine AOps.aD rfl rfl rfl rfl rfl ?_
  refine AOps.aD rfl rfl rfl rfl rfl (.nil ?_)
  refine AWP.ret ?_
  refine ⟨RetD.eq rfl ?_, RetD.eq rfl ?_, trivial⟩
  all_goals (rfl)

set_option maxRecDepth 100000 in
set_option maxHeartbeats 1000000 in
theorem c_rOpen (l : List Rpt) (a : List Ali) (ho : ∀ x ∈ l, okRpt x) (ha : ∀ x ∈ a, x.source.size ≤ 9223372036854775807 ∧ x.title.size ≤ 9223372036854775807) : ACallT Tryz.prog MaxT 13 [.sl (l.map Rpt.ds), .sl (a.map Ali.ds)] (.tup [.sl ((openR l a).map Unk.ds), .v (.int .i64 (askF l a))]) := by
  refine acall_ofT (n := 16) (ds' := [.sl ((openR l a).map Unk.ds), .v (.int .i64 (askF l a))]) Tryz.func13 rfl (by kernel_rfl) rfl [4, 5] rfl rfl ?_
  intro B w0 F0 hT
  refine AWP.seq (AWP.region ?_)
  refine AOps.aD rfl rfl rfl rfl rfl ?_
  refine AOps.aD rfl rfl rfl rfl rfl (.nil ?_)
  refine AWP.seq ?_
  refine AWP.seq (AWP.region ?_)
  refine AOps.mD rfl rfl rfl rfl rfl ?_
  refine AOps.mD rfl rfl rfl rfl rfl ?_
  -- wants the world
  refine AOps.callT rfl rfl rfl hT maxT_stays rfl (.cons (ArgOk.rfl' rfl) (.cons (ArgOk.rfl' rfl) .nil)) (c_rAsk l a ho ha) ?_
  refine AOps.aD rfl rfl rfl rfl rfl (.nil ?_)
  refine AWP.seq (AWP.region ?_)
  refine AOps.mD rfl rfl rfl rfl rfl ?_
  refine AOps.step rfl rfl rfl (AOp.neq rfl rfl rfl) (.nil ?_)
  refine AWP.cond rfl (fun h1 => ?_) (fun h1 => ?_)
  · replace h1 := of_decide_eq_true h1
    have HR : openR l a = [] := if_neg h1
    rw [HR]
    refine AWP.seq (AWP.region ?_)
    refine AOps.mD rfl rfl rfl rfl rfl ?_
    refine AOps.aD rfl rfl rfl rfl rfl ?_
    refine AOps.aD rfl rfl rfl rfl rfl (.nil ?_)
    refine AWP.ret ?_
    refine ⟨RetD.nil rfl, RetD.eq rfl ?_, trivial⟩
    all_goals (rfl)
  replace h1 := of_decide_eq_false h1
  have h0 : askF l a = 0 := by omega
  obtain ⟨h1, h2⟩ := ask_ok h0
  have hl := log_of h1
  have hA := als_of h2
  have HR : openR l a = unkR a (validR l) := if_pos h0
  rw [HR, h0]
  refine AWP.skip ?_
  refine AWP.seq (AWP.region ?_)
  refine AOps.mD rfl rfl rfl rfl rfl ?_
  refine AOps.mD rfl rfl rfl rfl rfl ?_
  refine AOps.step rfl rfl rfl (AOp.call rfl (.cons (ArgOk.rfl' rfl) (.cons (ArgOk.rfl' rfl) .nil)) (c_rUnk l a hl ho hA)) ?_
  refine AOps.aD rfl rfl rfl rfl rfl ?_
  refine AOps.aD rfl rfl rfl rfl rfl (.nil ?_)
  refine AWP.ret ?_
  refine ⟨RetD.eq rfl ?_, RetD.eq rfl ?_, trivial⟩
  all_goals (rfl)

end Go.Proofs.YtekenfknoakboaaGreatDoor
