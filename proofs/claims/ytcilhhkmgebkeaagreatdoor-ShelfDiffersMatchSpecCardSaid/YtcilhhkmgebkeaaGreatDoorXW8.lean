/- Walks and laws over abstract values, merged by tools/merge.py. No statement of the seat. -/
import Derived.Test.YtcilhhkmgebkeaaGreatDoorXW7

namespace Go.Proofs.YtcilhhkmgebkeaaGreatDoor
open Go.RowKit
set_option linter.unusedVariables false

def Env.puts (e : Env) : List (Nat × S) → Env
  | [] => e
  | p :: l => Env.puts (e.put (some p.1) p.2) l
theorem puts_other {t : Nat} : ∀ {l : List (Nat × S)} {e : Env}, t ∉ l.map Prod.fst → Env.puts e l t = e t
  | [], _, _ => rfl
  | p :: l, e, h => by
    simp only [List.map_cons, List.mem_cons, not_or] at h
    unfold Env.puts
    rw [puts_other h.2, Env.put_other _ _ _ _ h.1]
theorem puts_put {dst : Option Nat} {s : S} : ∀ {l : List (Nat × S)} {e : Env}, (∀ d, dst = some d → d ∉ l.map Prod.fst) → Env.puts (e.put dst s) l = (Env.puts e l).put dst s
  | [], _, _ => rfl
  | p :: l, e, h => by
    unfold Env.puts
    rw [Env.put_comm e dst (some p.1) s p.2 (fun d hd he => h d hd (by rw [← Option.some.inj he]; simp)), puts_put fun d hd hm => h d hd (by simp only [List.map_cons, List.mem_cons]; exact .inr hm)]
/-- An object that the region makes, and the slots that may hold it. -/
structure Fc where
  id : Nat
  slots : List Nat
def Clean (Φ : List Fc) (e : Env) : Prop := ∀ f ∈ Φ, ∀ t, f.slots.contains t = false → (e t).kill f.id = e t
def QE (e1 : Env) (σ1 : Obs) : Post := fun ex e σ => match ex with | .normal => e = e1 ∧ σ = σ1 | _ => False
/-- An operation that makes or turns objects: the slots that it sets, the objects behind it. -/
def GE (cx : Cx) (ops : Array Oper) (Φ : List Fc) (o : Oper) (e : Env) (σ : Obs) (si : List (Nat × S)) (σ' : Obs) : Prop :=
  ∀ e0 : Env, (∀ t, t ∈ o.looksAt ops → e0 t = e t) → (∀ t, t ∈ si.map Prod.fst → e0 t = e t) → Clean Φ e0 → AOps cx ops [o] e0 σ (QE (Env.puts e0 si) σ')
def LStep (cx : Cx) (ops : Array Oper) (Φ : List Fc) (ef : Nat → Bool) (K : Nat → List Nat) (I : Obs → Prop) (k : Nat) (o : Oper) (e : Env) (σ : Obs) (e' : Env) (σ' : Obs) : Prop :=
  (GW ops o e true ∧ ef k = false ∧ ∃ s, I σ ∧ (∀ τ, I τ → AOp cx.P cx.B ops o e τ s) ∧ (∀ f ∈ Φ, (∃ t, o.dst = some t ∧ f.slots.contains t = true) ∨ s.kill f.id = s) ∧ e' = e.put o.dst s ∧ σ' = σ) ∨
  (GW ops o e false ∧ ef k = false ∧ e' = e.put o.dst (.d (.v undef)) ∧ σ' = σ) ∨
  (GW ops o e true ∧ ef k = true ∧ I σ ∧ I σ' ∧ ∃ si, si.map Prod.fst = K k ∧ GE cx ops Φ o e σ si σ' ∧ (∀ p ∈ si, ∀ f ∈ Φ, f.slots.contains p.1 = true ∨ p.2.kill f.id = p.2) ∧ e' = Env.puts e si)
def LRun (cx : Cx) (ops : Array Oper) (Φ : List Fc) (ef : Nat → Bool) (K : Nat → List Nat) (I : Obs → Prop) : Nat → List Oper → Env → Obs → (Env → Obs → Prop) → Prop
  | _, [], e, σ, Q => Q e σ
  | k, o :: l, e, σ, Q => DstOk cx.N o ∧ ∃ e' σ', LStep cx ops Φ ef K I k o e σ e' σ' ∧ LRun cx ops Φ ef K I (k + 1) l e' σ' Q
def anyL (cx : Cx) (ops : Array Oper) (Φ : List Fc) (ef : Nat → Bool) (K : Nat → List Nat) (I : Obs → Prop) (Q : Env → Obs → Prop) : Nat → Array Bool → Env → Obs → Prop
  | 0, listed, e, σ => Region.ready .any ops listed = [] ∧ Q e σ
  | fuel + 1, listed, e, σ => (Region.ready .any ops listed = [] → Q e σ) ∧
      ∀ i ∈ Region.ready .any ops listed, ∀ o, ops[i]? = some o → ∃ e' σ', LStep cx ops Φ ef K I i o e σ e' σ' ∧ anyL cx ops Φ ef K I Q fuel (listed.setIfInBounds i true) e' σ'
/-- The slots of one are none of the other's. -/
def keysOkB (ops : Array Oper) (K : Nat → List Nat) (i j : Nat) (oi oj : Oper) : Bool :=
  ((K i).all fun k => !((oj.looksAt ops).contains k) && neDst oj k) && ((K j).all fun k => !((oi.looksAt ops).contains k) && neDst oi k) && (!(K i).any fun k => (K j).contains k)
theorem keysOk_l {ops : Array Oper} {K : Nat → List Nat} {i j : Nat} {oi oj : Oper} (h : keysOkB ops K i j oi oj = true) : ∀ k ∈ K i, k ∉ oj.looksAt ops ∧ oj.dst ≠ some k := fun k hk => by
  unfold keysOkB at h
  simp only [Bool.and_eq_true] at h
  have h1 := List.all_eq_true.1 h.1.1 k hk
  simp only [Bool.and_eq_true, Bool.not_eq_true', List.contains_eq_mem, decide_eq_false_iff_not] at h1
  exact ⟨h1.1, neDst_spec h1.2⟩
theorem keysOk_r {ops : Array Oper} {K : Nat → List Nat} {i j : Nat} {oi oj : Oper} (h : keysOkB ops K i j oi oj = true) : ∀ k ∈ K j, k ∉ oi.looksAt ops ∧ oi.dst ≠ some k := fun k hk => by
  unfold keysOkB at h
  simp only [Bool.and_eq_true] at h
  have h1 := List.all_eq_true.1 h.1.2 k hk
  simp only [Bool.and_eq_true, Bool.not_eq_true', List.contains_eq_mem, decide_eq_false_iff_not] at h1
  exact ⟨h1.1, neDst_spec h1.2⟩
theorem GE.same {cx : Cx} {ops : Array Oper} {Φ : List Fc} {o : Oper} {e e' : Env} {σ σ' : Obs} {si : List (Nat × S)} (h : GE cx ops Φ o e σ si σ') (h1 : ∀ t, t ∈ o.looksAt ops → e' t = e t) (h2 : ∀ t, t ∈ si.map Prod.fst → e' t = e t) : GE cx ops Φ o e' σ si σ' :=
  fun e0 k1 k2 k3 => h e0 (fun t ht => (k1 t ht).trans (h1 t ht)) (fun t ht => (k2 t ht).trans (h2 t ht)) k3
theorem anyL_first {cx : Cx} {ops : Array Oper} {Φ : List Fc} {ef : Nat → Bool} {K : Nat → List Nat} {I : Obs → Prop} (hK : ∀ k, ef k = false → K k = []) {Q : Env → Obs → Prop} {i : Nat} {oi : Oper} (hi : ops[i]? = some oi) (late : Nat → Bool)
    (hclos : ∀ j oj, ops[j]? = some oj → late j = true → ∃ e ∈ oj.after, Region.binds .any e = true ∧ (e.on = i ∨ late e.on = true)) :
    ∀ (fuel : Nat) (listed : Array Bool) (e : Env) (σ : Obs) (e1 : Env) (σ1 : Obs), (∀ j, late j = true → listed.getD j false = false) →
      (∀ j oj, ops[j]? = some oj → j ≠ i → listed.getD j true = false → (∀ e ∈ oj.after, Region.binds .any e = true → e.on ≠ i) → oi.apart ops oj = true ∧ (late j = false → (ef i = false ∨ ef j = false) ∧ keysOkB ops K i j oi oj = true)) →
      i ∈ Region.ready .any ops listed → LStep cx ops Φ ef K I i oi e σ e1 σ1 → anyL cx ops Φ ef K I Q fuel (listed.setIfInBounds i true) e1 σ1 → anyL cx ops Φ ef K I Q (fuel + 1) listed e σ := by
  intro fuel
  induction fuel with
  | zero =>
    intro listed e σ e1 σ1 _ _ hr hy H
    refine ⟨fun h => (by rw [h] at hr; cases hr), fun j hj o ho => ?_⟩
    by_cases hji : j = i
    · subst hji
      rw [hi] at ho; cases ho
      exact ⟨e1, σ1, hy, H⟩
    · have := ready_mono hj hji
      rw [H.1] at this
      cases this
  | succ fuel ih =>
    intro listed e σ e1 σ1 hlate hfree hr hy H
    refine ⟨fun h => (by rw [h] at hr; cases hr), fun j hj oj hoj => ?_⟩
    by_cases hji : j = i
    · subst hji
      rw [hi] at hoj; cases hoj
      exact ⟨e1, σ1, hy, H⟩
    · obtain ⟨e2, σ2, h1, h2⟩ := H.2 j (ready_mono hj hji) oj hoj
      obtain ⟨hjun, oj', hoj', hall⟩ := mem_ready.1 hj
      rw [hoj] at hoj'; cases hoj'
      have hnot : ∀ e ∈ oj.after, Region.binds .any e = true → e.on ≠ i := fun e he hb heq => by
        have h1 := hall e he hb
        have h0 := (mem_ready.1 hr).1
        rw [heq] at h1
        rcases Nat.lt_or_ge i listed.size with h' | h'
        · simp [h'] at h0 h1; rw [h0] at h1; cases h1
        · simp [Array.getElem?_eq_none h'] at h1
      have hjl : late j = false := by
        cases hl : late j with
        | false => rfl
        | true =>
          obtain ⟨e, he, hb, hh⟩ := hclos j oj hoj hl
          rcases hh with hh | hh
          · exact absurd hh (hnot e he hb)
          · have h3 := hall e he hb
            rw [hlate _ hh] at h3
            simp at h3
      obtain ⟨hap, hss⟩ := hfree j oj hoj hji hjun hnot
      obtain ⟨hs1, hs2⟩ := hss hjl
      obtain ⟨a1, a2, a3⟩ := Oper.apart_spec hap
      have kl := keysOk_l hs2
      have kr := keysOk_r hs2
      have fin : ∀ ej σj, LStep cx ops Φ ef K I j oj e σ ej σj → LStep cx ops Φ ef K I i oi ej σj e2 σ2 → ∃ e' σ', LStep cx ops Φ ef K I j oj e σ e' σ' ∧ anyL cx ops Φ ef K I Q (fuel + 1) (listed.setIfInBounds j true) e' σ' := fun ej σj hsj hsi => by
        refine ⟨ej, σj, hsj, ?_⟩
        refine ih (listed.setIfInBounds j true) ej σj e2 σ2 (fun k hk => ?_) (fun k ok hk hki hun hno => ?_) (ready_mono hr (Ne.symm hji)) hsi ?_
        · have hkj : j ≠ k := fun h => by rw [h, hk] at hjl; simp at hjl
          rw [getD_set_ne false hkj]
          exact hlate k hk
        · refine hfree k ok hk hki ?_ hno
          by_cases hjk : j = k
          · subst hjk; exact hjun
          · rw [getD_set_ne true hjk] at hun; exact hun
        · rw [Array.setIfInBounds_comm _ _ hji]
          exact h2
      have look1 : ∀ {s : S} t, t ∈ oj.looksAt ops → (e.put oi.dst s) t = e t := fun t ht => put_looks a1 t ht
      have look2 : ∀ {s : S} t, t ∈ oi.looksAt ops → (e.put oj.dst s) t = e t := fun t ht => put_looks a3 t ht
      rcases hy with ⟨hgi, hei, s, hI, hopi, hcl, rfl, rfl⟩ | ⟨hgi, hei, rfl, rfl⟩ | ⟨hgi, hei, hi1, hi2, si, hki, hopi, hci, rfl⟩
      · rcases h1 with ⟨hgj, hej, sj, hIj, hopj, hclj, rfl, rfl⟩ | ⟨hgj, hej, rfl, rfl⟩ | ⟨hgj, hej, hj1, hj2, sj, hkj, hopj, hcj, rfl⟩
        · exact fin (e.put oj.dst sj) _ (.inl ⟨hgj.same fun t ht => (look1 t ht).symm, hej, sj, hIj, fun τ hτ => (hopj τ hτ).same fun t ht => (look1 t ht).symm, hclj, rfl, rfl⟩) (.inl ⟨hgi.same (fun t ht => look2 t ht), hei, s, hI, fun τ hτ => (hopi τ hτ).same (fun t ht => look2 t ht), hcl, (Env.put_comm e oi.dst oj.dst s sj a2), rfl⟩)
        · exact fin (e.put oj.dst (.d (.v undef))) _ (.inr (.inl ⟨hgj.same fun t ht => (look1 t ht).symm, hej, rfl, rfl⟩)) (.inl ⟨hgi.same (fun t ht => look2 t ht), hei, s, hI, fun τ hτ => (hopi τ hτ).same (fun t ht => look2 t ht), hcl, (Env.put_comm e oi.dst oj.dst s _ a2), rfl⟩)
        · have hkd : ∀ d, oi.dst = some d → d ∉ sj.map Prod.fst := fun d hd hm => by rw [hkj] at hm; exact (kr d hm).2 hd
          have hkl : ∀ t, t ∈ oi.looksAt ops → Env.puts e sj t = e t := fun t ht => puts_other fun hm => by rw [hkj] at hm; exact (kr t hm).1 ht
          refine fin (Env.puts e sj) σ2 (.inr (.inr ⟨hgj.same fun t ht => (look1 t ht).symm, hej, hj1, hj2, sj, hkj, hopj.same (fun t ht => (look1 t ht).symm) (fun t ht => ?_), hcj, rfl⟩)) (.inl ⟨hgi.same hkl, hei, s, hj2, fun τ hτ => (hopi τ hτ).same hkl, hcl, puts_put hkd, rfl⟩)
          cases hd : oi.dst with
          | none => rfl
          | some d => exact (Env.put_other _ _ _ _ (fun (he : t = d) => hkd d hd (he ▸ ht))).symm
      · rcases h1 with ⟨hgj, hej, sj, hIj, hopj, hclj, rfl, rfl⟩ | ⟨hgj, hej, rfl, rfl⟩ | ⟨hgj, hej, hj1, hj2, sj, hkj, hopj, hcj, rfl⟩
        · exact fin (e.put oj.dst sj) _ (.inl ⟨hgj.same fun t ht => (look1 t ht).symm, hej, sj, hIj, fun τ hτ => (hopj τ hτ).same fun t ht => (look1 t ht).symm, hclj, rfl, rfl⟩) (.inr (.inl ⟨hgi.same (fun t ht => look2 t ht), hei, (Env.put_comm e oi.dst oj.dst _ sj a2), rfl⟩))
        · exact fin (e.put oj.dst (.d (.v undef))) _ (.inr (.inl ⟨hgj.same fun t ht => (look1 t ht).symm, hej, rfl, rfl⟩)) (.inr (.inl ⟨hgi.same (fun t ht => look2 t ht), hei, (Env.put_comm e oi.dst oj.dst _ _ a2), rfl⟩))
        · have hkd : ∀ d, oi.dst = some d → d ∉ sj.map Prod.fst := fun d hd hm => by rw [hkj] at hm; exact (kr d hm).2 hd
          have hkl : ∀ t, t ∈ oi.looksAt ops → Env.puts e sj t = e t := fun t ht => puts_other fun hm => by rw [hkj] at hm; exact (kr t hm).1 ht
          refine fin (Env.puts e sj) σ2 (.inr (.inr ⟨hgj.same fun t ht => (look1 t ht).symm, hej, hj1, hj2, sj, hkj, hopj.same (fun t ht => (look1 t ht).symm) (fun t ht => ?_), hcj, rfl⟩)) (.inr (.inl ⟨hgi.same hkl, hei, puts_put hkd, rfl⟩))
          cases hd : oi.dst with
          | none => rfl
          | some d => exact (Env.put_other _ _ _ _ (fun (he : t = d) => hkd d hd (he ▸ ht))).symm
      · have hkd : ∀ d, oj.dst = some d → d ∉ si.map Prod.fst := fun d hd hm => by rw [hki] at hm; exact (kl d hm).2 hd
        have hkl : ∀ t, t ∈ oj.looksAt ops → Env.puts e si t = e t := fun t ht => puts_other fun hm => by rw [hki] at hm; exact (kl t hm).1 ht
        have hke : ∀ {s : S} t, t ∈ si.map Prod.fst → (e.put oj.dst s) t = e t := fun {s} t ht => by
          cases hd : oj.dst with
          | none => rfl
          | some d => exact Env.put_other _ _ _ _ (fun he => hkd d hd (he ▸ ht))
        rcases h1 with ⟨hgj, hej, sj, hIj, hopj, hclj, rfl, rfl⟩ | ⟨hgj, hej, rfl, rfl⟩ | ⟨hgj, hej, hj1, hj2, sj, hkj, hopj, hcj, rfl⟩
        · exact fin (e.put oj.dst sj) σ (.inl ⟨hgj.same fun t ht => (hkl t ht).symm, hej, sj, hi1, fun τ hτ => (hopj τ hτ).same fun t ht => (hkl t ht).symm, hclj, rfl, rfl⟩) (.inr (.inr ⟨hgi.same (fun t ht => look2 t ht), hei, hi1, hi2, si, hki, hopi.same (fun t ht => look2 t ht) (fun t ht => hke t ht), hci, (puts_put hkd).symm⟩))
        · exact fin (e.put oj.dst (.d (.v undef))) σ (.inr (.inl ⟨hgj.same fun t ht => (hkl t ht).symm, hej, rfl, rfl⟩)) (.inr (.inr ⟨hgi.same (fun t ht => look2 t ht), hei, hi1, hi2, si, hki, hopi.same (fun t ht => look2 t ht) (fun t ht => hke t ht), hci, (puts_put hkd).symm⟩))
        · rcases hs1 with h | h
          · rw [hei] at h; simp at h
          · rw [hej] at h; simp at h
/-- The check: whoever is free to change places has nothing to do with the other. -/
def Region.keysFree (ops : Array Oper) (ef : Nat → Bool) (K : Nat → List Nat) (listed : Array Bool) (k : Nat) (late : Nat → Bool) : Bool :=
  (List.range ops.size).all fun j =>
    (!(late j) || (!(listed.getD j false) && ((ops[j]?).map fun o => o.after.any fun e => Region.binds .any e && (Nat.beq e.on k || late e.on)).getD true)) &&
    (Nat.beq j k || listed.getD j true || late j || Region.edge ops j k || ((!(ef k) || !(ef j)) && ((ops[k]?).bind fun oi => (ops[j]?).map fun oj => keysOkB ops K k j oi oj).getD false))
def Region.keysFrom (ops : Array Oper) (ef : Nat → Bool) (K : Nat → List Nat) : Nat → Nat → Array Bool → Bool
  | 0, _, _ => true
  | fuel + 1, k, listed => Region.keysFree ops ef K listed k (Region.lateB ops k) && Region.keysFrom ops ef K fuel (k + 1) (listed.setIfInBounds k true)
theorem Region.keysFree_spec {ops : Array Oper} {ef : Nat → Bool} {K : Nat → List Nat} {listed : Array Bool} {k : Nat} {oi : Oper} {late : Nat → Bool} (h : Region.keysFree ops ef K listed k late = true) (hk : ops[k]? = some oi) (hl : ∀ j, late j = true → j < ops.size) :
    (∀ j oj, ops[j]? = some oj → late j = true → ∃ e ∈ oj.after, Region.binds .any e = true ∧ (e.on = k ∨ late e.on = true)) ∧ (∀ j, late j = true → listed.getD j false = false) ∧
    ∀ j oj, ops[j]? = some oj → j ≠ k → listed.getD j true = false → (∀ e ∈ oj.after, Region.binds .any e = true → e.on ≠ k) → late j = false → (ef k = false ∨ ef j = false) ∧ keysOkB ops K k j oi oj = true := by
  have h1 : ∀ j, j < ops.size → _ := fun j hj => List.all_eq_true.1 h j (List.mem_range.2 hj)
  simp only [Bool.and_eq_true] at h1
  refine ⟨fun j oj hoj hlj => ?_, fun j hlj => ?_, fun j oj hoj hjk hun hno hlj => ?_⟩
  · have h2 := (h1 j (Array.getElem?_eq_some_iff.1 hoj).1).1
    rw [hlj, hoj] at h2
    simp only [Bool.not_true, Bool.false_or, Option.map_some, Option.getD_some, Bool.and_eq_true, Array.any_eq_true'] at h2
    obtain ⟨_, e, he, hb⟩ := h2
    simp only [Bool.or_eq_true] at hb
    exact ⟨e, he, hb.1, hb.2.imp Nat.eq_of_beq_eq_true (fun x => x)⟩
  · have h2 := (h1 j (hl j hlj)).1
    rw [hlj] at h2
    simp only [Bool.not_true, Bool.false_or, Bool.and_eq_true, Bool.not_eq_true'] at h2
    exact h2.1
  · have h2 := (h1 j (Array.getElem?_eq_some_iff.1 hoj).1).2
    have hb : Nat.beq j k = false := by rw [Bool.eq_false_iff]; exact fun hh => hjk (Nat.eq_of_beq_eq_true hh)
    rw [hb, hun, hlj, hk, hoj] at h2
    simp only [Bool.false_or, Bool.or_eq_true, Bool.and_eq_true, Bool.not_eq_true', Option.bind_some, Option.map_some, Option.getD_some] at h2
    rcases h2 with h2 | h2
    · obtain ⟨o, ho, e, he, hb2, heq⟩ := Region.edge_spec h2
      rw [hoj] at ho; cases ho
      exact absurd heq (hno e he hb2)
    · exact h2
theorem anyL_lex {cx : Cx} {ops : Array Oper} {Φ : List Fc} {ef : Nat → Bool} {K : Nat → List Nat} {I : Obs → Prop} (hK : ∀ k, ef k = false → K k = []) {Q : Env → Obs → Prop} : ∀ (l : List Oper) (k : Nat) (listed : Array Bool) (e : Env) (σ : Obs), (∀ j, l[j]? = ops[k + j]?) →
    Region.lexFrom .any ops l.length k listed = true → Region.keysFrom ops ef K l.length k listed = true → LRun cx ops Φ ef K I k l e σ Q → anyL cx ops Φ ef K I Q l.length listed e σ
  | [], _, _, _, _, _, hB, _, h => ⟨by simpa [Region.lexFrom] using hB, h⟩
  | o :: l, k, listed, e, σ, hl, hB, hS, h => by
    have h0 : ops[k]? = some o := by simpa using (hl 0).symm
    simp only [List.length_cons, Region.lexFrom, Bool.and_eq_true] at hB
    simp only [List.length_cons, Region.keysFrom, Bool.and_eq_true] at hS
    obtain ⟨⟨hr, hf⟩, hB'⟩ := hB
    have hl' : ∀ j, l[j]? = ops[k + 1 + j]? := fun j => by have := hl (j + 1); simpa [Nat.add_assoc, Nat.add_comm 1 j] using this
    obtain ⟨_, e', σ', hs, hq⟩ := h
    have hgo := anyL_lex hK l (k + 1) _ _ _ hl' hB' hS.2 hq
    obtain ⟨k1, k2, k3⟩ := Region.keysFree_spec hS.1 h0 (fun j hj => by
      unfold Region.lateB at hj
      simp only [Bool.and_eq_true, Nat.blt_eq] at hj
      exact hj.1)
    exact anyL_first hK h0 _ k1 l.length listed e σ e' σ' k2 (fun j oj hj hji hun hno => ⟨Region.free_spec h0 hf j oj hj hji hun hno, fun hl => k3 j oj hj hji hun hno hl⟩) (by simpa using hr) hs hgo
theorem LRun.dsts {cx : Cx} {ops : Array Oper} {Φ : List Fc} {ef : Nat → Bool} {K : Nat → List Nat} {I : Obs → Prop} {Q : Env → Obs → Prop} : ∀ (l : List Oper) (k : Nat) (e : Env) (σ : Obs), LRun cx ops Φ ef K I k l e σ Q → ∀ o ∈ l, DstOk cx.N o
  | [], _, _, _, _, o, ho => by cases ho
  | x :: l, k, e, σ, h, o, ho => by
    obtain ⟨h1, _, _, _, h2⟩ := h
    cases ho with
    | head => exact h1
    | tail _ ho => exact LRun.dsts l _ _ _ h2 o ho
theorem Clean.put {Φ : List Fc} {e : Env} {dst : Option Nat} {s : S} (h : Clean Φ e) (hs : ∀ f ∈ Φ, (∃ t, dst = some t ∧ f.slots.contains t = true) ∨ s.kill f.id = s) : Clean Φ (e.put dst s) := fun f hf t ht => by
  cases dst with
  | none => exact h f hf t ht
  | some d =>
    by_cases hd : t = d
    · subst hd
      rw [Env.put_same]
      rcases hs f hf with ⟨t', h1, h2⟩ | h1
      · cases h1; rw [ht] at h2; simp at h2
      · exact h1
    · rw [Env.put_other _ _ _ _ hd]; exact h f hf t ht
theorem Clean.puts {Φ : List Fc} : ∀ {l : List (Nat × S)} {e : Env}, Clean Φ e → (∀ p ∈ l, ∀ f ∈ Φ, f.slots.contains p.1 = true ∨ p.2.kill f.id = p.2) → Clean Φ (Env.puts e l)
  | [], _, h, _ => h
  | p :: l, e, h, hs => by
    unfold Env.puts
    refine Clean.puts (fun f hf t ht => ?_) fun q hq => hs q (List.mem_cons_of_mem _ hq)
    by_cases hd : t = p.1
    · subst hd
      rw [Env.put_same]
      rcases hs p (by simp) f hf with h1 | h1
      · rw [ht] at h1; simp at h1
      · exact h1
    · rw [Env.put_other _ _ _ _ hd]; exact h f hf t ht
theorem wpAny_of_L {cx : Cx} {ops : Array Oper} {Φ : List Fc} {ef : Nat → Bool} {K : Nat → List Nat} {I : Obs → Prop} {Q : Post} (hQ : ∀ ex e σ, ex ≠ .normal → ¬ Q ex e σ) (hd : ∀ o ∈ ops.toList, DstOk cx.N o) : ∀ (fuel : Nat) (listed : Array Bool) (e : Env) (σ : Obs) (a : Act) (w : World), R cx e σ a w → Clean Φ e →
    anyL cx ops Φ ef K I (fun e σ => Q .normal e σ) fuel listed e σ → wpAny cx.P .any ops (lift cx Q) fuel listed a w
  | 0, _, e, σ, _, _, hr, _, h => ⟨h.1, e, σ, h.2, hr⟩
  | fuel + 1, listed, e, σ, a, w, hr, hc, h => by
    refine ⟨fun h0 => ⟨e, σ, h.1 h0, hr⟩, fun i hi => ?_⟩
    obtain ⟨_, o, ho, _⟩ := mem_ready.1 hi
    obtain ⟨e', σ', hs, hk⟩ := h.2 i hi o ho
    have hdo : DstOk cx.N o := hd o (Array.mem_toList_iff.2 (Array.mem_of_getElem? ho))
    unfold wpOp
    simp only [ho]
    have hR := hr
    obtain ⟨F, ρ, hr⟩ := hr
    rcases hs with ⟨hg, _, s, hI, hop, hcl, rfl, rfl⟩ | ⟨hg, _, rfl, rfl⟩ | ⟨hg, _, _, _, si, _, hop, hci, rfl⟩
    · rw [if_pos (hg.wanted (fun t _ => hr.env t))]
      refine .inl (wp_to ?_ (fun _ _ _ => False.elim) (hop _ hI F ρ w a hr.lt (fun t _ => hr.env t) hr.obs))
      rintro a' w' ⟨v, F', rfl, hv, he⟩
      exact wpAny_of_L hQ hd fuel _ _ _ _ _ ⟨F', ρ, hr.put he hv hdo⟩ (hc.put hcl) hk
    · rw [if_neg (by rw [hg.wanted (fun t _ => hr.env t)]; simp)]
      exact wpAny_of_L hQ hd fuel _ _ _ _ _ ⟨F, ρ, hr.put (Ext.refl hr.lt) repS_undef hdo⟩ (hc.put fun _ _ => .inr rfl) hk
    · have hw : Region.wanted o (yielded ops a.tmps) = true := hg.wanted (fun t _ => hr.env t)
      rw [if_pos hw]
      have h4 := hop e (fun _ _ => rfl) (fun _ _ => rfl) hc a w hR
      unfold wpList at h4
      rw [if_pos hw] at h4
      refine h4.imp (wp_to2 ?_ ?_) fun h => ⟨h.1, ?_⟩
      · rintro a' w' ⟨e', σ'', ⟨rfl, rfl⟩, hr'⟩
        exact wpAny_of_L hQ hd fuel _ _ _ _ _ hr' (hc.puts hci) hk
      · rintro ex a' w' hne ⟨e', σ'', hq, _⟩
        cases ex <;> first | exact absurd rfl hne | exact hq.elim
      · obtain ⟨a', w', e', σ'', hq, _⟩ := h.2
        exact hq.elim
/-- Before the region: no slot but those told holds what it makes or turns. -/
def Env.killOut (f : Fc) (e : Env) : Env := fun t => match f.slots.contains t with | true => e t | false => (e t).kill f.id
def Env.killIds : List Fc → Env → Env
  | [], e => e
  | f :: l, e => Env.killIds l (e.killOut f)
theorem killOut_keep {f : Fc} {g : Fc} {e : Env} (h : Clean [g] e) : Clean [g] (e.killOut f) := fun g' hg t ht => by
  have h1 := h g' hg t ht
  unfold Env.killOut
  cases f.slots.contains t with
  | true => exact h1
  | false => show S.kill g'.id (S.kill f.id (e t)) = S.kill f.id (e t); rw [kill_comm, h1]
theorem killIds_keep {g : Fc} : ∀ {Φ : List Fc} {e : Env}, Clean [g] e → Clean [g] (Env.killIds Φ e)
  | [], _, h => h
  | _ :: l, _, h => killIds_keep (Φ := l) (killOut_keep h)
theorem killOut_clean (f : Fc) (e : Env) : Clean [f] (e.killOut f) := fun g hg t ht => by
  obtain rfl := List.mem_singleton.1 hg
  unfold Env.killOut
  rw [ht]
  exact S.kill_kill g.id (e t)
theorem killIds_clean : ∀ (Φ : List Fc) (e : Env), Clean Φ (Env.killIds Φ e)
  | g :: l, e, f, hf, t, ht => by
    rcases List.mem_cons.1 hf with rfl | hf
    · exact killIds_keep (Φ := l) (killOut_clean f e) f (by simp) t ht
    · exact killIds_clean l (e.killOut g) f hf t ht
theorem R.killOut {cx : Cx} {σ : Obs} {a : Act} {w : World} {e : Env} (f : Fc) : R cx e σ a w → R cx (e.killOut f) σ a w
  | ⟨F, ρ, h⟩ => by
    have henv : ∀ t, RepS F ρ w (a.tmps.getD t undef) (e.killOut f t) := fun t => by
      unfold Env.killOut
      cases f.slots.contains t with
      | true => exact h.env t
      | false => exact (h.killEnv f.id).env t
    exact ⟨F, ρ, h.size, h.defers, h.lt, h.base, h.new, h.below, h.hB, henv, h.obs, h.up, h.kown, h.fixed⟩
theorem R.killIds {cx : Cx} {σ : Obs} {a : Act} {w : World} : ∀ (Φ : List Fc) {e : Env}, R cx e σ a w → R cx (Env.killIds Φ e) σ a w
  | [], _, h => h
  | f :: l, _, h => R.killIds l (R.killOut f h)
/-- The same, with a tail that waits for all before it. -/
theorem AWP.drawLTail {cx : Cx} {id : Nat} {l : List Oper} {e : Env} {σ : Obs} {Q : Post} (k : Nat) (Φ : List Fc) (E : List (Nat × List Nat)) (I : Obs → Prop) (hm : cx.P.follows .mixedOrders = true) (hB : Region.lexB .any (l.take k).toArray = true)
    (hS : Region.keysFrom (l.take k).toArray (fun k => E.any fun p => Nat.beq p.1 k) (fun k => ((E.find? fun p => Nat.beq p.1 k).map Prod.snd).getD []) (l.take k).length 0 (Array.replicate (l.take k).length false) = true) (hC : Region.chainB l.toArray k = true)
    (h : LRun cx (l.take k).toArray Φ (fun k => E.any fun p => Nat.beq p.1 k) (fun k => ((E.find? fun p => Nat.beq p.1 k).map Prod.snd).getD []) I 0 (l.take k) (Env.killIds Φ e) σ (fun e σ => AOps cx l.toArray (l.drop k) e σ Q)) : AWP cx (.region id l.toArray true) e σ Q := by
  intro a w ⟨F, ρ, hr⟩
  simp only [Region.lexB, Bool.and_eq_true] at hB
  have hch := Chain.of hC
  have hkl : k ≤ l.length := by simpa using hch.le
  have hK : ∀ k, (E.any fun p => Nat.beq p.1 k) = false → ((E.find? fun p => Nat.beq p.1 k).map Prod.snd).getD [] = [] := fun k hk => by
    have : E.find? (fun p => Nat.beq p.1 k) = none := List.find?_eq_none.2 fun p hp hh => by
      have : (E.any fun p => Nat.beq p.1 k) = true := List.any_eq_true.2 ⟨p, hp, hh⟩
      rw [hk] at this
      simp at this
    rw [this]; rfl
  have h1 := anyL_lex hK (l.take k) 0 (Array.replicate (l.take k).toArray.size false) _ σ (by simp) (by simpa using hB.2) (by simpa using hS) h
  have h2 := wpAny_of_L (cx := cx) (ops := (l.take k).toArray) (Q := fun ex e σ => match ex with | .normal => AOps cx l.toArray (l.drop k) e σ Q | _ => False) (fun ex e σ hne hq => by cases ex <;> first | exact absurd rfl hne | exact hq.elim) (by simpa using LRun.dsts _ 0 _ σ h) _ _ _ σ a _ (R.killIds Φ ⟨F, ρ, hr.drew⟩) (killIds_clean Φ e) h1
  refine wp_region_any hm (wpAny_split hch (ops0 := (l.take k).toArray) (by simp; omega) (fun j hj => by simp [hj]) ?_ ?_ (l.take k).length _ _ _ _ _ (by simp; omega) (by simp) ?_ ?_ ?_ (by simp; omega) h2)
  · rintro a w ⟨e, σ, h3, h4⟩
    have := h3 a w h4
    simpa using this
  · rintro ex a w hne ⟨e, σ, h3, _⟩
    cases ex <;> first | exact absurd rfl hne | exact h3.elim
  · intro j hj d
    have h5 : j < l.length := by omega
    have h6 : j < min k l.length := by omega
    simp [Array.getD_eq_getD_getElem?, h5, h6]
  · intro j hj hj2
    have : j < l.length := by simpa using hj2
    simp [Array.getD_eq_getD_getElem?, this]
  · intro i o ho hi
    have : i < l.length := by simpa using (Array.getElem?_eq_some_iff.1 ho).1
    simp [Array.getD_eq_getD_getElem?, this] at hi
section
variable {cx : Cx} {ops : Array Oper} {Φ : List Fc} {ef : Nat → Bool} {K : Nat → List Nat} {I : Obs → Prop} {n : Nat} {o : Oper} {l : List Oper} {e : Env} {σ : Obs} {Q : Env → Obs → Prop}
def cleanS (t : Nat) (s : S) : List Fc → Prop
  | [] => True
  | f :: l => (f.slots.contains t = true ∨ s.kill f.id = s) ∧ cleanS t s l
theorem cleanS.all {t : Nat} {s : S} : ∀ {l : List Fc}, cleanS t s l → ∀ f ∈ l, f.slots.contains t = true ∨ s.kill f.id = s
  | [], _, f, hf => by cases hf
  | g :: l, h, f, hf => by
    cases hf with
    | head => exact h.1
    | tail _ hf => exact cleanS.all h.2 f hf
theorem LRun.nil (h : Q e σ) : LRun cx ops Φ ef K I n [] e σ Q := h
theorem LRun.step {s : S} {t : Nat} (hg : GW ops o e true) (ht : o.dst = some t) (hd : Nat.blt t cx.N = true) (hI : I σ) (h : ∀ τ, I τ → AOp cx.P cx.B ops o e τ s) (k : LRun cx ops Φ ef K I (n + 1) l (e.put (some t) s) σ Q) (he : ef n = false := by rfl) (hc : cleanS t s Φ := by first | exact ⟨.inr rfl, trivial⟩ | exact ⟨.inl rfl, trivial⟩) : LRun cx ops Φ ef K I n (o :: l) e σ Q :=
  ⟨by unfold DstOk; rw [ht]; exact hd, _, _, .inl ⟨hg, he, s, hI, h, fun f hf => (hc.all f hf).imp (fun h => ⟨t, ht, h⟩) id, rfl, rfl⟩, by rw [ht]; exact k⟩
def cleanL (Φ : List Fc) : List (Nat × S) → Prop
  | [] => True
  | p :: l => (∀ f ∈ Φ, f.slots.contains p.1 = true ∨ p.2.kill f.id = p.2) ∧ cleanL Φ l
theorem LRun.eff {si : List (Nat × S)} {σ' : Obs} (hg : GW ops o e true) (hd : DstOk cx.N o) (h1 : I σ) (h2 : I σ') (h : GE cx ops Φ o e σ si σ') (k : LRun cx ops Φ ef K I (n + 1) l (Env.puts e si) σ' Q) (hc : ∀ p ∈ si, ∀ f ∈ Φ, f.slots.contains p.1 = true ∨ p.2.kill f.id = p.2) (he : ef n = true := by rfl) (hk : si.map Prod.fst = K n := by rfl) : LRun cx ops Φ ef K I n (o :: l) e σ Q :=
  ⟨hd, _, _, .inr (.inr ⟨hg, he, h1, h2, si, hk, h, hc, rfl⟩), k⟩
theorem triple_eq {id a b c : Nat} {e0 e : Env} (hab : a ≠ b) (hac : a ≠ c) (hbc : b ≠ c) (hb : e0 b = e b) (hcc : e0 c = e c) (hc : ∀ t, t ≠ a → t ≠ b → t ≠ c → (e0 t).kill id = e0 t) : (e0.kill id).put (some a) (.own id) = Env.puts e0 [(c, (e c).kill id), (b, (e b).kill id), (a, .own id)] := by
  funext t
  show _ = (((e0.put (some c) ((e c).kill id)).put (some b) ((e b).kill id)).put (some a) (.own id)) t
  by_cases h1 : t = a
  · subst h1; rw [Env.put_same, Env.put_same]
  · rw [Env.put_other _ _ _ _ h1, Env.put_other _ _ _ _ h1]
    by_cases h2 : t = b
    · subst h2; rw [Env.put_same]; show (e0 t).kill id = _; rw [hb]
    · rw [Env.put_other _ _ _ _ h2]
      by_cases h3 : t = c
      · subst h3; rw [Env.put_same]; show (e0 t).kill id = _; rw [hcc]
      · rw [Env.put_other _ _ _ _ h3]; exact hc t h1 h2 h3
/-- An append to a row that two other slots hold. -/
theorem GE.append3 {s x : Operand} {t ee size bytes dst : Nat} {z : Value} {els els2 : List (List D)} {σ' : Obs} (id b c : Nat) {sl : List Nat} (hΦ : ⟨id, sl⟩ ∈ Φ) (hsl : ∀ t, t ≠ dst → t ≠ b → t ≠ c → sl.contains t = false) (hab : dst ≠ b) (hac : dst ≠ c) (hbc : b ≠ c) (hg : o.guard = none)
    (ho : o.op = .call { callee := .builtin .append, args := #[s, x], argTypes := #[t, t] }) (hd : o.dst = some dst) (hdn' : Nat.blt dst cx.N = true) (T : ElemTy cx.P t ee size bytes z) (hs : e.ev s = .own id) (hm : (id, Ob.row ee size els) ∈ σ)
    (hx : e.ev x = .d (.sl els2)) (hsz : ∀ y ∈ els2, y.length = size) (hb : (els.length + els2.length) * bytes ≤ 140737488355328) (hn : els.length + els2.length ≤ 9223372036854775807) (hσ : Obs.upd id (.row ee size (els ++ els2)) (Obs.kill id σ) = σ') (hfx : cx.free id = true := by rfl) :
    GE cx ops Φ o e σ [(c, (e c).kill id), (b, (e b).kill id), (dst, .own id)] σ' := fun e0 h1 h2 h3 => by
  have e1 : e0.ev s = e.ev s := ev_same fun t hxt => h1 t (looks_op (by rw [ho, ← hxt]; simp [Op.operands, Call.operands]))
  have e2 : e0.ev x = e.ev x := ev_same fun t hxt => h1 t (looks_op (by rw [ho, ← hxt]; simp [Op.operands, Call.operands]))
  have hp := triple_eq (id := id) (e0 := e0) (e := e) hab hac hbc (h2 b (by simp)) (h2 c (by simp)) fun t ht1 ht2 ht3 => h3 _ hΦ t (hsl t ht1 ht2 ht3)
  exact AOps.append hg ho hd hdn' T (e1.trans hs) hm (e2.trans hx) hsz hb hn (.nil ⟨hp, hσ⟩) hfx
end
end Go.Proofs.YtcilhhkmgebkeaaGreatDoor


namespace Go.Proofs.YtcilhhkmgebkeaaGreatDoor
open Go.RowKit
set_option linter.unusedVariables false

/-! Types. -/
namespace TyLP
theorem ag_25 : AggT Tryz.prog 25 2 := .of (by kernel_rfl)
theorem ag_28 : AggT Tryz.prog 28 4 := .of (by kernel_rfl)
theorem ag_51 : AggT Tryz.prog 51 2 := .of (by kernel_rfl)
theorem bu_25 : StructT Tryz.prog 25 (fun i => (#[(0, 1), (1, 1)] : Array (Nat × Nat))[i]?) [(.slice none 0 0), (.slice none 0 0)] := .of (by kernel_rfl) (by kernel_rfl) (by decide)
theorem bu_28 : StructT Tryz.prog 28 (fun i => (#[(0, 1), (1, 1), (2, 1), (3, 1)] : Array (Nat × Nat))[i]?) [(.slice none 0 0), (.slice none 0 0), (.slice none 0 0), (.slice none 0 0)] := .of (by kernel_rfl) (by kernel_rfl) (by decide)
theorem sz_25 : ∀ w, (sizeOf 25).run Tryz.prog w = .ok 2 w := SizeT.of (by kernel_rfl)
theorem sz_28 : ∀ w, (sizeOf 28).run Tryz.prog w = .ok 4 w := SizeT.of (by kernel_rfl)
theorem sz_51 : ∀ w, (sizeOf 51).run Tryz.prog w = .ok 2 w := SizeT.of (by kernel_rfl)
theorem zt_25 : (Tryz.prog.info? 25).bind (·.zero) = some (.agg #[(.slice none 0 0), (.slice none 0 0)]) := by kernel_rfl
theorem zt_28 : (Tryz.prog.info? 28).bind (·.zero) = some (.agg #[(.slice none 0 0), (.slice none 0 0), (.slice none 0 0), (.slice none 0 0)]) := by kernel_rfl
theorem zt_51 : (Tryz.prog.info? 51).bind (·.zero) = some (.agg #[(.map none), (.map none)]) := by kernel_rfl
end TyLP
open TyLP


set_option linter.unusedSimpArgs false
theorem cl_triple2 {a b c id id2 : Nat} {s s' s'' : S} {sl sl2 : List Nat} (ha : sl.contains a = true) (hb : sl.contains b = true) (hc : sl.contains c = true) (h1 : s.kill id2 = s) (h2 : s'.kill id2 = s') (h3 : s''.kill id2 = s'') : ∀ p ∈ [(a, s), (b, s'), (c, s'')], ∀ f ∈ [(⟨id, sl⟩ : Fc), ⟨id2, sl2⟩], f.slots.contains p.1 = true ∨ p.2.kill f.id = p.2 := by
  intro p hp f hf
  rcases List.mem_cons.1 hf with rfl | hf
  · refine .inl ?_
    rcases List.mem_cons.1 hp with rfl | hp
    · exact ha
    · rcases List.mem_cons.1 hp with rfl | hp
      · exact hb
      · obtain rfl := List.mem_singleton.1 hp; exact hc
  · obtain rfl := List.mem_singleton.1 hf
    refine .inr ?_
    rcases List.mem_cons.1 hp with rfl | hp
    · exact h1
    · rcases List.mem_cons.1 hp with rfl | hp
      · exact h2
      · obtain rfl := List.mem_singleton.1 hp; exact h3
theorem cl_triple2' {a b c id id2 : Nat} {s s' s'' : S} {sl sl2 : List Nat} (ha : sl.contains a = true) (hb : sl.contains b = true) (hc : sl.contains c = true) (h1 : s.kill id2 = s) (h2 : s'.kill id2 = s') (h3 : s''.kill id2 = s'') : ∀ p ∈ [(a, s), (b, s'), (c, s'')], ∀ f ∈ [(⟨id2, sl2⟩ : Fc), ⟨id, sl⟩], f.slots.contains p.1 = true ∨ p.2.kill f.id = p.2 := fun p hp f hf =>
  cl_triple2 ha hb hc h1 h2 h3 p hp f (by
    rcases List.mem_cons.1 hf with rfl | hf
    · exact .tail _ (.head _)
    · obtain rfl := List.mem_singleton.1 hf; exact .head _)
theorem applyV_c {c : Ctl} {x : Chg} (h : chkF c ≠ 0) : applyV c x = (zC, zX, chkF c) := if_neg h
theorem applyV_x {c : Ctl} {x : Chg} (h : chkF c = 0) (h2 : chgF x ≠ 0) : applyV c x = (zC, zX, chgF x) := by unfold applyV; rw [if_pos h, if_neg h2]
theorem applyV_0 {c : Ctl} {x : Chg} (h : chkF c = 0) (h2 : chgF x = 0) : applyV c x = appV c x := by unfold applyV; rw [if_pos h, if_pos h2]
abbrev cmpT (x y : Chg) : TL := putAll (xT x) (xT y)
abbrev cmpM (x y : Chg) : ML := putAll (xM x) (xM y)
def compX (x y : Chg) : Chg := chgO (cmpT x y) (cmpM x y)
def composeV (x y : Chg) : Chg × Int := if chgF x = 0 then (if chgF y = 0 then (if chgF (compX x y) = 0 then (compX x y, 0) else (zX, chgF (compX x y))) else (zX, chgF y)) else (zX, chgF x)
def differX (a b : Ctl) : Chg := chgO (fromE (cT b) (cT a) (keysG (cT a) ++ keysG (cT b))) (fromE (cM b) (cM a) (keysG (cM a) ++ keysG (cM b)))
def differV (a b : Ctl) : Chg × Int := if chkF a = 0 then (if chkF b = 0 then (differX a b, 0) else (zX, chkF b)) else (zX, chkF a)
theorem diff_f {x y : Ctl} {k : Nat} (hk : k < [x, y].length) (hb : ∀ z ∈ [x, y].take k, chkF z = 0) (h : chkF [x, y][k] ≠ 0) : differV x y = (zX, chkF [x, y][k]) := by
  match k, hk with
  | 0, _ => unfold differV; rw [if_neg (show ¬ chkF x = 0 from h)]; rfl
  | 1, _ => unfold differV; rw [if_pos (hb x (by simp)), if_neg (show ¬ chkF y = 0 from h)]; rfl
theorem diff_0 {x y : Ctl} (hx : chkF x = 0) (hy : chkF y = 0) : differV x y = (differX x y, 0) := by unfold differV; rw [if_pos hx, if_pos hy]
theorem two_s {α : Type} {f : α → Int} {x y : α} {k : Nat} (hk : k < [x, y].length) (hb : ∀ z ∈ [x, y].take k, f z = 0) (h : f [x, y][k] = 0) : ∀ z ∈ [x, y].take (k + 1), f z = 0 := fun z hz => by
  rw [List.take_add_one, List.getElem?_eq_getElem hk, Option.toList_some, List.mem_append, List.mem_singleton] at hz
  rcases hz with hz | rfl
  · exact hb z hz
  · exact h
theorem two_e {α : Type} {f : α → Int} {x y : α} {k : Nat} (hk : 2 ≤ k) (hb : ∀ z ∈ [x, y].take k, f z = 0) : f x = 0 ∧ f y = 0 := by
  rw [List.take_of_length_le (by simpa using hk)] at hb
  exact ⟨hb x (by simp), hb y (by simp)⟩
theorem two_m {α : Type} {p : α → Prop} {x y : α} (hx : p x) (hy : p y) {k : Nat} (hk : k < [x, y].length) : p [x, y][k] := by
  match k, hk with
  | 0, _ => exact hx
  | 1, _ => exact hy


set_option maxRecDepth 100000 in
set_option maxHeartbeats 1000000 in
theorem c_pApply (c : Ctl) (x : Chg) (hc : CtlOk c) (hx : XIn x) : ACallT Tryz.prog MaxT 7 [.agg c.ds, .agg x.ds] (.tup [.agg (applyV c x).1.ds, .agg (applyV c x).2.1.ds, .v (.int .i64 (applyV c x).2.2)]) := by
  refine acall_ofRT (n := 29) (ds' := [.agg (applyV c x).1.ds, .agg (applyV c x).2.1.ds, .v (.int .i64 (applyV c x).2.2)]) Tryz.func7 rfl (by kernel_rfl) rfl [.cell 4 25, .cell 5 28, .tmp 6] rfl rfl ?_
  intro B w0 F0 hT
  refine AWP.seq (AWP.region ?_)
  refine AOps.step rfl rfl rfl (AOp.box rfl rfl rfl) ?_
  refine AOps.step rfl rfl rfl (AOp.box rfl rfl rfl) ?_
  refine AOps.alloc 101 rfl rfl rfl rfl zt_25 rfl rfl rfl ?_
  refine AOps.alloc 102 rfl rfl rfl rfl zt_28 rfl rfl rfl ?_
  refine AOps.aD rfl rfl rfl rfl rfl (.nil ?_)
  refine AWP.seq ?_
  refine AWP.seq (AWP.region ?_)
  refine AOps.step rfl rfl rfl (AOp.loadAgg rfl ag_25 rfl rfl) ?_
  -- wants the world
  refine AOps.callT rfl rfl rfl hT maxT_stays rfl (.cons (ArgOk.rfl' rfl) .nil) (c_pChk c hc) ?_
  refine AOps.aD rfl rfl rfl rfl rfl (.nil ?_)
  refine AWP.seq (AWP.region ?_)
  refine AOps.mD rfl rfl rfl rfl rfl ?_
  refine AOps.step rfl rfl rfl (AOp.neq rfl rfl rfl) (.nil ?_)
  refine AWP.cond rfl (fun h1 => ?_) (fun h1 => ?_)
  · replace h1 := of_decide_eq_true h1
    rw [applyV_c (by first | exact h1 | omega)]
    refine AWP.seq (AWP.region ?_)
    refine AOps.step rfl rfl rfl (AOp.build rfl bu_25 .nil rfl) ?_
    refine AOps.step rfl rfl rfl (AOp.build rfl bu_28 .nil rfl) ?_
    refine AOps.mD rfl rfl rfl rfl rfl ?_
    refine AOps.store rfl rfl rfl sz_25 rfl (.tail _ (.head _)) rfl rfl rfl (Nat.le_of_ble_eq_true rfl) ?_
    refine AOps.store rfl rfl rfl sz_28 rfl (.head _) rfl rfl rfl (Nat.le_of_ble_eq_true rfl) ?_
    refine AOps.aD rfl rfl rfl rfl rfl (.nil ?_)
    refine AWP.ret ?_
    refine ⟨RetR.agg rfl (.tail _ (.head _)) ag_25 rfl (.cons (by first | exact CellD.nil | exact CellD.d | exact CellD.eq (by simp) | (refine CellD.own (by first | exact .head _ | exact .tail _ (.head _)) ?_; rfl)) (.cons (by first | exact CellD.nil | exact CellD.d | exact CellD.eq (by simp) | (refine CellD.own (by first | exact .head _ | exact .tail _ (.head _)) ?_; rfl)) .nil)), RetR.agg rfl (.head _) ag_28 rfl (.cons (by first | exact CellD.nil | exact CellD.d | exact CellD.eq (by simp) | (refine CellD.own (by first | exact .head _ | exact .tail _ (.head _)) ?_; rfl)) (.cons (by first | exact CellD.nil | exact CellD.d | exact CellD.eq (by simp) | (refine CellD.own (by first | exact .head _ | exact .tail _ (.head _)) ?_; rfl)) (.cons (by first | exact CellD.nil | exact CellD.d | exact CellD.eq (by simp) | (refine CellD.own (by first | exact .head _ | exact .tail _ (.head _)) ?_; rfl)) (.cons (by first | exact CellD.nil | exact CellD.d | exact CellD.eq (by simp) | (refine CellD.own (by first | exact .head _ | exact .tail _ (.head _)) ?_; rfl)) .nil)))), RetD.eq rfl ?_, trivial⟩
    all_goals (rfl)
  replace h1 := of_decide_eq_false h1
  have hk0 : chkF c = 0 := (by first | exact h1 | omega)
  refine AWP.skip ?_
  refine AWP.seq ?_
  refine AWP.seq (AWP.region ?_)
  refine AOps.step rfl rfl rfl (AOp.loadAgg rfl ag_28 rfl rfl) ?_
  refine AOps.step rfl rfl rfl (AOp.call rfl (.cons (ArgOk.rfl' rfl) .nil) (c_pCC x)) ?_
  refine AOps.aD rfl rfl rfl rfl rfl (.nil ?_)
  refine AWP.seq (AWP.region ?_)
  refine AOps.mD rfl rfl rfl rfl rfl ?_
  refine AOps.step rfl rfl rfl (AOp.neq rfl rfl rfl) (.nil ?_)
  refine AWP.cond rfl (fun h2 => ?_) (fun h2 => ?_)
  · replace h2 := of_decide_eq_true h2
    rw [applyV_x hk0 (by first | exact h2 | omega)]
    refine AWP.seq (AWP.region ?_)
    refine AOps.step rfl rfl rfl (AOp.build rfl bu_25 .nil rfl) ?_
    refine AOps.step rfl rfl rfl (AOp.build rfl bu_28 .nil rfl) ?_
    refine AOps.mD rfl rfl rfl rfl rfl ?_
    refine AOps.store rfl rfl rfl sz_25 rfl (.tail _ (.head _)) rfl rfl rfl (Nat.le_of_ble_eq_true rfl) ?_
    refine AOps.store rfl rfl rfl sz_28 rfl (.head _) rfl rfl rfl (Nat.le_of_ble_eq_true rfl) ?_
    refine AOps.aD rfl rfl rfl rfl rfl (.nil ?_)
    refine AWP.ret ?_
    refine ⟨RetR.agg rfl (.tail _ (.head _)) ag_25 rfl (.cons (by first | exact CellD.nil | exact CellD.d | exact CellD.eq (by simp) | (refine CellD.own (by first | exact .head _ | exact .tail _ (.head _)) ?_; rfl)) (.cons (by first | exact CellD.nil | exact CellD.d | exact CellD.eq (by simp) | (refine CellD.own (by first | exact .head _ | exact .tail _ (.head _)) ?_; rfl)) .nil)), RetR.agg rfl (.head _) ag_28 rfl (.cons (by first | exact CellD.nil | exact CellD.d | exact CellD.eq (by simp) | (refine CellD.own (by first | exact .head _ | exact .tail _ (.head _)) ?_; rfl)) (.cons (by first | exact CellD.nil | exact CellD.d | exact CellD.eq (by simp) | (refine CellD.own (by first | exact .head _ | exact .tail _ (.head _)) ?_; rfl)) (.cons (by first | exact CellD.nil | exact CellD.d | exact CellD.eq (by simp) | (refine CellD.own (by first | exact .head _ | exact .tail _ (.head _)) ?_; rfl)) (.cons (by first | exact CellD.nil | exact CellD.d | exact CellD.eq (by simp) | (refine CellD.own (by first | exact .head _ | exact .tail _ (.head _)) ?_; rfl)) .nil)))), RetD.eq rfl ?_, trivial⟩
    all_goals (rfl)
  replace h2 := of_decide_eq_false h2
  have hx0 : chgF x = 0 := (by first | exact h2 | omega)
  rw [applyV_0 hk0 hx0]
  refine AWP.skip ?_
  refine AWP.seq (AWP.region ?_)
  refine AOps.step rfl rfl rfl (AOp.loadAgg rfl ag_25 rfl rfl) ?_
  refine AOps.step rfl rfl rfl (AOp.loadAgg rfl ag_28 rfl rfl) ?_
  -- wants the world
  refine AOps.callT rfl rfl rfl hT maxT_stays rfl (.cons (ArgOk.rfl' rfl) (.cons (ArgOk.rfl' rfl) .nil)) (c_app c x (cIn hc hk0) hx (catOk hk0).lim (limX hx0)) ?_
  refine AOps.step rfl rfl rfl (AOp.extract rfl rfl rfl) ?_
  refine AOps.step rfl rfl rfl (AOp.extract rfl rfl rfl) ?_
  refine AOps.step rfl rfl rfl (AOp.extract rfl rfl rfl) ?_
  refine AOps.store rfl rfl rfl sz_25 rfl (.tail _ (.head _)) rfl rfl rfl (Nat.le_of_ble_eq_true rfl) ?_
  refine AOps.store rfl rfl rfl sz_28 rfl (.head _) rfl rfl rfl (Nat.le_of_ble_eq_true rfl) ?_
  refine AOps.aD rfl rfl rfl rfl rfl (.nil ?_)
  refine AWP.ret ?_
  refine ⟨RetR.agg rfl (.tail _ (.head _)) ag_25 rfl (.cons (by first | exact CellD.nil | exact CellD.d | exact CellD.eq (by simp) | (refine CellD.own (by first | exact .head _ | exact .tail _ (.head _)) ?_; rfl)) (.cons (by first | exact CellD.nil | exact CellD.d | exact CellD.eq (by simp) | (refine CellD.own (by first | exact .head _ | exact .tail _ (.head _)) ?_; rfl)) .nil)), RetR.agg rfl (.head _) ag_28 rfl (.cons (by first | exact CellD.nil | exact CellD.d | exact CellD.eq (by simp) | (refine CellD.own (by first | exact .head _ | exact .tail _ (.head _)) ?_; rfl)) (.cons (by first | exact CellD.nil | exact CellD.d | exact CellD.eq (by simp) | (refine CellD.own (by first | exact .head _ | exact .tail _ (.head _)) ?_; rfl)) (.cons (by first | exact CellD.nil | exact CellD.d | exact CellD.eq (by simp) | (refine CellD.own (by first | exact .head _ | exact .tail _ (.head _)) ?_; rfl)) (.cons (by first | exact CellD.nil | exact CellD.d | exact CellD.eq (by simp) | (refine CellD.own (by first | exact .head _ | exact .tail _ (.head _)) ?_; rfl)) .nil)))), RetD.eq rfl ?_, trivial⟩
  all_goals (rfl)

end Go.Proofs.YtcilhhkmgebkeaaGreatDoor


namespace Go.Proofs.YtcilhhkmgebkeaaGreatDoor
open Go.RowKit
set_option linter.unusedVariables false

/-! Types. -/
namespace TyLQ
theorem ag_25 : AggT Tryz.prog 25 2 := .of (by kernel_rfl)
theorem ag_28 : AggT Tryz.prog 28 4 := .of (by kernel_rfl)
theorem ag_51 : AggT Tryz.prog 51 2 := .of (by kernel_rfl)
theorem bu_28 : StructT Tryz.prog 28 (fun i => (#[(0, 1), (1, 1), (2, 1), (3, 1)] : Array (Nat × Nat))[i]?) [(.slice none 0 0), (.slice none 0 0), (.slice none 0 0), (.slice none 0 0)] := .of (by kernel_rfl) (by kernel_rfl) (by decide)
theorem et_26 : ElemTy Tryz.prog 26 3 1 8 (.int .i64 0) := ⟨by kernel_rfl, by kernel_rfl, by kernel_rfl, by decide⟩
theorem et_47 : ElemTy Tryz.prog 47 25 2 48 (.agg #[(.slice none 0 0), (.slice none 0 0)]) := ⟨by kernel_rfl, by kernel_rfl, by kernel_rfl, by decide⟩
theorem fo_51_0 : fieldOff Tryz.prog 51 0 = some 0 := by kernel_rfl
theorem fo_51_1 : fieldOff Tryz.prog 51 1 = some 1 := by kernel_rfl
theorem sc_48 : Scal Tryz.prog 48 := .of (by kernel_rfl)
theorem sc_49 : Scal Tryz.prog 49 := .of (by kernel_rfl)
theorem sz_25 : ∀ w, (sizeOf 25).run Tryz.prog w = .ok 2 w := SizeT.of (by kernel_rfl)
theorem sz_28 : ∀ w, (sizeOf 28).run Tryz.prog w = .ok 4 w := SizeT.of (by kernel_rfl)
theorem sz_51 : ∀ w, (sizeOf 51).run Tryz.prog w = .ok 2 w := SizeT.of (by kernel_rfl)
theorem zt_25 : (Tryz.prog.info? 25).bind (·.zero) = some (.agg #[(.slice none 0 0), (.slice none 0 0)]) := by kernel_rfl
theorem zt_28 : (Tryz.prog.info? 28).bind (·.zero) = some (.agg #[(.slice none 0 0), (.slice none 0 0), (.slice none 0 0), (.slice none 0 0)]) := by kernel_rfl
theorem zt_51 : (Tryz.prog.info? 51).bind (·.zero) = some (.agg #[(.map none), (.map none)]) := by kernel_rfl
end TyLQ
open TyLQ


theorem mem_two2 {p : Int → Prop} {a b : List Int} (ha : ∀ n ∈ a, p n) (hb : ∀ n ∈ b, p n) : ∀ n ∈ a ++ b, p n := fun n hn => (List.mem_append.1 hn).elim (ha n) (hb n)


set_option maxRecDepth 100000 in
set_option maxHeartbeats 4000000 in
theorem c_pDiff (x y : Ctl) (ox : CtlOk x) (oy : CtlOk y) : ACallT Tryz.prog MaxT 10 [.agg x.ds, .agg y.ds] (.tup [.agg (differV x y).1.ds, .v (.int .i64 (differV x y).2)]) := by
  refine acall_ofRT (n := 51) (ds' := [.agg (differV x y).1.ds, .v (.int .i64 (differV x y).2)]) Tryz.func10 rfl (by kernel_rfl) rfl [.cell 4 28, .tmp 5] rfl rfl ?_
  intro B w0 F0 hT
  refine AWP.seq (AWP.region ?_)
  refine AOps.step rfl rfl rfl (AOp.box rfl rfl rfl) ?_
  refine AOps.step rfl rfl rfl (AOp.box rfl rfl rfl) ?_
  refine AOps.alloc 101 rfl rfl rfl rfl zt_28 rfl rfl rfl ?_
  refine AOps.aD rfl rfl rfl rfl rfl (.nil ?_)
  refine AWP.seq ?_
  refine AWP.seq (AWP.region ?_)
  refine AOps.step rfl rfl rfl (AOp.loadAgg rfl ag_25 rfl rfl) ?_
  refine AOps.step rfl rfl rfl (AOp.loadAgg rfl ag_25 rfl rfl) ?_
  refine AOps.step rfl rfl rfl (AOp.buildSlice rfl et_47 (.cons rfl rfl rfl (.cons rfl rfl rfl .nil)) rfl (by decide)) ?_
  refine AOps.step rfl rfl rfl (AOp.lenSl rfl et_47.ht rfl) ?_
  refine AOps.mD rfl rfl rfl rfl rfl (.nil ?_)
  refine AWP.block ?_
  refine AWP.loop (G := Nat) (fun k => Env.of [(17, .d (.v (.int .i64 (k : Int)))), (15, .d (.sl ([x, y].map Ctl.ds))), (16, .d (.v (.int .i64 2))), (2, .d (.fp x.ds)), (3, .d (.fp y.ds)), (4, .ptr 101 0)]) (fun k => [(101, .cells [.d (.v (.slice none 0 0)), .d (.v (.slice none 0 0)), .d (.v (.slice none 0 0)), .d (.v (.slice none 0 0))])]) (fun k => k ≤ 2 ∧ ∀ z ∈ [x, y].take k, chkF z = 0) (fun k => 2 - k) 0 ⟨Nat.zero_le _, fun z h => by simp at h⟩ (Sub.less ⟨(SLe.of_eq rfl), (SLe.of_eq rfl), (SLe.of_eq rfl), SLe.refl _, SLe.refl _, SLe.refl _, trivial⟩ (fun _ h => h)) ?_
  intro k hk
  refine AWP.seq (AWP.region ?_)
  refine AOps.step rfl rfl rfl (AOp.lss rfl rfl rfl) (.nil ?_)
  refine AWP.seq ?_
  refine AWP.cond rfl (fun h1 => ?_) (fun h1 => ?_)
  · replace h1 := of_decide_eq_true h1
    have hlt : k < [x, y].length := by have := h1; simp at this ⊢; omega
    have hz : CtlOk [x, y][k] := two_m ox oy hlt
    refine AWP.skip ?_
    refine AWP.seq ?_
    refine AWP.block ?_
    refine AWP.seq (AWP.region ?_)
    refine AOps.step rfl rfl rfl (AOp.indexAddr rfl et_47 rfl rfl k rfl (at_lst (l := [x, y]) hlt) rfl) ?_
    refine AOps.step rfl rfl rfl (AOp.loadAgg rfl ag_25 rfl rfl) ?_
    refine AOps.alloc 102 rfl rfl rfl rfl zt_25 rfl rfl rfl ?_
    refine AOps.store rfl rfl rfl sz_25 rfl (.head _) rfl rfl rfl (Nat.le_of_ble_eq_true rfl) ?_
    refine AOps.freezeCells 7 (ds := ([x, y][k]).ds) rfl (.head _) (.nil ?_)
    refine AWP.seq (AWP.region ?_)
    refine AOps.step rfl rfl rfl (AOp.loadAgg rfl ag_25 rfl rfl) ?_
    -- wants the world
    refine AOps.callT rfl rfl rfl hT maxT_stays rfl (.cons (ArgOk.rfl' rfl) .nil) (c_pChk _ hz) ?_
    refine AOps.aD rfl rfl rfl rfl rfl (.nil ?_)
    refine AWP.seq (AWP.region ?_)
    refine AOps.mD rfl rfl rfl rfl rfl ?_
    refine AOps.step rfl rfl rfl (AOp.neq rfl rfl rfl) (.nil ?_)
    refine AWP.cond rfl (fun h2 => ?_) (fun h2 => ?_)
    · replace h2 := of_decide_eq_true h2
      rw [diff_f hlt hk.2 (by first | exact h2 | omega)]
      refine AWP.seq (AWP.region ?_)
      refine AOps.step rfl rfl rfl (AOp.build rfl bu_28 .nil rfl) ?_
      refine AOps.mD rfl rfl rfl rfl rfl ?_
      refine AOps.store rfl rfl rfl sz_28 rfl (.head _) rfl rfl rfl (Nat.le_of_ble_eq_true rfl) ?_
      refine AOps.aD rfl rfl rfl rfl rfl (.nil ?_)
      refine AWP.ret ?_
      refine ⟨RetR.agg rfl (.head _) ag_28 rfl (.cons (by first | exact CellD.nil | exact CellD.d | exact CellD.eq (by simp) | (refine CellD.own (by first | exact .head _ | exact .tail _ (.head _)) ?_; rfl)) (.cons (by first | exact CellD.nil | exact CellD.d | exact CellD.eq (by simp) | (refine CellD.own (by first | exact .head _ | exact .tail _ (.head _)) ?_; rfl)) (.cons (by first | exact CellD.nil | exact CellD.d | exact CellD.eq (by simp) | (refine CellD.own (by first | exact .head _ | exact .tail _ (.head _)) ?_; rfl)) (.cons (by first | exact CellD.nil | exact CellD.d | exact CellD.eq (by simp) | (refine CellD.own (by first | exact .head _ | exact .tail _ (.head _)) ?_; rfl)) .nil)))), RetD.eq rfl ?_, trivial⟩
      all_goals (rfl)
    replace h2 := of_decide_eq_false h2
    have HN := two_s (f := chkF) hlt hk.2 (by first | exact h2 | omega)
    refine AWP.skip ?_
    refine AWP.region ?_
    refine AOps.step rfl rfl rfl (AOp.add64 rfl rfl rfl (by omega) (by omega)) ?_
    refine AOps.mD rfl rfl rfl rfl rfl (.nil ?_)
    refine ⟨k + 1, ⟨by simp at hlt; omega, HN⟩, (by dsimp only; simp at hlt; omega), Sub.less ⟨(SLe.of_eq rfl), SLe.refl _, SLe.refl _, SLe.refl _, SLe.refl _, SLe.refl _, trivial⟩ (fun _ h => h)⟩
  replace h1 := of_decide_eq_false h1
  obtain ⟨hx0, hy0⟩ := two_e (f := chkF) (by have := h1; simp at this ⊢; omega) hk.2
  rw [diff_0 hx0 hy0]
  have hx := cIn ox hx0
  have hy := cIn oy hy0
  have hlx := (catOk hx0).lim
  have hly := (catOk hy0).lim
  have n1 := cT_len hlx
  have n2 := cM_len hlx
  have n3 := cT_len hly
  have n4 := cM_len hly
  have q1 := keysG_len (cT x)
  have q2 := keysG_len (cM x)
  have q3 := keysG_len (cT y)
  have q4 := keysG_len (cM y)
  have HX := c_ofC x hlx hx.ok hx.parts
  have HY := c_ofC y hly hy.ok hy.parts
  refine AWP.exit ?_
  refine AWP.seq ?_
  refine AWP.drawFresh 6 [⟨9, 102, .ptr 102 0, .cells [.d (.v (.map none)), .d (.v (.map none))]⟩, ⟨10, 103, .ptr 103 0, .cells [.d (.v (.map none)), .d (.v (.map none))]⟩] (FrOk.two rfl (by simp) rfl rfl rfl rfl (by simp) rfl rfl rfl (Nat.ne_of_beq_eq_false rfl) (Nat.ne_of_beq_eq_false rfl) rfl rfl rfl rfl) (by kernel_rfl) (by kernel_rfl) (by kernel_rfl) (by kernel_rfl) ?_
  refine XRun.step rfl rfl rfl (AOp.loadAgg rfl ag_25 rfl rfl) ?_
  refine XRun.step rfl rfl rfl (AOp.call rfl (.cons (ArgOk.rfl' rfl) .nil) HX.toA) ?_
  refine XRun.step rfl rfl rfl (AOp.loadAgg rfl ag_25 rfl rfl) ?_
  refine XRun.step rfl rfl rfl (AOp.call rfl (.cons (ArgOk.rfl' rfl) .nil) HY.toA) ?_
  refine XRun.alloc _ (.head _) rfl rfl rfl rfl rfl zt_51 rfl rfl rfl rfl ?_
  refine XRun.alloc _ (.tail _ (.head _)) rfl rfl rfl rfl rfl zt_51 rfl rfl rfl rfl ?_
  refine XRun.nil ⟨rfl, rfl, trivial⟩ ?_
  refine AOps.store rfl rfl rfl sz_51 rfl (.head _) rfl rfl rfl (Nat.le_of_ble_eq_true rfl) ?_
  refine AOps.freezeCells 9 (ds := [.fm (encT (cT x)), .fm (encM (cM x))]) rfl (.head _) ?_
  refine AOps.store rfl rfl rfl sz_51 rfl (.head _) rfl rfl rfl (Nat.le_of_ble_eq_true rfl) ?_
  refine AOps.freezeCells 10 (ds := [.fm (encT (cT y)), .fm (encM (cM y))]) rfl (.head _) (.nil ?_)
  refine AWP.seq ?_
  refine AWP.weaken (e' := Env.of [(4, .ptr 101 0), (9, .d (.fp [.fm (encT (cT x)), .fm (encM (cM x))])), (10, .d (.fp [.fm (encT (cT y)), .fm (encM (cM y))]))]) (σ' := [(101, .cells [.d (.v (.slice none 0 0)), .d (.v (.slice none 0 0)), .d (.v (.slice none 0 0)), .d (.v (.slice none 0 0))])]) (Sub.less ⟨SLe.refl _, SLe.refl _, SLe.refl _, trivial⟩ (fun p h => h)) ?_
  refine AWP.drawFresh 6 [⟨34, 71, .own 71, .row 3 1 ((keysG (cT x)).map intD)⟩, ⟨37, 72, .own 72, .row 3 1 ((keysG (cM x)).map intD)⟩] (FrOk.two rfl (by simp) rfl rfl rfl rfl (by simp) rfl rfl rfl (Nat.ne_of_beq_eq_false rfl) (Nat.ne_of_beq_eq_false rfl) rfl rfl rfl rfl) (by kernel_rfl) (by kernel_rfl) (by kernel_rfl) (by kernel_rfl) ?_
  refine XRun.step rfl rfl rfl (AOp.fieldAddr rfl fo_51_0 rfl) ?_
  refine XRun.step rfl rfl rfl (AOp.load rfl sc_48 rfl) ?_
  refine XRun.callO _ (.head _) rfl rfl rfl rfl rfl (.cons (ArgOk.rfl' rfl) .nil) (c_keysT (cT x) (ofE_nk _) hx.vT.keys (by omega)) rfl rfl ?_
  refine XRun.step rfl rfl rfl (AOp.fieldAddr rfl fo_51_1 rfl) ?_
  refine XRun.step rfl rfl rfl (AOp.load rfl sc_49 rfl) ?_
  refine XRun.callO _ (.tail _ (.head _)) rfl rfl rfl rfl rfl (.cons (ArgOk.rfl' rfl) .nil) (c_keysM (cM x) (ofE_nk _) hx.vM.keys (by omega)) rfl rfl ?_
  refine XRun.nil ⟨rfl, rfl, trivial⟩ ?_
  refine AOps.step rfl rfl rfl (AOp.assignO rfl rfl) ?_
  refine AOps.step rfl rfl rfl (AOp.assignO rfl rfl) (.nil ?_)
  refine AWP.seq ?_
  refine AWP.weaken (e' := Env.of [(4, .ptr 101 0), (9, .d (.fp [.fm (encT (cT x)), .fm (encM (cM x))])), (10, .d (.fp [.fm (encT (cT y)), .fm (encM (cM y))])), (11, .own 71), (12, .own 72)]) (σ' := [(71, .row 3 1 ((keysG (cT x)).map intD)), (72, .row 3 1 ((keysG (cM x)).map intD)), (101, .cells [.d (.v (.slice none 0 0)), .d (.v (.slice none 0 0)), .d (.v (.slice none 0 0)), .d (.v (.slice none 0 0))])]) (Sub.less ⟨SLe.refl _, SLe.refl _, SLe.refl _, SLe.refl _, SLe.refl _, trivial⟩ (fun p h => h)) ?_
  refine AWP.drawLTail 12 [⟨71, [11, 40, 44]⟩, ⟨72, [12, 45, 49]⟩] [(6, [11, 40, 44]), (11, [12, 45, 49])] (fun _ => True) (by kernel_rfl) (by kernel_rfl) (by kernel_rfl) (by kernel_rfl) ?_
  refine LRun.step rfl rfl rfl trivial (fun τ _ => AOp.loadAgg rfl ag_51 rfl rfl) ?_ rfl ⟨.inr rfl, .inr rfl, trivial⟩
  refine LRun.step rfl rfl rfl trivial (fun τ _ => AOp.loadAgg rfl ag_51 rfl rfl) ?_ rfl ⟨.inr rfl, .inr rfl, trivial⟩
  refine LRun.step rfl rfl rfl trivial (fun τ _ => AOp.moveO rfl rfl) ?_ rfl ⟨.inl rfl, .inr rfl, trivial⟩
  refine LRun.step rfl rfl rfl trivial (fun τ _ => AOp.fieldAddr (ds := [.fm (encT (cT y)), .fm (encM (cM y))]) rfl fo_51_0 rfl) ?_ rfl ⟨.inr rfl, .inr rfl, trivial⟩
  refine LRun.step rfl rfl rfl trivial (fun τ _ => AOp.load rfl sc_48 rfl) ?_ rfl ⟨.inr rfl, .inr rfl, trivial⟩
  refine LRun.step rfl rfl rfl trivial (fun τ _ => AOp.call rfl (.cons (ArgOk.rfl' rfl) .nil) (c_keysT (cT y) (ofE_nk _) hy.vT.keys (by omega)).toA) ?_ rfl ⟨.inr rfl, .inr rfl, trivial⟩
  refine LRun.eff (σ' := [(71, .row 3 1 (((keysG (cT x)) ++ (keysG (cT y))).map intD)), (72, .row 3 1 ((keysG (cM x)).map intD)), (101, .cells [.d (.v (.slice none 0 0)), .d (.v (.slice none 0 0)), .d (.v (.slice none 0 0)), .d (.v (.slice none 0 0))])]) rfl rfl trivial trivial (GE.append3 71 40 11 (.head _) (fun t h1 h2 h3 => by simp [h1, h2, h3]) (by decide) (by decide) (by decide) rfl rfl rfl rfl et_26 rfl (.head _) rfl (fun y hy => by obtain ⟨n, _, rfl⟩ := List.mem_map.1 hy; rfl) (by simp; omega) (by simp; omega) (by simp only [List.map_append]; rfl)) ?_ (cl_triple2 rfl rfl rfl rfl rfl rfl)
  refine LRun.step rfl rfl rfl trivial (fun τ _ => AOp.moveO rfl rfl) ?_ rfl ⟨.inr rfl, .inl rfl, trivial⟩
  refine LRun.step rfl rfl rfl trivial (fun τ _ => AOp.fieldAddr (ds := [.fm (encT (cT y)), .fm (encM (cM y))]) rfl fo_51_1 rfl) ?_ rfl ⟨.inr rfl, .inr rfl, trivial⟩
  refine LRun.step rfl rfl rfl trivial (fun τ _ => AOp.load rfl sc_49 rfl) ?_ rfl ⟨.inr rfl, .inr rfl, trivial⟩
  refine LRun.step rfl rfl rfl trivial (fun τ _ => AOp.call rfl (.cons (ArgOk.rfl' rfl) .nil) (c_keysM (cM y) (ofE_nk _) hy.vM.keys (by omega)).toA) ?_ rfl ⟨.inr rfl, .inr rfl, trivial⟩
  refine LRun.eff (σ' := [(71, .row 3 1 (((keysG (cT x)) ++ (keysG (cT y))).map intD)), (72, .row 3 1 (((keysG (cM x)) ++ (keysG (cM y))).map intD)), (101, .cells [.d (.v (.slice none 0 0)), .d (.v (.slice none 0 0)), .d (.v (.slice none 0 0)), .d (.v (.slice none 0 0))])]) rfl rfl trivial trivial (GE.append3 72 45 12 (.tail _ (.head _)) (fun t h1 h2 h3 => by simp [h1, h2, h3]) (by decide) (by decide) (by decide) rfl rfl rfl rfl et_26 rfl (.tail _ (.head _)) rfl (fun y hy => by obtain ⟨n, _, rfl⟩ := List.mem_map.1 hy; rfl) (by simp; omega) (by simp; omega) (by simp only [List.map_append]; rfl)) ?_ (cl_triple2' rfl rfl rfl rfl rfl rfl)
  refine LRun.nil ?_
  refine AOps.freeze 44 rfl (.head _) ?_
  refine AOps.freeze 49 rfl (.head _) ?_
  refine AOps.step rfl rfl rfl (AOp.call rfl (.cons (ArgOk.rfl' rfl) (.cons (ArgOk.rfl' rfl) (.cons (ArgOk.rfl' rfl) (.cons (ArgOk.rfl' rfl) .nil)))) (c_from (cT y) (cT x) (cM y) (cM x) ((keysG (cT x)) ++ (keysG (cT y))) ((keysG (cM x)) ++ (keysG (cM y))) (ofE_nk _) (ofE_nk _) (ofE_nk _) (ofE_nk _) hy.vT hx.vT hy.vM hx.vM (mem_two2 hx.vT.mem_keys hy.vT.mem_keys) (mem_two2 hx.vM.mem_keys hy.vM.mem_keys) (by rw [List.length_append]; omega) (by rw [List.length_append]; omega))) ?_
  refine AOps.store rfl rfl rfl sz_28 rfl (.head _) rfl rfl rfl (Nat.le_of_ble_eq_true rfl) ?_
  refine AOps.aD rfl rfl rfl rfl rfl (.nil ?_)
  refine AWP.ret ?_
  refine ⟨RetR.agg rfl (.head _) ag_28 rfl (.cons (by first | exact CellD.nil | exact CellD.d | exact CellD.eq (by simp) | (refine CellD.own (by first | exact .head _ | exact .tail _ (.head _)) ?_; rfl)) (.cons (by first | exact CellD.nil | exact CellD.d | exact CellD.eq (by simp) | (refine CellD.own (by first | exact .head _ | exact .tail _ (.head _)) ?_; rfl)) (.cons (by first | exact CellD.nil | exact CellD.d | exact CellD.eq (by simp) | (refine CellD.own (by first | exact .head _ | exact .tail _ (.head _)) ?_; rfl)) (.cons (by first | exact CellD.nil | exact CellD.d | exact CellD.eq (by simp) | (refine CellD.own (by first | exact .head _ | exact .tail _ (.head _)) ?_; rfl)) .nil)))), RetD.eq rfl ?_, trivial⟩
  all_goals (rfl)

end Go.Proofs.YtcilhhkmgebkeaaGreatDoor


namespace Go.Proofs.YtcilhhkmgebkeaaGreatDoor
open Go.RowKit
set_option linter.unusedVariables false

/-! Types. -/
namespace TyLR

end TyLR
open TyLR


set_option linter.unusedSimpArgs false
set_option linter.unusedSectionVars false
section
variable {β : Type} [DecidableEq β]
/-- Numbers that rise. -/
def UpL (l : List Int) : Prop := l.Pairwise fun x y => x < y
/-- A half of a catalogue behind a half of a change. -/
def stepG (E P : GL β) (l : List Int) : GL β := valsG (putAll (ofE E) (xE P l))
theorem now_nk (E : GL β) (X : GL (Option β)) : NkG (putAll (ofE E) X) := putAll_nk (ofE_nk _)
theorem step_ri (E P : GL β) (l : List Int) : RiK (stepG E P l) := valsG_ri (now_nk _ _)
theorem now_find {E P : GL β} {l : List Int} (hE : NkG E) (hP : NkG P) (hl : UpL l) (k : Int) : findG (putAll (ofE E) (xE P l)) k = if k ∈ l then some none else match findG P k with | some v => some (some v) | none => (findG E k).map some := by
  rw [putAll_find (xE_nk P l), xE_find hP hl, ofE_find hE]
  by_cases hk : k ∈ l
  · rw [if_pos hk, if_pos hk]
  · rw [if_neg hk, if_neg hk]; cases findG P k <;> rfl
theorem step_find {E P : GL β} {l : List Int} (hE : NkG E) (hP : NkG P) (hl : UpL l) (k : Int) : findG (stepG E P l) k = if k ∈ l then none else match findG P k with | some v => some v | none => findG E k := by
  unfold stepG
  rw [valsG_find (now_nk _ _), now_find hE hP hl]
  by_cases hk : k ∈ l
  · rw [if_pos hk, if_pos hk]; rfl
  · rw [if_neg hk, if_neg hk]
    cases findG P k with
    | some v => rfl
    | none => cases findG E k <;> rfl
/-- F leads from A to B. -/
structure IsDif (F : GL (Option β)) (A B : GL β) : Prop where
  nk : NkG F
  find : ∀ k, findG F k = if findG A k = findG B k then none else some (findG B k)
theorem diff_dif {A B : GL β} (hA : NkG A) (hB : NkG B) : IsDif (fromE (ofE B) (ofE A) (keysG (ofE A) ++ keysG (ofE B))) A B := by
  refine ⟨fromE_nk _ _ _, fun k => ?_⟩
  have e1 : (findG (ofE B) k).join = findG B k := by rw [ofE_find hB]; cases findG B k <;> rfl
  have e2 : (findG (ofE A) k).join = findG A k := by rw [ofE_find hA]; cases findG A k <;> rfl
  rw [fromE_find, e1, e2]
  by_cases he : findG A k = findG B k
  · rw [if_pos he, if_neg (fun h => h.2 he.symm)]
  · have hk : k ∈ keysG (ofE A) ++ keysG (ofE B) := by
      rw [List.mem_append, keysG_mem, keysG_mem, ofE_find hA, ofE_find hB]
      cases h1 : findG A k with
      | some v => exact .inl rfl
      | none =>
        cases h2 : findG B k with
        | some v => exact .inr rfl
        | none => rw [h1, h2] at he; exact absurd rfl he
    rw [if_neg he, if_pos ⟨hk, fun h => he h.symm⟩]
theorem IsDif.vals {F : GL (Option β)} {A B : GL β} (h : IsDif F A B) (k : Int) : findG (valsG F) k = if findG A k = findG B k then none else findG B k := by
  rw [valsG_find h.nk, h.find]
  by_cases he : findG A k = findG B k
  · rw [if_pos he, if_pos he]; rfl
  · rw [if_neg he, if_neg he]; rfl
theorem IsDif.gone {F : GL (Option β)} {A B : GL β} (h : IsDif F A B) (k : Int) : k ∈ noneG F ↔ findG A k ≠ findG B k ∧ findG B k = none := by
  rw [noneG_mem, h.find]
  by_cases he : findG A k = findG B k
  · rw [if_pos he]; simp [he]
  · rw [if_neg he]; simp [he]
theorem IsDif.step {F : GL (Option β)} {A B : GL β} (h : IsDif F A B) (hA : NkG A) (hB : RiK B) : stepG A (valsG F) (noneG F) = B := by
  refine rik_ext (step_ri _ _ _) hB fun k => ?_
  rw [step_find hA (valsG_ri h.nk).nk (noneG_up h.nk), h.vals]
  by_cases hk : k ∈ noneG F
  · rw [if_pos hk]; exact ((h.gone k).1 hk).2.symm
  · rw [if_neg hk]
    by_cases he : findG A k = findG B k
    · rw [if_pos he]; exact he
    · rw [if_neg he]
      cases hb : findG B k with
      | some v => rfl
      | none => exact absurd ((h.gone k).2 ⟨he, hb⟩) hk
theorem keys_len {A B : GL β} (hA : NkG A) (h : ∀ k, (findG A k).isSome = true → (findG B k).isSome = true) : A.length ≤ B.length := by
  have h1 := sub_len (l := A.map (·.1)) (l' := B.map (·.1)) hA.nodup fun k hk => by
    obtain ⟨p, hp, rfl⟩ := List.mem_map.1 hk
    have h2 := h p.1 (by rw [(mem_find hA).1 hp]; rfl)
    obtain ⟨v, hv⟩ := Option.isSome_iff_exists.1 h2
    exact List.mem_map.2 ⟨_, find_mem hv, rfl⟩
  simpa using h1
theorem IsDif.len {F : GL (Option β)} {A B : GL β} (h : IsDif F A B) : (valsG F).length ≤ B.length ∧ (noneG F).length ≤ A.length := by
  refine ⟨keys_len (valsG_ri h.nk).nk fun k hk => ?_, ?_⟩
  · rw [h.vals] at hk
    by_cases he : findG A k = findG B k
    · rw [if_pos he] at hk; cases hk
    · rw [if_neg he] at hk; exact hk
  · have nd : (noneG F).Nodup := (noneG_up h.nk).imp fun h e => by rw [e] at h; exact absurd h (Int.lt_irrefl _)
    have h1 := sub_len (l := noneG F) (l' := A.map (·.1)) nd fun k hk => by
      obtain ⟨h1, h2⟩ := (h.gone k).1 hk
      cases ha : findG A k with
      | none => rw [ha, h2] at h1; exact absurd rfl h1
      | some v => exact List.mem_map.2 ⟨_, find_mem ha, rfl⟩
    simpa using h1
end
/-! ## Things and ids -/
theorem idxL_vals {T : TL} (h : ∀ p ∈ valsG T, p.2.id = p.1) : idxL ((valsG T).map (·.2)) = valsG T := by
  unfold idxL
  rw [List.map_map]
  have h1 : ∀ p ∈ valsG T, ((fun t : Thg => (t.id, t)) ∘ fun x : Int × Thg => x.2) p = id p := fun p hp => Prod.ext (h p hp) rfl
  rw [List.map_congr_left h1, List.map_id]
theorem mvL_vals (M : ML) : mvL ((valsG M).map mvO) = valsG M := by
  unfold mvL
  rw [List.map_map]
  have h1 : ∀ p ∈ valsG M, ((fun x : Mvd => (x.src, x.dst)) ∘ mvO) p = id p := fun p hp => rfl
  rw [List.map_congr_left h1, List.map_id]
theorem idxL_inj {a b : List Thg} (h : idxL a = idxL b) : a = b := by
  have := congrArg (List.map (·.2)) h
  unfold idxL at this
  simpa [List.map_map, Function.comp_def] using this
theorem mvL_inj {a b : List Mvd} (h : mvL a = mvL b) : a = b := by
  have := congrArg (List.map mvO) h
  unfold mvL at this
  simpa [List.map_map, Function.comp_def, mvO] using this
/-- The things stand at their own numbers. -/
def IdT (T : TL) : Prop := ∀ p ∈ T, ∀ t, p.2 = some t → t.id = p.1
theorem IdT.vals {T : TL} (hN : NkG T) (h : IdT T) : ∀ p ∈ valsG T, p.2.id = p.1 := fun p hp => by
  have h1 := (mem_find (valsG_ri hN).nk).1 hp
  rw [valsG_find hN] at h1
  cases hf : findG T p.1 with
  | none => rw [hf] at h1; cases h1
  | some o => rw [hf] at h1; exact h _ (find_mem hf) p.2 h1
theorem IdT.put {L E : TL} (h : IdT L) (hE : IdT E) : IdT (putAll L E) := fun p hp => (putAll_mem hp).elim (hE p) (h p)
theorem IdT.nil : IdT [] := fun p hp => by cases hp
theorem IdT.ofE (l : List Thg) : IdT (ofE (idxL l)) := IdT.nil.put fun p hp t ht => by
  simp only [lookE, idxL, List.map_map, List.mem_map] at hp
  obtain ⟨u, _, rfl⟩ := hp
  obtain rfl := Option.some.inj ht; rfl
theorem IdT.xE (l : List Thg) (g : List Int) : IdT (xE (idxL l) g) := (IdT.ofE l).put fun p hp t ht => by
  obtain ⟨n, _, rfl⟩ := List.mem_map.1 hp
  cases ht
theorem IdT.from {A B : TL} (h : IdT A) (ids : List Int) : IdT (fromE A B ids) := fun p hp t ht => by
  have h1 := (mem_find (fromE_nk A B ids)).1 hp
  rw [fromE_find] at h1
  by_cases hc : p.1 ∈ ids ∧ (findG A p.1).join ≠ (findG B p.1).join
  · rw [if_pos hc, ht] at h1
    have h2 := Option.some.inj h1
    cases hf : findG A p.1 with
    | none => rw [hf] at h2; cases h2
    | some o => rw [hf] at h2; exact h _ (find_mem hf) t h2
  · rw [if_neg hc] at h1; cases h1
/-! ## Right catalogues, right changes -/
theorem rikT {l : List Thg} (h : RisT l) : RiK (idxL l) := by
  unfold RiK idxL
  rw [List.pairwise_map]
  exact List.pairwise_iff_getElem.2 fun i j hi hj hij => h.up i j hi hj hij
theorem rikM {l : List Mvd} (h : RisM l) : RiK (mvL l) := by
  unfold RiK mvL
  rw [List.pairwise_map]
  exact List.pairwise_iff_getElem.2 fun i j hi hj hij => h.up i j hi hj hij
theorem all_up {l : List Int} (h : UpL l) : upF (atI l) l.length = true := up_iff.2 fun j h1 h2 => by
  rw [atI_eq (by omega), atI_eq h2]
  exact List.pairwise_iff_getElem.1 h (j - 1) j (by omega) h2 (by omega)
structure XOk (x : Chg) : Prop where
  lim : LimX x
  put : RiK (idxL x.put)
  drop : UpL x.drop
  add : RiK (mvL x.add)
  back : UpL x.back
theorem chgO_F {T : TL} {M : ML} (nT : NkG T) (nM : NkG M) (hI : IdT T) : chgF (chgO T M) = if 300 < (valsG T).length ∨ 300 < (noneG T).length ∨ 300 < (valsG M).length ∨ 300 < (noneG M).length then 2 else 0 := by
  have l1 : (chgO T M).put.length = (valsG T).length := List.length_map ..
  have l3 : (chgO T M).add.length = (valsG M).length := List.length_map ..
  have hid := hI.vals nT
  have m1 : (chgO T M).put.map Thg.id = (valsG T).map (·.1) := by
    show ((valsG T).map (·.2)).map Thg.id = _
    rw [List.map_map]
    exact List.map_congr_left fun p hp => hid p hp
  have m3 : (chgO T M).add.map Mvd.src = (valsG M).map (·.1) := by
    show ((valsG M).map mvO).map Mvd.src = _
    rw [List.map_map]; rfl
  have u1 : upF (atI ((chgO T M).put.map Thg.id)) (chgO T M).put.length = true := by
    rw [m1, l1]
    have hr : RiK (valsG T) := valsG_ri nT
    have := all_up (l := (valsG T).map (·.1)) (by unfold UpL; rw [List.pairwise_map]; exact hr)
    rw [List.length_map] at this; exact this
  have u3 : upF (atI ((chgO T M).add.map Mvd.src)) (chgO T M).add.length = true := by
    rw [m3, l3]
    have hr : RiK (valsG M) := valsG_ri nM
    have := all_up (l := (valsG M).map (·.1)) (by unfold UpL; rw [List.pairwise_map]; exact hr)
    rw [List.length_map] at this; exact this
  have meet : ∀ {β : Type} {L : GL (Option β)}, NkG L → ∀ k, k ∈ (valsG L).map (·.1) → ¬ k ∈ noneG L := fun {β L} nL k hk hn => by
    obtain ⟨p, hp, rfl⟩ := List.mem_map.1 hk
    have h1 := (mem_find (valsG_ri nL).nk).1 hp
    rw [valsG_find nL, noneG_mem.1 hn] at h1; cases h1
  have nomeet : ∀ {a b : List Int}, (∀ k ∈ a, ¬ k ∈ b) → meetB a b = false := fun {a b} h => by
    rw [Bool.eq_false_iff]
    intro hh
    obtain ⟨n, hn, h2⟩ := List.any_eq_true.1 hh
    exact h n hn (of_decide_eq_true h2)
  unfold chgF
  by_cases hL : 300 < (valsG T).length ∨ 300 < (noneG T).length ∨ 300 < (valsG M).length ∨ 300 < (noneG M).length
  · rw [if_pos hL, if_pos (by rw [l1, l3]; exact hL)]
  · rw [if_neg hL, if_neg (by rw [l1, l3]; exact hL), if_neg (fun h => h ⟨u1, all_up (noneG_up nT), u3, all_up (noneG_up nM)⟩), if_neg]
    rintro (h | h)
    · have h2 := nomeet (meet nT)
      rw [← m1] at h2
      exact absurd (h.symm.trans h2) (by decide)
    · have h2 := nomeet (meet nM)
      rw [← m3] at h2
      exact absurd (h.symm.trans h2) (by decide)


end Go.Proofs.YtcilhhkmgebkeaaGreatDoor


namespace Go.Proofs.YtcilhhkmgebkeaaGreatDoor
open Go.RowKit
set_option linter.unusedVariables false

/-! Types. -/
namespace TyLS

end TyLS
open TyLS


set_option linter.unusedSimpArgs false
theorem nowT_id (c : Ctl) (x : Chg) : IdT (nowT c x) := (IdT.ofE _).put (IdT.xE _ _)
theorem out_things (c : Ctl) (x : Chg) : idxL (outC c x).things = stepG (idxL c.things) (idxL x.put) x.drop := idxL_vals ((nowT_id c x).vals (nowT_nk c x))
theorem out_moved (c : Ctl) (x : Chg) : mvL (outC c x).moved = stepG (mvL c.moved) (mvL x.add) x.back := mvL_vals _
theorem ctl_ext {a b : Ctl} (h1 : idxL a.things = idxL b.things) (h2 : mvL a.moved = mvL b.moved) : a = b := by
  cases a; cases b
  dsimp only at h1 h2
  rw [idxL_inj h1, mvL_inj h2]
theorem chgO_put {T : TL} {M : ML} (nT : NkG T) (h : IdT T) : idxL (chgO T M).put = valsG T := idxL_vals (h.vals nT)
theorem chgO_add {T : TL} {M : ML} : mvL (chgO T M).add = valsG M := mvL_vals _
theorem nkT {c : Ctl} (h : chkF c = 0) : RiK (idxL c.things) := rikT (catOk h).ris
theorem nkM {c : Ctl} (h : chkF c = 0) : RiK (mvL c.moved) := rikM (catOk h).rism
/-- A change that leads from a to b: it is right, and leads there. -/
theorem dif_0 {a b : Ctl} {T : TL} {M : ML} (ha : chkF a = 0) (hb : chkF b = 0) (hT : IsDif T (idxL a.things) (idxL b.things)) (hM : IsDif M (mvL a.moved) (mvL b.moved)) (hI : IdT T) : chgF (chgO T M) = 0 ∧ outC a (chgO T M) = b := by
  have la := (catOk ha).lim
  have lb := (catOk hb).lim
  refine ⟨?_, ?_⟩
  · rw [chgO_F hT.nk hM.nk hI, if_neg]
    have h1 := hT.len
    have h2 := hM.len
    have e1 : (idxL a.things).length = a.things.length := List.length_map ..
    have e2 : (idxL b.things).length = b.things.length := List.length_map ..
    have e3 : (mvL a.moved).length = a.moved.length := List.length_map ..
    have e4 : (mvL b.moved).length = b.moved.length := List.length_map ..
    have := la.1; have := la.2; have := lb.1; have := lb.2
    omega
  · refine ctl_ext ?_ ?_
    · rw [out_things, chgO_put hT.nk hI]
      exact hT.step (nkT ha).nk (nkT hb)
    · rw [out_moved, chgO_add]
      exact hM.step (nkM ha).nk (nkM hb)
theorem apply_to {c : Ctl} {x : Chg} {d : Ctl} (hc : chkF c = 0) (hx : chgF x = 0) (ho : outC c x = d) (hd : chkF d = 0) : applyV c x = (d, backX c x, 0) := by
  rw [applyV_0 hc hx, app_0 (by rw [ho]; exact hd), ho]
/-- 32 -/
theorem differ_leads {a b : Ctl} (h : (differV a b).2 = 0) : chkF a = 0 ∧ chkF b = 0 ∧ applyV a (differV a b).1 = (b, backX a (differX a b), 0) := by
  by_cases ha : chkF a = 0
  · by_cases hb : chkF b = 0
    · refine ⟨ha, hb, ?_⟩
      rw [diff_0 ha hb]
      obtain ⟨h1, h2⟩ := dif_0 ha hb (diff_dif (nkT ha).nk (nkT hb).nk) (diff_dif (nkM ha).nk (nkM hb).nk) (IdT.from (IdT.ofE _) _)
      exact apply_to ha h1 h2 hb
    · unfold differV at h; rw [if_pos ha, if_neg hb] at h; exact absurd h hb
  · unfold differV at h; rw [if_neg ha] at h; exact absurd h ha
end Go.Proofs.YtcilhhkmgebkeaaGreatDoor


namespace Go.Proofs.YtcilhhkmgebkeaaGreatDoor
open Go.RowKit
set_option linter.unusedVariables false

/-! Types. -/
namespace TyLT
theorem ag_67 : AggT Tryz.prog 67 7 := .of (by kernel_rfl)
theorem et_22 : ElemTy Tryz.prog 22 67 7 88 (.agg #[(.int .i64 0), (.int .i64 0), (.string ⟨#[]⟩), (.string ⟨#[]⟩), (.int .i64 0), (.int .i64 0), (.slice none 0 0)]) := ⟨by kernel_rfl, by kernel_rfl, by kernel_rfl, by decide⟩
theorem fo_25_0 : fieldOff Tryz.prog 25 0 = some 0 := by kernel_rfl
theorem fo_25_1 : fieldOff Tryz.prog 25 1 = some 1 := by kernel_rfl
theorem fo_28_0 : fieldOff Tryz.prog 28 0 = some 0 := by kernel_rfl
theorem fo_28_1 : fieldOff Tryz.prog 28 1 = some 1 := by kernel_rfl
theorem fo_28_2 : fieldOff Tryz.prog 28 2 = some 2 := by kernel_rfl
theorem fo_28_3 : fieldOff Tryz.prog 28 3 = some 3 := by kernel_rfl
theorem sc_22 : Scal Tryz.prog 22 := .of (by kernel_rfl)
theorem sc_23 : Scal Tryz.prog 23 := .of (by kernel_rfl)
theorem sc_26 : Scal Tryz.prog 26 := .of (by kernel_rfl)
end TyLT
open TyLT

set_option maxRecDepth 100000 in
set_option maxHeartbeats 1000000 in
theorem c_sameTs (l r : List Thg) : ACall Tryz.prog 21 [.sl (l.map Thg.ds), .sl (r.map Thg.ds)] (.v (.bool (decide (l = r)))) := by
  refine acall_of (n := 27) (ds' := [.v (.bool (decide (l = r)))]) Tryz.func21 rfl (by kernel_rfl) rfl [4] rfl rfl ?_
  intro B w0 F0 fr
  refine AWP.bound 0 rfl (fun hbd0 => ?_)
  rw [List.length_map] at hbd0
  refine AWP.bound 1 rfl (fun hbd1 => ?_)
  rw [List.length_map] at hbd1
  refine AWP.seq (AWP.region ?_)
  refine AOps.aD rfl rfl rfl rfl rfl (.nil ?_)
  refine AWP.seq ?_
  refine AWP.seq (AWP.region ?_)
  refine AOps.mD rfl rfl rfl rfl rfl ?_
  refine AOps.step rfl rfl rfl (AOp.lenSl rfl et_22.ht rfl) ?_
  refine AOps.mD rfl rfl rfl rfl rfl ?_
  refine AOps.step rfl rfl rfl (AOp.lenSl rfl et_22.ht rfl) ?_
  refine AOps.step rfl rfl rfl (AOp.neq rfl rfl rfl) (.nil ?_)
  refine AWP.cond rfl (fun h1 => ?_) (fun h1 => ?_)
  · replace h1 := of_decide_eq_true h1
    rw [List.length_map, List.length_map] at h1
    rw [decide_eq_false (show ¬ l = r from fun e => h1 (by rw [e]))]
    refine AWP.seq (AWP.region ?_)
    refine AOps.aD rfl rfl rfl rfl rfl (.nil ?_)
    refine AWP.ret ?_
    refine ⟨RetD.eq rfl ?_, trivial⟩
    all_goals (rfl)
  replace h1 := of_decide_eq_false h1
  rw [List.length_map, List.length_map] at h1
  have hle : l.length = r.length := by omega
  refine AWP.skip ?_
  refine AWP.seq ?_
  refine AWP.seq (AWP.region ?_)
  refine AOps.mD rfl rfl rfl rfl rfl ?_
  refine AOps.step rfl rfl rfl (AOp.lenSl rfl et_22.ht rfl) ?_
  refine AOps.mD rfl rfl rfl rfl rfl (.nil ?_)
  refine AWP.block ?_
  refine AWP.loop (G := Nat) (fun k => Env.of [(13, .d (.v (.int .i64 (k : Int)))), (0, .d (.sl (l.map Thg.ds))), (1, .d (.sl (r.map Thg.ds))), (12, .d (.v (.int .i64 ((l.map Thg.ds).length : Int))))]) (fun k => []) (fun k => k ≤ l.length ∧ l.take k = r.take k) (fun k => l.length - k) 0 ⟨Nat.zero_le _, by simp⟩ (Sub.less ⟨(SLe.of_eq rfl), SLe.refl _, SLe.refl _, SLe.refl _, trivial⟩ (fun _ h => h)) ?_
  intro k hk
  refine AWP.seq (AWP.region ?_)
  refine AOps.step rfl rfl rfl (AOp.lss rfl rfl rfl) (.nil ?_)
  refine AWP.seq ?_
  refine AWP.cond rfl (fun h2 => ?_) (fun h2 => ?_)
  · replace h2 := of_decide_eq_true h2
    rw [List.length_map] at h2
    have hlt : k < l.length := by omega
    have hlr : k < r.length := by omega
    refine AWP.skip ?_
    refine AWP.seq ?_
    refine AWP.block ?_
    refine AWP.seq (AWP.region ?_)
    refine AOps.mD rfl rfl rfl rfl rfl ?_
    refine AOps.aD rfl rfl rfl rfl rfl (.nil ?_)
    refine AWP.seq ?_
    refine AWP.draw (by kernel_rfl) (by kernel_rfl) ?_
    refine DRun.step rfl rfl rfl (AOp.moveD rfl rfl) ?_
    refine DRun.step rfl rfl rfl (AOp.moveD rfl rfl) ?_
    refine DRun.step rfl rfl rfl (AOp.indexAddr rfl et_22 rfl rfl k rfl (at_lst hlt) rfl) ?_
    refine DRun.step rfl rfl rfl (AOp.loadAgg rfl ag_67 rfl rfl) ?_
    refine DRun.step rfl rfl rfl (AOp.moveD rfl rfl) ?_
    refine DRun.step rfl rfl rfl (AOp.moveD rfl rfl) ?_
    refine DRun.step rfl rfl rfl (AOp.indexAddr rfl et_22 rfl rfl k rfl (at_lst hlr) rfl) ?_
    refine DRun.step rfl rfl rfl (AOp.loadAgg rfl ag_67 rfl rfl) ?_
    refine DRun.step rfl rfl rfl (AOp.call rfl (.cons (ArgOk.rfl' rfl) (.cons (ArgOk.rfl' rfl) .nil)) (c_same _ _)) ?_
    refine DRun.step rfl rfl rfl (AOp.not rfl rfl) ?_
    refine DRun.nil ?_
    refine AWP.cond rfl (fun h3 => ?_) (fun h3 => ?_)
    · replace h3 := bnot_t h3; replace h3 := of_decide_eq_false h3
      rw [decide_eq_false (show ¬ l = r from fun e => h3 (by subst e; rfl))]
      refine AWP.seq (AWP.region ?_)
      refine AOps.aD rfl rfl rfl rfl rfl (.nil ?_)
      refine AWP.ret ?_
      refine ⟨RetD.eq rfl ?_, trivial⟩
      all_goals (rfl)
    replace h3 := bnot_f h3; replace h3 := of_decide_eq_true h3
    have hT := take_eq hlt hlr hk.2 (by first | exact h3 | exact Decidable.not_not.1 h3)
    refine AWP.skip ?_
    refine AWP.region ?_
    refine AOps.step rfl rfl rfl (AOp.add64 rfl rfl rfl (by omega) (by omega)) ?_
    refine AOps.mD rfl rfl rfl rfl rfl (.nil ?_)
    refine ⟨k + 1, ⟨by omega, hT⟩, (by dsimp only; omega), Sub.less ⟨(SLe.of_eq rfl), SLe.refl _, SLe.refl _, SLe.refl _, trivial⟩ (fun _ h => h)⟩
  replace h2 := of_decide_eq_false h2
  rw [List.length_map] at h2
  obtain rfl : k = l.length := by omega
  rw [decide_eq_true (take_all_eq hle hk.2)]
  refine AWP.exit ?_
  refine AWP.seq (AWP.region ?_)
  refine AOps.aD rfl rfl rfl rfl rfl (.nil ?_)
  refine AWP.ret ?_
  refine ⟨RetD.eq rfl ?_, trivial⟩
  all_goals (rfl)


theorem ctl_dec {a b : Ctl} (h : a.things = b.things) : decide (a.moved = b.moved) = decide (a = b) := by
  cases a; cases b
  dsimp only at h ⊢
  subst h
  simp
theorem chg_dec {a b : Chg} (h1 : a.put = b.put) (h2 : a.drop = b.drop) (h3 : a.add = b.add) : decide (a.back = b.back) = decide (a = b) := by
  cases a; cases b
  dsimp only at h1 h2 h3 ⊢
  subst h1 h2 h3
  simp


set_option maxRecDepth 100000 in
set_option maxHeartbeats 1000000 in
theorem c_sameC (a b : Ctl) : ACall Tryz.prog 9 [.agg a.ds, .agg b.ds] (.v (.bool (decide (a = b)))) := by
  refine acall_of (n := 17) (ds' := [.v (.bool (decide (a = b)))]) Tryz.func9 rfl (by kernel_rfl) rfl [4] rfl rfl ?_
  intro B w0 F0 fr
  refine AWP.seq (AWP.region ?_)
  refine AOps.step rfl rfl rfl (AOp.box rfl rfl rfl) ?_
  refine AOps.step rfl rfl rfl (AOp.box rfl rfl rfl) ?_
  refine AOps.aD rfl rfl rfl rfl rfl (.nil ?_)
  refine AWP.seq (AWP.region ?_)
  refine AOps.step rfl rfl rfl (AOp.fieldAddr rfl fo_25_0 rfl) ?_
  refine AOps.step rfl rfl rfl (AOp.load rfl sc_22 rfl) ?_
  refine AOps.step rfl rfl rfl (AOp.fieldAddr rfl fo_25_0 rfl) ?_
  refine AOps.step rfl rfl rfl (AOp.load rfl sc_22 rfl) ?_
  refine AOps.step rfl rfl rfl (AOp.call rfl (.cons (ArgOk.rfl' rfl) (.cons (ArgOk.rfl' rfl) .nil)) (c_sameTs _ _)) ?_
  refine AOps.mD rfl rfl rfl rfl rfl ?_
  refine AOps.split 10 rfl (fun g1 => ?_) (fun g1 => ?_)
  · replace g1 := of_decide_eq_true g1
    rw [← ctl_dec g1]
    refine AOps.step ⟨10, rfl, .inl ⟨_, rfl, rfl⟩⟩ rfl rfl (AOp.fieldAddr rfl fo_25_1 rfl) ?_
    refine AOps.step ⟨10, rfl, .inl ⟨_, rfl, rfl⟩⟩ rfl rfl (AOp.load rfl sc_23 rfl) ?_
    refine AOps.step ⟨10, rfl, .inl ⟨_, rfl, rfl⟩⟩ rfl rfl (AOp.fieldAddr rfl fo_25_1 rfl) ?_
    refine AOps.step ⟨10, rfl, .inl ⟨_, rfl, rfl⟩⟩ rfl rfl (AOp.load rfl sc_23 rfl) ?_
    refine AOps.step ⟨10, rfl, .inl ⟨_, rfl, rfl⟩⟩ rfl rfl (AOp.call rfl (.cons (ArgOk.rfl' rfl) (.cons (ArgOk.rfl' rfl) .nil)) (c_eqM _ _)) ?_
    refine AOps.step rfl rfl rfl (AOp.pickT rfl rfl rfl) ?_
    refine AOps.aD rfl rfl rfl rfl rfl (.nil ?_)
    refine AWP.ret ?_
    refine ⟨RetD.eq rfl ?_, trivial⟩
    all_goals (rfl)
  replace g1 := of_decide_eq_false g1
  rw [decide_eq_false (show ¬ a = b from fun e => g1 (by rw [e]))]
  refine AOps.pass ⟨10, rfl, .inl ⟨_, rfl, rfl⟩⟩ rfl rfl ?_
  refine AOps.pass ⟨10, rfl, .inl ⟨_, rfl, rfl⟩⟩ rfl rfl ?_
  refine AOps.pass ⟨10, rfl, .inl ⟨_, rfl, rfl⟩⟩ rfl rfl ?_
  refine AOps.pass ⟨10, rfl, .inl ⟨_, rfl, rfl⟩⟩ rfl rfl ?_
  refine AOps.pass ⟨10, rfl, .inl ⟨_, rfl, rfl⟩⟩ rfl rfl ?_
  refine AOps.step rfl rfl rfl (AOp.pickF rfl rfl rfl) ?_
  refine AOps.aD rfl rfl rfl rfl rfl (.nil ?_)
  refine AWP.ret ?_
  refine ⟨RetD.eq rfl ?_, trivial⟩
  all_goals (rfl)

set_option maxRecDepth 100000 in
set_option maxHeartbeats 1000000 in
theorem c_sameX (a b : Chg) : ACall Tryz.prog 11 [.agg a.ds, .agg b.ds] (.v (.bool (decide (a = b)))) := by
  refine acall_of (n := 31) (ds' := [.v (.bool (decide (a = b)))]) Tryz.func11 rfl (by kernel_rfl) rfl [4] rfl rfl ?_
  intro B w0 F0 fr
  refine AWP.seq (AWP.region ?_)
  refine AOps.step rfl rfl rfl (AOp.box rfl rfl rfl) ?_
  refine AOps.step rfl rfl rfl (AOp.box rfl rfl rfl) ?_
  refine AOps.aD rfl rfl rfl rfl rfl (.nil ?_)
  refine AWP.seq (AWP.region ?_)
  refine AOps.step rfl rfl rfl (AOp.fieldAddr rfl fo_28_0 rfl) ?_
  refine AOps.step rfl rfl rfl (AOp.load rfl sc_22 rfl) ?_
  refine AOps.step rfl rfl rfl (AOp.fieldAddr rfl fo_28_0 rfl) ?_
  refine AOps.step rfl rfl rfl (AOp.load rfl sc_22 rfl) ?_
  refine AOps.step rfl rfl rfl (AOp.call rfl (.cons (ArgOk.rfl' rfl) (.cons (ArgOk.rfl' rfl) .nil)) (c_sameTs _ _)) ?_
  refine AOps.mD rfl rfl rfl rfl rfl ?_
  refine AOps.split 10 rfl (fun g1 => ?_) (fun g1 => ?_)
  · replace g1 := of_decide_eq_true g1
    have e1 := g1
    refine AOps.step ⟨10, rfl, .inl ⟨_, rfl, rfl⟩⟩ rfl rfl (AOp.fieldAddr rfl fo_28_1 rfl) ?_
    refine AOps.step ⟨10, rfl, .inl ⟨_, rfl, rfl⟩⟩ rfl rfl (AOp.load rfl sc_26 rfl) ?_
    refine AOps.step ⟨10, rfl, .inl ⟨_, rfl, rfl⟩⟩ rfl rfl (AOp.fieldAddr rfl fo_28_1 rfl) ?_
    refine AOps.step ⟨10, rfl, .inl ⟨_, rfl, rfl⟩⟩ rfl rfl (AOp.load rfl sc_26 rfl) ?_
    refine AOps.step ⟨10, rfl, .inl ⟨_, rfl, rfl⟩⟩ rfl rfl (AOp.call rfl (.cons (ArgOk.rfl' rfl) (.cons (ArgOk.rfl' rfl) .nil)) (c_eqI _ _)) ?_
    refine AOps.step rfl rfl rfl (AOp.pickT rfl rfl rfl) ?_
    refine AOps.mD rfl rfl rfl rfl rfl ?_
    refine AOps.split 17 rfl (fun g2 => ?_) (fun g2 => ?_)
    · replace g2 := of_decide_eq_true g2
      have e2 := g2
      refine AOps.step ⟨17, rfl, .inl ⟨_, rfl, rfl⟩⟩ rfl rfl (AOp.fieldAddr rfl fo_28_2 rfl) ?_
      refine AOps.step ⟨17, rfl, .inl ⟨_, rfl, rfl⟩⟩ rfl rfl (AOp.load rfl sc_23 rfl) ?_
      refine AOps.step ⟨17, rfl, .inl ⟨_, rfl, rfl⟩⟩ rfl rfl (AOp.fieldAddr rfl fo_28_2 rfl) ?_
      refine AOps.step ⟨17, rfl, .inl ⟨_, rfl, rfl⟩⟩ rfl rfl (AOp.load rfl sc_23 rfl) ?_
      refine AOps.step ⟨17, rfl, .inl ⟨_, rfl, rfl⟩⟩ rfl rfl (AOp.call rfl (.cons (ArgOk.rfl' rfl) (.cons (ArgOk.rfl' rfl) .nil)) (c_eqM _ _)) ?_
      refine AOps.step rfl rfl rfl (AOp.pickT rfl rfl rfl) ?_
      refine AOps.mD rfl rfl rfl rfl rfl ?_
      refine AOps.split 24 rfl (fun g3 => ?_) (fun g3 => ?_)
      · replace g3 := of_decide_eq_true g3
        rw [← chg_dec e1 e2 g3]
        refine AOps.step ⟨24, rfl, .inl ⟨_, rfl, rfl⟩⟩ rfl rfl (AOp.fieldAddr rfl fo_28_3 rfl) ?_
        refine AOps.step ⟨24, rfl, .inl ⟨_, rfl, rfl⟩⟩ rfl rfl (AOp.load rfl sc_26 rfl) ?_
        refine AOps.step ⟨24, rfl, .inl ⟨_, rfl, rfl⟩⟩ rfl rfl (AOp.fieldAddr rfl fo_28_3 rfl) ?_
        refine AOps.step ⟨24, rfl, .inl ⟨_, rfl, rfl⟩⟩ rfl rfl (AOp.load rfl sc_26 rfl) ?_
        refine AOps.step ⟨24, rfl, .inl ⟨_, rfl, rfl⟩⟩ rfl rfl (AOp.call rfl (.cons (ArgOk.rfl' rfl) (.cons (ArgOk.rfl' rfl) .nil)) (c_eqI _ _)) ?_
        refine AOps.step rfl rfl rfl (AOp.pickT rfl rfl rfl) ?_
        refine AOps.aD rfl rfl rfl rfl rfl (.nil ?_)
        refine AWP.ret ?_
        refine ⟨RetD.eq rfl ?_, trivial⟩
        all_goals (rfl)
      replace g3 := of_decide_eq_false g3
      rw [decide_eq_false (show ¬ a = b from fun e => g3 (by rw [e]))]
      refine AOps.pass ⟨24, rfl, .inl ⟨_, rfl, rfl⟩⟩ rfl rfl ?_
      refine AOps.pass ⟨24, rfl, .inl ⟨_, rfl, rfl⟩⟩ rfl rfl ?_
      refine AOps.pass ⟨24, rfl, .inl ⟨_, rfl, rfl⟩⟩ rfl rfl ?_
      refine AOps.pass ⟨24, rfl, .inl ⟨_, rfl, rfl⟩⟩ rfl rfl ?_
      refine AOps.pass ⟨24, rfl, .inl ⟨_, rfl, rfl⟩⟩ rfl rfl ?_
      refine AOps.step rfl rfl rfl (AOp.pickF rfl rfl rfl) ?_
      refine AOps.aD rfl rfl rfl rfl rfl (.nil ?_)
      refine AWP.ret ?_
      refine ⟨RetD.eq rfl ?_, trivial⟩
      all_goals (rfl)
    replace g2 := of_decide_eq_false g2
    rw [decide_eq_false (show ¬ a = b from fun e => g2 (by rw [e]))]
    refine AOps.pass ⟨17, rfl, .inl ⟨_, rfl, rfl⟩⟩ rfl rfl ?_
    refine AOps.pass ⟨17, rfl, .inl ⟨_, rfl, rfl⟩⟩ rfl rfl ?_
    refine AOps.pass ⟨17, rfl, .inl ⟨_, rfl, rfl⟩⟩ rfl rfl ?_
    refine AOps.pass ⟨17, rfl, .inl ⟨_, rfl, rfl⟩⟩ rfl rfl ?_
    refine AOps.pass ⟨17, rfl, .inl ⟨_, rfl, rfl⟩⟩ rfl rfl ?_
    refine AOps.step rfl rfl rfl (AOp.pickF rfl rfl rfl) ?_
    refine AOps.mD rfl rfl rfl rfl rfl ?_
    refine AOps.pass ⟨24, rfl, .inl ⟨_, rfl, rfl⟩⟩ rfl rfl ?_
    refine AOps.pass ⟨24, rfl, .inl ⟨_, rfl, rfl⟩⟩ rfl rfl ?_
    refine AOps.pass ⟨24, rfl, .inl ⟨_, rfl, rfl⟩⟩ rfl rfl ?_
    refine AOps.pass ⟨24, rfl, .inl ⟨_, rfl, rfl⟩⟩ rfl rfl ?_
    refine AOps.pass ⟨24, rfl, .inl ⟨_, rfl, rfl⟩⟩ rfl rfl ?_
    refine AOps.step rfl rfl rfl (AOp.pickF rfl rfl rfl) ?_
    refine AOps.aD rfl rfl rfl rfl rfl (.nil ?_)
    refine AWP.ret ?_
    refine ⟨RetD.eq rfl ?_, trivial⟩
    all_goals (rfl)
  replace g1 := of_decide_eq_false g1
  rw [decide_eq_false (show ¬ a = b from fun e => g1 (by rw [e]))]
  refine AOps.pass ⟨10, rfl, .inl ⟨_, rfl, rfl⟩⟩ rfl rfl ?_
  refine AOps.pass ⟨10, rfl, .inl ⟨_, rfl, rfl⟩⟩ rfl rfl ?_
  refine AOps.pass ⟨10, rfl, .inl ⟨_, rfl, rfl⟩⟩ rfl rfl ?_
  refine AOps.pass ⟨10, rfl, .inl ⟨_, rfl, rfl⟩⟩ rfl rfl ?_
  refine AOps.pass ⟨10, rfl, .inl ⟨_, rfl, rfl⟩⟩ rfl rfl ?_
  refine AOps.step rfl rfl rfl (AOp.pickF rfl rfl rfl) ?_
  refine AOps.mD rfl rfl rfl rfl rfl ?_
  refine AOps.pass ⟨17, rfl, .inl ⟨_, rfl, rfl⟩⟩ rfl rfl ?_
  refine AOps.pass ⟨17, rfl, .inl ⟨_, rfl, rfl⟩⟩ rfl rfl ?_
  refine AOps.pass ⟨17, rfl, .inl ⟨_, rfl, rfl⟩⟩ rfl rfl ?_
  refine AOps.pass ⟨17, rfl, .inl ⟨_, rfl, rfl⟩⟩ rfl rfl ?_
  refine AOps.pass ⟨17, rfl, .inl ⟨_, rfl, rfl⟩⟩ rfl rfl ?_
  refine AOps.step rfl rfl rfl (AOp.pickF rfl rfl rfl) ?_
  refine AOps.mD rfl rfl rfl rfl rfl ?_
  refine AOps.pass ⟨24, rfl, .inl ⟨_, rfl, rfl⟩⟩ rfl rfl ?_
  refine AOps.pass ⟨24, rfl, .inl ⟨_, rfl, rfl⟩⟩ rfl rfl ?_
  refine AOps.pass ⟨24, rfl, .inl ⟨_, rfl, rfl⟩⟩ rfl rfl ?_
  refine AOps.pass ⟨24, rfl, .inl ⟨_, rfl, rfl⟩⟩ rfl rfl ?_
  refine AOps.pass ⟨24, rfl, .inl ⟨_, rfl, rfl⟩⟩ rfl rfl ?_
  refine AOps.step rfl rfl rfl (AOp.pickF rfl rfl rfl) ?_
  refine AOps.aD rfl rfl rfl rfl rfl (.nil ?_)
  refine AWP.ret ?_
  refine ⟨RetD.eq rfl ?_, trivial⟩
  all_goals (rfl)

end Go.Proofs.YtcilhhkmgebkeaaGreatDoor


namespace Go.Proofs.YtcilhhkmgebkeaaGreatDoor
open Go.RowKit
set_option linter.unusedVariables false

/-! Types. -/
namespace TyLU
theorem ag_25 : AggT Tryz.prog 25 2 := .of (by kernel_rfl)
theorem ag_28 : AggT Tryz.prog 28 4 := .of (by kernel_rfl)
theorem et_22 : ElemTy Tryz.prog 22 67 7 88 (.agg #[(.int .i64 0), (.int .i64 0), (.string ⟨#[]⟩), (.string ⟨#[]⟩), (.int .i64 0), (.int .i64 0), (.slice none 0 0)]) := ⟨by kernel_rfl, by kernel_rfl, by kernel_rfl, by decide⟩
theorem fo_25_0 : fieldOff Tryz.prog 25 0 = some 0 := by kernel_rfl
theorem sc_22 : Scal Tryz.prog 22 := .of (by kernel_rfl)
theorem sz_25 : ∀ w, (sizeOf 25).run Tryz.prog w = .ok 2 w := SizeT.of (by kernel_rfl)
theorem sz_28 : ∀ w, (sizeOf 28).run Tryz.prog w = .ok 4 w := SizeT.of (by kernel_rfl)
theorem zt_25 : (Tryz.prog.info? 25).bind (·.zero) = some (.agg #[(.slice none 0 0), (.slice none 0 0)]) := by kernel_rfl
theorem zt_28 : (Tryz.prog.info? 28).bind (·.zero) = some (.agg #[(.slice none 0 0), (.slice none 0 0), (.slice none 0 0), (.slice none 0 0)]) := by kernel_rfl
end TyLU
open TyLU


end Go.Proofs.YtcilhhkmgebkeaaGreatDoor


namespace Go.Proofs.YtcilhhkmgebkeaaGreatDoor
open Go.RowKit
set_option linter.unusedVariables false

/-! Types. -/
namespace TyLV
theorem ag_25 : AggT Tryz.prog 25 2 := .of (by kernel_rfl)
theorem ag_28 : AggT Tryz.prog 28 4 := .of (by kernel_rfl)
theorem ag_46 : AggT Tryz.prog 46 2 := .of (by kernel_rfl)
theorem ag_67 : AggT Tryz.prog 67 7 := .of (by kernel_rfl)
theorem bu_28 : StructT Tryz.prog 28 (fun i => (#[(0, 1), (1, 1), (2, 1), (3, 1)] : Array (Nat × Nat))[i]?) [(.slice none 0 0), (.slice none 0 0), (.slice none 0 0), (.slice none 0 0)] := .of (by kernel_rfl) (by kernel_rfl) (by decide)
theorem et_22 : ElemTy Tryz.prog 22 67 7 88 (.agg #[(.int .i64 0), (.int .i64 0), (.string ⟨#[]⟩), (.string ⟨#[]⟩), (.int .i64 0), (.int .i64 0), (.slice none 0 0)]) := ⟨by kernel_rfl, by kernel_rfl, by kernel_rfl, by decide⟩
theorem et_23 : ElemTy Tryz.prog 23 46 2 16 (.agg #[(.int .i64 0), (.int .i64 0)]) := ⟨by kernel_rfl, by kernel_rfl, by kernel_rfl, by decide⟩
theorem et_26 : ElemTy Tryz.prog 26 3 1 8 (.int .i64 0) := ⟨by kernel_rfl, by kernel_rfl, by kernel_rfl, by decide⟩
theorem fo_25_0 : fieldOff Tryz.prog 25 0 = some 0 := by kernel_rfl
theorem fo_25_1 : fieldOff Tryz.prog 25 1 = some 1 := by kernel_rfl
theorem fo_28_0 : fieldOff Tryz.prog 28 0 = some 0 := by kernel_rfl
theorem fo_28_1 : fieldOff Tryz.prog 28 1 = some 1 := by kernel_rfl
theorem fo_28_2 : fieldOff Tryz.prog 28 2 = some 2 := by kernel_rfl
theorem fo_28_3 : fieldOff Tryz.prog 28 3 = some 3 := by kernel_rfl
theorem fo_46_0 : fieldOff Tryz.prog 46 0 = some 0 := by kernel_rfl
theorem fo_46_1 : fieldOff Tryz.prog 46 1 = some 1 := by kernel_rfl
theorem fo_67_0 : fieldOff Tryz.prog 67 0 = some 0 := by kernel_rfl
theorem sc_22 : Scal Tryz.prog 22 := .of (by kernel_rfl)
theorem sc_23 : Scal Tryz.prog 23 := .of (by kernel_rfl)
theorem sc_26 : Scal Tryz.prog 26 := .of (by kernel_rfl)
theorem sc_3 : Scal Tryz.prog 3 := .of (by kernel_rfl)
theorem sz_22 : ∀ w, (sizeOf 22).run Tryz.prog w = .ok 1 w := SizeT.of (by kernel_rfl)
theorem sz_23 : ∀ w, (sizeOf 23).run Tryz.prog w = .ok 1 w := SizeT.of (by kernel_rfl)
theorem sz_25 : ∀ w, (sizeOf 25).run Tryz.prog w = .ok 2 w := SizeT.of (by kernel_rfl)
theorem sz_26 : ∀ w, (sizeOf 26).run Tryz.prog w = .ok 1 w := SizeT.of (by kernel_rfl)
theorem sz_28 : ∀ w, (sizeOf 28).run Tryz.prog w = .ok 4 w := SizeT.of (by kernel_rfl)
theorem sz_46 : ∀ w, (sizeOf 46).run Tryz.prog w = .ok 2 w := SizeT.of (by kernel_rfl)
theorem sz_67 : ∀ w, (sizeOf 67).run Tryz.prog w = .ok 7 w := SizeT.of (by kernel_rfl)
theorem zt_25 : (Tryz.prog.info? 25).bind (·.zero) = some (.agg #[(.slice none 0 0), (.slice none 0 0)]) := by kernel_rfl
theorem zt_28 : (Tryz.prog.info? 28).bind (·.zero) = some (.agg #[(.slice none 0 0), (.slice none 0 0), (.slice none 0 0), (.slice none 0 0)]) := by kernel_rfl
theorem zt_46 : (Tryz.prog.info? 46).bind (·.zero) = some (.agg #[(.int .i64 0), (.int .i64 0)]) := by kernel_rfl
theorem zt_67 : (Tryz.prog.info? 67).bind (·.zero) = some (.agg #[(.int .i64 0), (.int .i64 0), (.string ⟨#[]⟩), (.string ⟨#[]⟩), (.int .i64 0), (.int .i64 0), (.slice none 0 0)]) := by kernel_rfl
end TyLV
open TyLV


set_option linter.unusedSimpArgs false
set_option linter.unusedSectionVars false
section
variable {β : Type} [DecidableEq β]
def newB (A : GL β) (p : Int × β) : Bool := decide (findG A p.1 ≠ some p.2)
def goneB (B : GL β) (p : Int × β) : Bool := decide (findG B p.1 = none)
def btwP (A B : GL β) : GL β := B.filter (newB A)
def btwG (A B : GL β) : List Int := (A.filter (goneB B)).map (·.1)
def btwTo (A B : GL β) (n : Nat) : GL β := (B.take n).filter (newB A)
def gnTo (A B : GL β) (n : Nat) : List Int := ((A.take n).filter (goneB B)).map (·.1)
theorem btwTo_all (A B : GL β) : btwTo A B B.length = btwP A B := by unfold btwTo; rw [List.take_length]; rfl
theorem gnTo_all (A B : GL β) : gnTo A B A.length = btwG A B := by unfold gnTo; rw [List.take_length]; rfl
theorem btw_yes {A B : GL β} {n : Nat} (h : n < B.length) (hn : newB A B[n] = true) : btwTo A B (n + 1) = btwTo A B n ++ [B[n]] := by
  unfold btwTo
  rw [List.take_add_one, List.getElem?_eq_getElem h, Option.toList_some, List.filter_append, List.filter_cons_of_pos hn]; rfl
theorem btw_no {A B : GL β} {n : Nat} (h : n < B.length) (hn : newB A B[n] = false) : btwTo A B (n + 1) = btwTo A B n := by
  unfold btwTo
  rw [List.take_add_one, List.getElem?_eq_getElem h, Option.toList_some, List.filter_append, List.filter_cons_of_neg (by rw [hn]; simp)]; simp
theorem gn_yes {A B : GL β} {n : Nat} (h : n < A.length) (hn : goneB B A[n] = true) : gnTo A B (n + 1) = gnTo A B n ++ [A[n].1] := by
  unfold gnTo
  rw [List.take_add_one, List.getElem?_eq_getElem h, Option.toList_some, List.filter_append, List.filter_cons_of_pos hn, List.map_append]; rfl
theorem gn_no {A B : GL β} {n : Nat} (h : n < A.length) (hn : goneB B A[n] = false) : gnTo A B (n + 1) = gnTo A B n := by
  unfold gnTo
  rw [List.take_add_one, List.getElem?_eq_getElem h, Option.toList_some, List.filter_append, List.filter_cons_of_neg (by rw [hn]; simp)]; simp
theorem btwTo_len (A B : GL β) (n : Nat) : (btwTo A B n).length ≤ B.length := by
  unfold btwTo
  have := List.length_filter_le (newB A) (B.take n)
  rw [List.length_take] at this; omega
theorem gnTo_len (A B : GL β) (n : Nat) : (gnTo A B n).length ≤ A.length := by
  unfold gnTo
  have := List.length_filter_le (goneB B) (A.take n)
  rw [List.length_map]; rw [List.length_take] at this; omega
theorem find_filter {L : GL β} (h : NkG L) (q : Int × β → Bool) (k : Int) : findG (L.filter q) k = match findG L k with | some v => if q (k, v) = true then some v else none | none => none := by
  induction L with
  | nil => rfl
  | cons p L ih =>
    obtain ⟨h1, h2⟩ := List.pairwise_cons.1 h
    rw [findG_cons]
    by_cases hp : p.1 = k
    · rw [if_pos hp]
      subst hp
      dsimp only
      by_cases hq : q p = true
      · rw [List.filter_cons_of_pos hq, findG_cons, if_pos rfl, if_pos hq]
      · rw [List.filter_cons_of_neg hq, ih h2, if_neg hq]
        have : findG L p.1 = none := findG_none.2 (by
          cases hh : hasG L p.1 with
          | false => rfl
          | true => obtain ⟨u, hu, he⟩ := hasG_iff.1 hh; exact absurd he.symm (h1 u hu))
        rw [this]
    · rw [if_neg hp]
      by_cases hq : q p = true
      · rw [List.filter_cons_of_pos hq, findG_cons, if_neg hp, ih h2]
      · rw [List.filter_cons_of_neg hq, ih h2]
theorem IsDif.btwP {F : GL (Option β)} {A B : GL β} (h : IsDif F A B) (hB : RiK B) : valsG F = btwP A B := by
  refine rik_ext (valsG_ri h.nk) (hB.sublist List.filter_sublist) fun k => ?_
  unfold Go.Proofs.YtcilhhkmgebkeaaGreatDoor.btwP
  rw [h.vals, find_filter hB.nk]
  cases hb : findG B k with
  | none => dsimp only; split <;> rfl
  | some v =>
    dsimp only
    unfold newB
    by_cases he : findG A k = some v
    · rw [if_pos he, if_neg (by simp [he])]
    · rw [if_neg he, if_pos (by simp [he])]
theorem IsDif.btwG {F : GL (Option β)} {A B : GL β} (h : IsDif F A B) (hA : RiK A) : noneG F = btwG A B := by
  have hu : UpL (Go.Proofs.YtcilhhkmgebkeaaGreatDoor.btwG A B) := by
    have h1 : RiK (A.filter (goneB B)) := hA.sublist List.filter_sublist
    unfold UpL Go.Proofs.YtcilhhkmgebkeaaGreatDoor.btwG
    rw [List.pairwise_map]; exact h1
  refine up_ext (noneG_up h.nk) hu fun k => ?_
  rw [h.gone]
  unfold Go.Proofs.YtcilhhkmgebkeaaGreatDoor.btwG goneB
  rw [List.mem_map]
  constructor
  · rintro ⟨h1, h2⟩
    cases ha : findG A k with
    | none => rw [ha, h2] at h1; exact absurd rfl h1
    | some v => exact ⟨(k, v), List.mem_filter.2 ⟨find_mem ha, decide_eq_true h2⟩, rfl⟩
  · rintro ⟨p, hp, rfl⟩
    obtain ⟨h1, h2⟩ := List.mem_filter.1 hp
    have h3 := (mem_find hA.nk).1 h1
    have h4 := of_decide_eq_true h2
    exact ⟨by rw [h3, h4]; simp, h4⟩
end
def btwX (a b : Ctl) : Chg := ⟨(btwP (idxL a.things) (idxL b.things)).map (·.2), btwG (idxL a.things) (idxL b.things), (btwP (mvL a.moved) (mvL b.moved)).map mvO, btwG (mvL a.moved) (mvL b.moved)⟩
theorem btwX_dif {a b : Ctl} {T : TL} {M : ML} (ha : chkF a = 0) (hb : chkF b = 0) (hT : IsDif T (idxL a.things) (idxL b.things)) (hM : IsDif M (mvL a.moved) (mvL b.moved)) : chgO T M = btwX a b := by
  unfold chgO btwX
  rw [hT.btwP (nkT hb), hT.btwG (nkT ha), hM.btwP (nkM hb), hM.btwG (nkM ha)]
theorem btwX_eq {a b : Ctl} (ha : chkF a = 0) (hb : chkF b = 0) : differX a b = btwX a b := btwX_dif ha hb (diff_dif (nkT ha).nk (nkT hb).nk) (diff_dif (nkM ha).nk (nkM hb).nk)
theorem idx_at {l : List Thg} {k : Nat} (h : k < (idxL l).length) : (idxL l)[k] = ((l[k]'(by simpa [idxL] using h)).id, l[k]'(by simpa [idxL] using h)) := by simp [idxL]
theorem mv_at {l : List Mvd} {k : Nat} (h : k < (mvL l).length) : (mvL l)[k] = ((l[k]'(by simpa [mvL] using h)).src, (l[k]'(by simpa [mvL] using h)).dst) := by simp [mvL]
theorem idx_ln (l : List Thg) : (idxL l).length = l.length := List.length_map ..
theorem mv_ln (l : List Mvd) : (mvL l).length = l.length := List.length_map ..
theorem btT_yes {a b : List Thg} {k : Nat} (hk : k < b.length) (h : thereB a b[k].id = false ∨ getT a b[k].id ≠ b[k]) : btwTo (idxL a) (idxL b) (k + 1) = btwTo (idxL a) (idxL b) k ++ [(b[k].id, b[k])] := by
  have h0 : k < (idxL b).length := by rw [idx_ln]; exact hk
  rw [btw_yes h0, idx_at h0]
  rw [idx_at h0]
  unfold newB
  refine decide_eq_true fun he => ?_
  unfold thereB getT findT at h
  rw [he] at h
  rcases h with h | h
  · cases h
  · exact h rfl
theorem btT_no {a b : List Thg} {k : Nat} (hk : k < b.length) (h : thereB a b[k].id = true) (h2 : getT a b[k].id = b[k]) : btwTo (idxL a) (idxL b) (k + 1) = btwTo (idxL a) (idxL b) k := by
  have h0 : k < (idxL b).length := by rw [idx_ln]; exact hk
  rw [btw_no h0]
  rw [idx_at h0]
  unfold newB
  refine decide_eq_false fun he => he ?_
  unfold thereB getT findT at *
  cases hf : findG (idxL a) b[k].id with
  | none => rw [hf] at h; cases h
  | some t => rw [hf] at h2; exact congrArg some h2
theorem gnT_yes {a b : List Thg} {k : Nat} (hk : k < a.length) (h : thereB b a[k].id = false) : gnTo (idxL a) (idxL b) (k + 1) = gnTo (idxL a) (idxL b) k ++ [a[k].id] := by
  have h0 : k < (idxL a).length := by rw [idx_ln]; exact hk
  rw [gn_yes h0, idx_at h0]
  rw [idx_at h0]
  exact decide_eq_true (thereB_no.1 h)
theorem gnT_no {a b : List Thg} {k : Nat} (hk : k < a.length) (h : thereB b a[k].id = true) : gnTo (idxL a) (idxL b) (k + 1) = gnTo (idxL a) (idxL b) k := by
  have h0 : k < (idxL a).length := by rw [idx_ln]; exact hk
  rw [gn_no h0]
  rw [idx_at h0]
  exact decide_eq_false fun he => by unfold thereB findT at h; rw [he] at h; cases h
theorem btM_yes {a b : List Mvd} {k : Nat} (hk : k < b.length) (h : hasM a b[k].src = false ∨ getM a b[k].src ≠ b[k].dst) : btwTo (mvL a) (mvL b) (k + 1) = btwTo (mvL a) (mvL b) k ++ [(b[k].src, b[k].dst)] := by
  have h0 : k < (mvL b).length := by rw [mv_ln]; exact hk
  rw [btw_yes h0, mv_at h0]
  rw [mv_at h0]
  unfold newB
  refine decide_eq_true fun he => ?_
  unfold hasM getM at h
  rw [he] at h
  rcases h with h | h
  · cases h
  · exact h rfl
theorem btM_no {a b : List Mvd} {k : Nat} (hk : k < b.length) (h : hasM a b[k].src = true) (h2 : getM a b[k].src = b[k].dst) : btwTo (mvL a) (mvL b) (k + 1) = btwTo (mvL a) (mvL b) k := by
  have h0 : k < (mvL b).length := by rw [mv_ln]; exact hk
  rw [btw_no h0]
  rw [mv_at h0]
  unfold newB
  refine decide_eq_false fun he => he ?_
  unfold hasM getM at *
  cases hf : findG (mvL a) b[k].src with
  | none => rw [hf] at h; cases h
  | some t => rw [hf] at h2; exact congrArg some h2
theorem gnM_yes {a b : List Mvd} {k : Nat} (hk : k < a.length) (h : hasM b a[k].src = false) : gnTo (mvL a) (mvL b) (k + 1) = gnTo (mvL a) (mvL b) k ++ [a[k].src] := by
  have h0 : k < (mvL a).length := by rw [mv_ln]; exact hk
  rw [gn_yes h0, mv_at h0]
  rw [mv_at h0]
  unfold goneB
  refine decide_eq_true ?_
  unfold hasM at h
  cases hf : findG (mvL b) a[k].src with
  | none => rfl
  | some t => rw [hf] at h; cases h
theorem gnM_no {a b : List Mvd} {k : Nat} (hk : k < a.length) (h : hasM b a[k].src = true) : gnTo (mvL a) (mvL b) (k + 1) = gnTo (mvL a) (mvL b) k := by
  have h0 : k < (mvL a).length := by rw [mv_ln]; exact hk
  rw [gn_no h0]
  rw [mv_at h0]
  exact decide_eq_false fun he => by unfold hasM at h; rw [he] at h; cases h


set_option maxRecDepth 100000 in
set_option maxHeartbeats 4000000 in
theorem c_btw (a b : Ctl) (ha : Lim a) (hb : Lim b) : ACall Tryz.prog 29 [.agg a.ds, .agg b.ds] (.agg (btwX a b).ds) := by
  refine acall_ofR (n := 129) (ds' := [.agg (btwX a b).ds]) Tryz.func29 rfl (by kernel_rfl) rfl [.cell 4 28] rfl rfl ?_
  intro B w0 F0 fr
  have l1 := ha.1
  have l2 := ha.2
  have l3 := hb.1
  have l4 := hb.2
  refine AWP.seq (AWP.region ?_)
  refine AOps.step rfl rfl rfl (AOp.box rfl rfl rfl) ?_
  refine AOps.step rfl rfl rfl (AOp.box rfl rfl rfl) ?_
  refine AOps.alloc 101 rfl rfl rfl rfl zt_28 rfl rfl rfl (.nil ?_)
  refine AWP.seq (AWP.region ?_)
  refine AOps.alloc 102 rfl rfl rfl rfl zt_28 rfl rfl rfl ?_
  refine AOps.adoptCell 201 67 7 102 0 (.head _) rfl rfl ?_
  refine AOps.adoptCell 202 3 1 102 1 (.tail _ (.head _)) rfl rfl ?_
  refine AOps.adoptCell 203 46 2 102 2 (.tail _ (.tail _ (.head _))) rfl rfl ?_
  refine AOps.adoptCell 204 3 1 102 3 (.tail _ (.tail _ (.tail _ (.head _)))) rfl rfl ?_
  refine AOps.nil ?_
  refine AWP.seq ?_
  refine AWP.seq (AWP.region ?_)
  refine AOps.step rfl rfl rfl (AOp.fieldAddr rfl fo_25_0 rfl) ?_
  refine AOps.step rfl rfl rfl (AOp.load rfl sc_22 rfl) ?_
  refine AOps.step rfl rfl rfl (AOp.lenSl rfl et_22.ht rfl) ?_
  refine AOps.mD rfl rfl rfl rfl rfl (.nil ?_)
  refine AWP.block ?_
  refine AWP.loop (G := Nat) (fun k => Env.of [(25, .d (.v (.int .i64 (k : Int)))), (23, .d (.sl (b.things.map Thg.ds))), (24, .d (.v (.int .i64 ((b.things.map Thg.ds).length : Int)))), (2, .d (.fp a.ds)), (3, .d (.fp b.ds)), (4, .ptr 101 0), (5, .ptr 102 0)]) (fun k => [(204, .row 3 1 (([] : List Int).map intD)), (203, .row 46 2 (([] : GL Int).map fun p => (mvO p).ds)), (202, .row 3 1 (([] : List Int).map intD)), (201, .row 67 7 ((btwTo (idxL a.things) (idxL b.things) k).map fun p => p.2.ds)), (102, .cells [.own 201, .own 202, .own 203, .own 204]), (101, .cells [.d (.v (.slice none 0 0)), .d (.v (.slice none 0 0)), .d (.v (.slice none 0 0)), .d (.v (.slice none 0 0))])]) (fun k => k ≤ b.things.length) (fun k => b.things.length - k) 0 (Nat.zero_le _) (Sub.less ⟨(SLe.of_eq rfl), SLe.refl _, SLe.refl _, SLe.refl _, SLe.refl _, SLe.refl _, SLe.refl _, trivial⟩ (obs_e rfl)) ?_
  intro k hk
  refine AWP.seq (AWP.region ?_)
  refine AOps.step rfl rfl rfl (AOp.lss rfl rfl rfl) (.nil ?_)
  refine AWP.seq ?_
  refine AWP.cond rfl (fun h1 => ?_) (fun h1 => ?_)
  · replace h1 := of_decide_eq_true h1
    rw [List.length_map] at h1
    have hlt : k < b.things.length := by omega
    have hq := btwTo_len (idxL a.things) (idxL b.things) k
    rw [idx_ln] at hq
    refine AWP.skip ?_
    refine AWP.seq ?_
    refine AWP.block ?_
    refine AWP.seq (AWP.region ?_)
    refine AOps.step rfl rfl rfl (AOp.indexAddr rfl et_22 rfl rfl k rfl (at_lst hlt) rfl) ?_
    refine AOps.step rfl rfl rfl (AOp.loadAgg rfl ag_67 rfl rfl) ?_
    refine AOps.alloc 103 rfl rfl rfl rfl zt_67 rfl rfl rfl ?_
    refine AOps.store rfl rfl rfl sz_67 rfl (.head _) rfl rfl rfl (Nat.le_of_ble_eq_true rfl) ?_
    refine AOps.freezeCells 7 (ds := b.things[k].ds) rfl (.head _) (.nil ?_)
    refine AWP.seq (AWP.region ?_)
    refine AOps.step rfl rfl rfl (AOp.loadAgg rfl ag_25 rfl rfl) ?_
    refine AOps.step rfl rfl rfl (AOp.fieldAddr rfl fo_67_0 rfl) ?_
    refine AOps.step rfl rfl rfl (AOp.load rfl sc_3 rfl) ?_
    refine AOps.step rfl rfl rfl (AOp.call rfl (.cons (ArgOk.rfl' rfl) (.cons (ArgOk.rfl' rfl) .nil)) (c_thing a _ ha)) ?_
    refine AOps.mD rfl rfl rfl rfl rfl ?_
    refine AOps.step rfl rfl rfl (AOp.extract rfl rfl rfl) ?_
    refine AOps.step rfl rfl rfl (AOp.extract rfl rfl rfl) ?_
    refine AOps.alloc 104 rfl rfl rfl rfl zt_67 rfl rfl rfl ?_
    refine AOps.store rfl rfl rfl sz_67 rfl (.head _) rfl rfl rfl (Nat.le_of_ble_eq_true rfl) ?_
    refine AOps.freezeCells 8 (ds := (getT a.things b.things[k].id).ds) rfl (.head _) ?_
    refine AOps.aD rfl rfl rfl rfl rfl (.nil ?_)
    refine AWP.seq (AWP.region ?_)
    refine AOps.mD rfl rfl rfl rfl rfl ?_
    refine AOps.step rfl rfl rfl (AOp.not rfl rfl) ?_
    refine AOps.mD rfl rfl rfl rfl rfl ?_
    refine AOps.split 38 rfl (fun g2 => ?_) (fun g2 => ?_)
    · replace g2 := bnot_t g2
      have HB := btT_yes hlt (.inl g2)
      refine AOps.pass ⟨38, rfl, .inl ⟨_, rfl, rfl⟩⟩ rfl rfl ?_
      refine AOps.pass ⟨38, rfl, .inl ⟨_, rfl, rfl⟩⟩ rfl rfl ?_
      refine AOps.pass ⟨38, rfl, .inl ⟨_, rfl, rfl⟩⟩ rfl rfl ?_
      refine AOps.pass ⟨38, rfl, .inl ⟨_, rfl, rfl⟩⟩ rfl rfl ?_
      refine AOps.step rfl rfl rfl (AOp.pickT rfl rfl rfl) (.nil ?_)
      refine AWP.cond rfl (fun _ => ?_) (fun h => nomatch h)
      refine AWP.region ?_
      refine AOps.step rfl rfl rfl (AOp.fieldAddrP rfl fo_28_0 rfl) ?_
      refine AOps.step rfl rfl rfl (AOp.loadP rfl sc_22 rfl (.tail _ (.tail _ (.tail _ (.tail _ (.head _))))) rfl) ?_
      refine AOps.step rfl rfl rfl (AOp.loadAgg rfl ag_67 rfl rfl) ?_
      refine AOps.step rfl rfl rfl (AOp.buildSlice rfl et_22 (.cons rfl rfl rfl .nil) rfl (by decide)) ?_
      -- append 48
      refine AOps.append rfl rfl rfl rfl et_22 rfl (.tail _ (.tail _ (.tail _ (.head _)))) rfl (fun y hy => by obtain rfl := List.mem_singleton.1 hy; rfl) (by simp; omega) (by simp; omega) ?_
      refine AOps.step rfl rfl rfl (AOp.fieldAddrP rfl fo_28_0 rfl) ?_
      refine AOps.storeS rfl rfl rfl sz_22 rfl (.tail _ (.tail _ (.tail _ (.tail _ (.head _))))) rfl (.tail _ (.tail _ (.tail _ (.head _)))) (Nat.le_of_ble_eq_true rfl) (.nil ?_)
      refine AWP.region ?_
      refine AOps.step rfl rfl rfl (AOp.add64 rfl rfl rfl (by omega) (by omega)) ?_
      refine AOps.mD rfl rfl rfl rfl rfl (.nil ?_)
      refine ⟨k + 1, (by dsimp only; omega), (by dsimp only; omega), Sub.less ⟨(SLe.of_eq rfl), SLe.refl _, SLe.refl _, SLe.refl _, SLe.refl _, SLe.refl _, SLe.refl _, trivial⟩ (obs_e (by dsimp only; rw [HB]; first | done | (rw [List.map_append]; rfl) | rfl))⟩
    replace g2 := bnot_f g2
    have wth := g2
    refine AOps.step ⟨38, rfl, .inl ⟨_, rfl, rfl⟩⟩ rfl rfl (AOp.loadAgg rfl ag_67 rfl rfl) ?_
    refine AOps.step ⟨38, rfl, .inl ⟨_, rfl, rfl⟩⟩ rfl rfl (AOp.loadAgg rfl ag_67 rfl rfl) ?_
    refine AOps.step ⟨38, rfl, .inl ⟨_, rfl, rfl⟩⟩ rfl rfl (AOp.call rfl (.cons (ArgOk.rfl' rfl) (.cons (ArgOk.rfl' rfl) .nil)) (c_same _ _)) ?_
    refine AOps.step ⟨38, rfl, .inl ⟨_, rfl, rfl⟩⟩ rfl rfl (AOp.not rfl rfl) ?_
    refine AOps.step rfl rfl rfl (AOp.pickF rfl rfl rfl) (.nil ?_)
    refine AWP.cond rfl (fun h3 => ?_) (fun h3 => ?_)
    · replace h3 := bnot_t h3; replace h3 := of_decide_eq_false h3
      have HB := btT_yes hlt (.inr h3)
      refine AWP.region ?_
      refine AOps.step rfl rfl rfl (AOp.fieldAddrP rfl fo_28_0 rfl) ?_
      refine AOps.step rfl rfl rfl (AOp.loadP rfl sc_22 rfl (.tail _ (.tail _ (.tail _ (.tail _ (.head _))))) rfl) ?_
      refine AOps.step rfl rfl rfl (AOp.loadAgg rfl ag_67 rfl rfl) ?_
      refine AOps.step rfl rfl rfl (AOp.buildSlice rfl et_22 (.cons rfl rfl rfl .nil) rfl (by decide)) ?_
      -- append 48
      refine AOps.append rfl rfl rfl rfl et_22 rfl (.tail _ (.tail _ (.tail _ (.head _)))) rfl (fun y hy => by obtain rfl := List.mem_singleton.1 hy; rfl) (by simp; omega) (by simp; omega) ?_
      refine AOps.step rfl rfl rfl (AOp.fieldAddrP rfl fo_28_0 rfl) ?_
      refine AOps.storeS rfl rfl rfl sz_22 rfl (.tail _ (.tail _ (.tail _ (.tail _ (.head _))))) rfl (.tail _ (.tail _ (.tail _ (.head _)))) (Nat.le_of_ble_eq_true rfl) (.nil ?_)
      refine AWP.region ?_
      refine AOps.step rfl rfl rfl (AOp.add64 rfl rfl rfl (by omega) (by omega)) ?_
      refine AOps.mD rfl rfl rfl rfl rfl (.nil ?_)
      refine ⟨k + 1, (by dsimp only; omega), (by dsimp only; omega), Sub.less ⟨(SLe.of_eq rfl), SLe.refl _, SLe.refl _, SLe.refl _, SLe.refl _, SLe.refl _, SLe.refl _, trivial⟩ (obs_e (by dsimp only; rw [HB]; first | done | (rw [List.map_append]; rfl) | rfl))⟩
    replace h3 := bnot_f h3; replace h3 := of_decide_eq_true h3
    have HB := btT_no hlt wth (by first | exact h3 | exact Decidable.not_not.1 h3)
    refine AWP.skip ?_
    refine AWP.region ?_
    refine AOps.step rfl rfl rfl (AOp.add64 rfl rfl rfl (by omega) (by omega)) ?_
    refine AOps.mD rfl rfl rfl rfl rfl (.nil ?_)
    refine ⟨k + 1, (by dsimp only; omega), (by dsimp only; omega), Sub.less ⟨(SLe.of_eq rfl), SLe.refl _, SLe.refl _, SLe.refl _, SLe.refl _, SLe.refl _, SLe.refl _, trivial⟩ (obs_e (by dsimp only; rw [HB]; first | done | (rw [List.map_append]; rfl) | rfl))⟩
  replace h1 := of_decide_eq_false h1
  rw [List.length_map] at h1
  obtain rfl : k = b.things.length := by omega
  rw [← idx_ln b.things, btwTo_all]
  refine AWP.exit ?_
  refine AWP.seq ?_
  refine AWP.seq (AWP.region ?_)
  refine AOps.step rfl rfl rfl (AOp.fieldAddr rfl fo_25_0 rfl) ?_
  refine AOps.step rfl rfl rfl (AOp.load rfl sc_22 rfl) ?_
  refine AOps.step rfl rfl rfl (AOp.lenSl rfl et_22.ht rfl) ?_
  refine AOps.mD rfl rfl rfl rfl rfl (.nil ?_)
  refine AWP.block ?_
  refine AWP.loop (G := Nat) (fun j => Env.of [(54, .d (.v (.int .i64 (j : Int)))), (52, .d (.sl (a.things.map Thg.ds))), (53, .d (.v (.int .i64 ((a.things.map Thg.ds).length : Int)))), (2, .d (.fp a.ds)), (3, .d (.fp b.ds)), (4, .ptr 101 0), (5, .ptr 102 0)]) (fun j => [(204, .row 3 1 (([] : List Int).map intD)), (203, .row 46 2 (([] : GL Int).map fun p => (mvO p).ds)), (202, .row 3 1 ((gnTo (idxL a.things) (idxL b.things) j).map intD)), (201, .row 67 7 ((btwP (idxL a.things) (idxL b.things)).map fun p => p.2.ds)), (102, .cells [.own 201, .own 202, .own 203, .own 204]), (101, .cells [.d (.v (.slice none 0 0)), .d (.v (.slice none 0 0)), .d (.v (.slice none 0 0)), .d (.v (.slice none 0 0))])]) (fun j => j ≤ a.things.length) (fun j => a.things.length - j) 0 (Nat.zero_le _) (Sub.less ⟨(SLe.of_eq rfl), SLe.refl _, SLe.refl _, SLe.refl _, SLe.refl _, SLe.refl _, SLe.refl _, trivial⟩ (obs_e rfl)) ?_
  intro j hj
  refine AWP.seq (AWP.region ?_)
  refine AOps.step rfl rfl rfl (AOp.lss rfl rfl rfl) (.nil ?_)
  refine AWP.seq ?_
  refine AWP.cond rfl (fun h4 => ?_) (fun h4 => ?_)
  · replace h4 := of_decide_eq_true h4
    rw [List.length_map] at h4
    have hlt : j < a.things.length := by omega
    have hq := gnTo_len (idxL a.things) (idxL b.things) j
    rw [idx_ln] at hq
    refine AWP.skip ?_
    refine AWP.seq ?_
    refine AWP.block ?_
    refine AWP.seq (AWP.region ?_)
    refine AOps.step rfl rfl rfl (AOp.indexAddr rfl et_22 rfl rfl j rfl (at_lst hlt) rfl) ?_
    refine AOps.step rfl rfl rfl (AOp.loadAgg rfl ag_67 rfl rfl) ?_
    refine AOps.alloc 105 rfl rfl rfl rfl zt_67 rfl rfl rfl ?_
    refine AOps.store rfl rfl rfl sz_67 rfl (.head _) rfl rfl rfl (Nat.le_of_ble_eq_true rfl) ?_
    refine AOps.freezeCells 11 (ds := a.things[j].ds) rfl (.head _) (.nil ?_)
    refine AWP.seq (AWP.region ?_)
    refine AOps.step rfl rfl rfl (AOp.loadAgg rfl ag_25 rfl rfl) ?_
    refine AOps.step rfl rfl rfl (AOp.fieldAddr rfl fo_67_0 rfl) ?_
    refine AOps.step rfl rfl rfl (AOp.load rfl sc_3 rfl) ?_
    refine AOps.step rfl rfl rfl (AOp.call rfl (.cons (ArgOk.rfl' rfl) (.cons (ArgOk.rfl' rfl) .nil)) (c_thing b _ hb)) ?_
    refine AOps.mD rfl rfl rfl rfl rfl ?_
    refine AOps.step rfl rfl rfl (AOp.extract rfl rfl rfl) ?_
    refine AOps.step rfl rfl rfl (AOp.extract rfl rfl rfl) ?_
    refine AOps.alloc 106 rfl rfl rfl rfl zt_67 rfl rfl rfl ?_
    refine AOps.store rfl rfl rfl sz_67 rfl (.head _) rfl rfl rfl (Nat.le_of_ble_eq_true rfl) ?_
    refine AOps.freezeCells 12 (ds := (getT b.things a.things[j].id).ds) rfl (.head _) ?_
    refine AOps.aD rfl rfl rfl rfl rfl (.nil ?_)
    refine AWP.seq (AWP.region ?_)
    refine AOps.mD rfl rfl rfl rfl rfl ?_
    refine AOps.step rfl rfl rfl (AOp.not rfl rfl) (.nil ?_)
    refine AWP.cond rfl (fun h5 => ?_) (fun h5 => ?_)
    · replace h5 := bnot_t h5
      have HB := gnT_yes hlt h5
      refine AWP.region ?_
      refine AOps.step rfl rfl rfl (AOp.fieldAddrP rfl fo_28_1 rfl) ?_
      refine AOps.step rfl rfl rfl (AOp.loadP rfl sc_26 rfl (.tail _ (.tail _ (.tail _ (.tail _ (.head _))))) rfl) ?_
      refine AOps.step rfl rfl rfl (AOp.fieldAddr rfl fo_67_0 rfl) ?_
      refine AOps.step rfl rfl rfl (AOp.load rfl sc_3 rfl) ?_
      refine AOps.step rfl rfl rfl (AOp.buildSlice rfl et_26 (.cons rfl rfl rfl .nil) rfl (by decide)) ?_
      -- append 72
      refine AOps.append rfl rfl rfl rfl et_26 rfl (.tail _ (.tail _ (.head _))) rfl (fun y hy => by obtain rfl := List.mem_singleton.1 hy; rfl) (by simp; omega) (by simp; omega) ?_
      refine AOps.step rfl rfl rfl (AOp.fieldAddrP rfl fo_28_1 rfl) ?_
      refine AOps.storeS rfl rfl rfl sz_26 rfl (.tail _ (.tail _ (.tail _ (.tail _ (.head _))))) rfl (.tail _ (.tail _ (.head _))) (Nat.le_of_ble_eq_true rfl) (.nil ?_)
      refine AWP.region ?_
      refine AOps.step rfl rfl rfl (AOp.add64 rfl rfl rfl (by omega) (by omega)) ?_
      refine AOps.mD rfl rfl rfl rfl rfl (.nil ?_)
      refine ⟨j + 1, (by dsimp only; omega), (by dsimp only; omega), Sub.less ⟨(SLe.of_eq rfl), SLe.refl _, SLe.refl _, SLe.refl _, SLe.refl _, SLe.refl _, SLe.refl _, trivial⟩ (obs_e (by dsimp only; rw [HB]; first | done | (rw [List.map_append]; rfl) | rfl))⟩
    replace h5 := bnot_f h5
    have HB := gnT_no hlt h5
    refine AWP.skip ?_
    refine AWP.region ?_
    refine AOps.step rfl rfl rfl (AOp.add64 rfl rfl rfl (by omega) (by omega)) ?_
    refine AOps.mD rfl rfl rfl rfl rfl (.nil ?_)
    refine ⟨j + 1, (by dsimp only; omega), (by dsimp only; omega), Sub.less ⟨(SLe.of_eq rfl), SLe.refl _, SLe.refl _, SLe.refl _, SLe.refl _, SLe.refl _, SLe.refl _, trivial⟩ (obs_e (by dsimp only; rw [HB]; first | done | (rw [List.map_append]; rfl) | rfl))⟩
  replace h4 := of_decide_eq_false h4
  rw [List.length_map] at h4
  obtain rfl : j = a.things.length := by omega
  rw [← idx_ln a.things, gnTo_all]
  refine AWP.exit ?_
  refine AWP.seq ?_
  refine AWP.seq (AWP.region ?_)
  refine AOps.step rfl rfl rfl (AOp.fieldAddr rfl fo_25_1 rfl) ?_
  refine AOps.step rfl rfl rfl (AOp.load rfl sc_23 rfl) ?_
  refine AOps.step rfl rfl rfl (AOp.lenSl rfl et_23.ht rfl) ?_
  refine AOps.mD rfl rfl rfl rfl rfl (.nil ?_)
  refine AWP.block ?_
  refine AWP.loop (G := Nat) (fun m => Env.of [(78, .d (.v (.int .i64 (m : Int)))), (76, .d (.sl (b.moved.map Mvd.ds))), (77, .d (.v (.int .i64 ((b.moved.map Mvd.ds).length : Int)))), (2, .d (.fp a.ds)), (3, .d (.fp b.ds)), (4, .ptr 101 0), (5, .ptr 102 0)]) (fun m => [(204, .row 3 1 (([] : List Int).map intD)), (203, .row 46 2 ((btwTo (mvL a.moved) (mvL b.moved) m).map fun p => (mvO p).ds)), (202, .row 3 1 ((btwG (idxL a.things) (idxL b.things)).map intD)), (201, .row 67 7 ((btwP (idxL a.things) (idxL b.things)).map fun p => p.2.ds)), (102, .cells [.own 201, .own 202, .own 203, .own 204]), (101, .cells [.d (.v (.slice none 0 0)), .d (.v (.slice none 0 0)), .d (.v (.slice none 0 0)), .d (.v (.slice none 0 0))])]) (fun m => m ≤ b.moved.length) (fun m => b.moved.length - m) 0 (Nat.zero_le _) (Sub.less ⟨(SLe.of_eq rfl), SLe.refl _, SLe.refl _, SLe.refl _, SLe.refl _, SLe.refl _, SLe.refl _, trivial⟩ (obs_e rfl)) ?_
  intro m hm
  refine AWP.seq (AWP.region ?_)
  refine AOps.step rfl rfl rfl (AOp.lss rfl rfl rfl) (.nil ?_)
  refine AWP.seq ?_
  refine AWP.cond rfl (fun h6 => ?_) (fun h6 => ?_)
  · replace h6 := of_decide_eq_true h6
    rw [List.length_map] at h6
    have hlt : m < b.moved.length := by omega
    have hq := btwTo_len (mvL a.moved) (mvL b.moved) m
    rw [mv_ln] at hq
    refine AWP.skip ?_
    refine AWP.seq ?_
    refine AWP.block ?_
    refine AWP.seq (AWP.region ?_)
    refine AOps.step rfl rfl rfl (AOp.indexAddr rfl et_23 rfl rfl m rfl (at_lst hlt) rfl) ?_
    refine AOps.step rfl rfl rfl (AOp.loadAgg rfl ag_46 rfl rfl) ?_
    refine AOps.alloc 107 rfl rfl rfl rfl zt_46 rfl rfl rfl ?_
    refine AOps.store rfl rfl rfl sz_46 rfl (.head _) rfl rfl rfl (Nat.le_of_ble_eq_true rfl) ?_
    refine AOps.freezeCells 15 (ds := b.moved[m].ds) rfl (.head _) (.nil ?_)
    refine AWP.seq (AWP.region ?_)
    refine AOps.step rfl rfl rfl (AOp.loadAgg rfl ag_25 rfl rfl) ?_
    refine AOps.step rfl rfl rfl (AOp.fieldAddr rfl fo_46_0 rfl) ?_
    refine AOps.step rfl rfl rfl (AOp.load rfl sc_3 rfl) ?_
    refine AOps.step rfl rfl rfl (AOp.call rfl (.cons (ArgOk.rfl' rfl) (.cons (ArgOk.rfl' rfl) .nil)) (c_moved a _ ha)) ?_
    refine AOps.mD rfl rfl rfl rfl rfl ?_
    refine AOps.step rfl rfl rfl (AOp.extract rfl rfl rfl) ?_
    refine AOps.step rfl rfl rfl (AOp.extract rfl rfl rfl) ?_
    refine AOps.aD rfl rfl rfl rfl rfl ?_
    refine AOps.aD rfl rfl rfl rfl rfl (.nil ?_)
    refine AWP.seq (AWP.region ?_)
    refine AOps.mD rfl rfl rfl rfl rfl ?_
    refine AOps.step rfl rfl rfl (AOp.not rfl rfl) ?_
    refine AOps.mD rfl rfl rfl rfl rfl ?_
    refine AOps.split 91 rfl (fun g7 => ?_) (fun g7 => ?_)
    · replace g7 := bnot_t g7
      have HB := btM_yes hlt (.inl g7)
      refine AOps.pass ⟨91, rfl, .inl ⟨_, rfl, rfl⟩⟩ rfl rfl ?_
      refine AOps.pass ⟨91, rfl, .inl ⟨_, rfl, rfl⟩⟩ rfl rfl ?_
      refine AOps.pass ⟨91, rfl, .inl ⟨_, rfl, rfl⟩⟩ rfl rfl ?_
      refine AOps.pass ⟨91, rfl, .inl ⟨_, rfl, rfl⟩⟩ rfl rfl ?_
      refine AOps.step rfl rfl rfl (AOp.pickT rfl rfl rfl) (.nil ?_)
      refine AWP.cond rfl (fun _ => ?_) (fun h => nomatch h)
      refine AWP.region ?_
      refine AOps.step rfl rfl rfl (AOp.fieldAddrP rfl fo_28_2 rfl) ?_
      refine AOps.step rfl rfl rfl (AOp.loadP rfl sc_23 rfl (.tail _ (.tail _ (.tail _ (.tail _ (.head _))))) rfl) ?_
      refine AOps.step rfl rfl rfl (AOp.loadAgg rfl ag_46 rfl rfl) ?_
      refine AOps.step rfl rfl rfl (AOp.buildSlice rfl et_23 (.cons rfl rfl rfl .nil) rfl (by decide)) ?_
      -- append 101
      refine AOps.append rfl rfl rfl rfl et_23 rfl (.tail _ (.head _)) rfl (fun y hy => by obtain rfl := List.mem_singleton.1 hy; rfl) (by simp; omega) (by simp; omega) ?_
      refine AOps.step rfl rfl rfl (AOp.fieldAddrP rfl fo_28_2 rfl) ?_
      refine AOps.storeS rfl rfl rfl sz_23 rfl (.tail _ (.tail _ (.tail _ (.tail _ (.head _))))) rfl (.tail _ (.head _)) (Nat.le_of_ble_eq_true rfl) (.nil ?_)
      refine AWP.region ?_
      refine AOps.step rfl rfl rfl (AOp.add64 rfl rfl rfl (by omega) (by omega)) ?_
      refine AOps.mD rfl rfl rfl rfl rfl (.nil ?_)
      refine ⟨m + 1, (by dsimp only; omega), (by dsimp only; omega), Sub.less ⟨(SLe.of_eq rfl), SLe.refl _, SLe.refl _, SLe.refl _, SLe.refl _, SLe.refl _, SLe.refl _, trivial⟩ (obs_e (by dsimp only; rw [HB]; first | done | (rw [List.map_append]; rfl) | rfl))⟩
    replace g7 := bnot_f g7
    have wth := g7
    refine AOps.step ⟨91, rfl, .inl ⟨_, rfl, rfl⟩⟩ rfl rfl (AOp.moveD rfl rfl) ?_
    refine AOps.step ⟨91, rfl, .inl ⟨_, rfl, rfl⟩⟩ rfl rfl (AOp.fieldAddr rfl fo_46_1 rfl) ?_
    refine AOps.step ⟨91, rfl, .inl ⟨_, rfl, rfl⟩⟩ rfl rfl (AOp.load rfl sc_3 rfl) ?_
    refine AOps.step ⟨91, rfl, .inl ⟨_, rfl, rfl⟩⟩ rfl rfl (AOp.neq rfl rfl rfl) ?_
    refine AOps.step rfl rfl rfl (AOp.pickF rfl rfl rfl) (.nil ?_)
    refine AWP.cond rfl (fun h8 => ?_) (fun h8 => ?_)
    · replace h8 := of_decide_eq_true h8
      have HB := btM_yes hlt (.inr h8)
      refine AWP.region ?_
      refine AOps.step rfl rfl rfl (AOp.fieldAddrP rfl fo_28_2 rfl) ?_
      refine AOps.step rfl rfl rfl (AOp.loadP rfl sc_23 rfl (.tail _ (.tail _ (.tail _ (.tail _ (.head _))))) rfl) ?_
      refine AOps.step rfl rfl rfl (AOp.loadAgg rfl ag_46 rfl rfl) ?_
      refine AOps.step rfl rfl rfl (AOp.buildSlice rfl et_23 (.cons rfl rfl rfl .nil) rfl (by decide)) ?_
      -- append 101
      refine AOps.append rfl rfl rfl rfl et_23 rfl (.tail _ (.head _)) rfl (fun y hy => by obtain rfl := List.mem_singleton.1 hy; rfl) (by simp; omega) (by simp; omega) ?_
      refine AOps.step rfl rfl rfl (AOp.fieldAddrP rfl fo_28_2 rfl) ?_
      refine AOps.storeS rfl rfl rfl sz_23 rfl (.tail _ (.tail _ (.tail _ (.tail _ (.head _))))) rfl (.tail _ (.head _)) (Nat.le_of_ble_eq_true rfl) (.nil ?_)
      refine AWP.region ?_
      refine AOps.step rfl rfl rfl (AOp.add64 rfl rfl rfl (by omega) (by omega)) ?_
      refine AOps.mD rfl rfl rfl rfl rfl (.nil ?_)
      refine ⟨m + 1, (by dsimp only; omega), (by dsimp only; omega), Sub.less ⟨(SLe.of_eq rfl), SLe.refl _, SLe.refl _, SLe.refl _, SLe.refl _, SLe.refl _, SLe.refl _, trivial⟩ (obs_e (by dsimp only; rw [HB]; first | done | (rw [List.map_append]; rfl) | rfl))⟩
    replace h8 := of_decide_eq_false h8
    have HB := btM_no hlt wth (by first | exact h8 | exact Decidable.not_not.1 h8)
    refine AWP.skip ?_
    refine AWP.region ?_
    refine AOps.step rfl rfl rfl (AOp.add64 rfl rfl rfl (by omega) (by omega)) ?_
    refine AOps.mD rfl rfl rfl rfl rfl (.nil ?_)
    refine ⟨m + 1, (by dsimp only; omega), (by dsimp only; omega), Sub.less ⟨(SLe.of_eq rfl), SLe.refl _, SLe.refl _, SLe.refl _, SLe.refl _, SLe.refl _, SLe.refl _, trivial⟩ (obs_e (by dsimp only; rw [HB]; first | done | (rw [List.map_append]; rfl) | rfl))⟩
  replace h6 := of_decide_eq_false h6
  rw [List.length_map] at h6
  obtain rfl : m = b.moved.length := by omega
  rw [← mv_ln b.moved, btwTo_all]
  refine AWP.exit ?_
  refine AWP.seq ?_
  refine AWP.seq (AWP.region ?_)
  refine AOps.step rfl rfl rfl (AOp.fieldAddr rfl fo_25_1 rfl) ?_
  refine AOps.step rfl rfl rfl (AOp.load rfl sc_23 rfl) ?_
  refine AOps.step rfl rfl rfl (AOp.lenSl rfl et_23.ht rfl) ?_
  refine AOps.mD rfl rfl rfl rfl rfl (.nil ?_)
  refine AWP.block ?_
  refine AWP.loop (G := Nat) (fun n => Env.of [(107, .d (.v (.int .i64 (n : Int)))), (105, .d (.sl (a.moved.map Mvd.ds))), (106, .d (.v (.int .i64 ((a.moved.map Mvd.ds).length : Int)))), (2, .d (.fp a.ds)), (3, .d (.fp b.ds)), (4, .ptr 101 0), (5, .ptr 102 0)]) (fun n => [(204, .row 3 1 ((gnTo (mvL a.moved) (mvL b.moved) n).map intD)), (203, .row 46 2 ((btwP (mvL a.moved) (mvL b.moved)).map fun p => (mvO p).ds)), (202, .row 3 1 ((btwG (idxL a.things) (idxL b.things)).map intD)), (201, .row 67 7 ((btwP (idxL a.things) (idxL b.things)).map fun p => p.2.ds)), (102, .cells [.own 201, .own 202, .own 203, .own 204]), (101, .cells [.d (.v (.slice none 0 0)), .d (.v (.slice none 0 0)), .d (.v (.slice none 0 0)), .d (.v (.slice none 0 0))])]) (fun n => n ≤ a.moved.length) (fun n => a.moved.length - n) 0 (Nat.zero_le _) (Sub.less ⟨(SLe.of_eq rfl), SLe.refl _, SLe.refl _, SLe.refl _, SLe.refl _, SLe.refl _, SLe.refl _, trivial⟩ (obs_e rfl)) ?_
  intro n hn
  refine AWP.seq (AWP.region ?_)
  refine AOps.step rfl rfl rfl (AOp.lss rfl rfl rfl) (.nil ?_)
  refine AWP.seq ?_
  refine AWP.cond rfl (fun h9 => ?_) (fun h9 => ?_)
  · replace h9 := of_decide_eq_true h9
    rw [List.length_map] at h9
    have hlt : n < a.moved.length := by omega
    have hq := gnTo_len (mvL a.moved) (mvL b.moved) n
    rw [mv_ln] at hq
    refine AWP.skip ?_
    refine AWP.seq ?_
    refine AWP.block ?_
    refine AWP.seq (AWP.region ?_)
    refine AOps.step rfl rfl rfl (AOp.indexAddr rfl et_23 rfl rfl n rfl (at_lst hlt) rfl) ?_
    refine AOps.step rfl rfl rfl (AOp.loadAgg rfl ag_46 rfl rfl) ?_
    refine AOps.alloc 108 rfl rfl rfl rfl zt_46 rfl rfl rfl ?_
    refine AOps.store rfl rfl rfl sz_46 rfl (.head _) rfl rfl rfl (Nat.le_of_ble_eq_true rfl) ?_
    refine AOps.freezeCells 19 (ds := a.moved[n].ds) rfl (.head _) (.nil ?_)
    refine AWP.seq (AWP.region ?_)
    refine AOps.step rfl rfl rfl (AOp.loadAgg rfl ag_25 rfl rfl) ?_
    refine AOps.step rfl rfl rfl (AOp.fieldAddr rfl fo_46_0 rfl) ?_
    refine AOps.step rfl rfl rfl (AOp.load rfl sc_3 rfl) ?_
    refine AOps.step rfl rfl rfl (AOp.call rfl (.cons (ArgOk.rfl' rfl) (.cons (ArgOk.rfl' rfl) .nil)) (c_moved b _ hb)) ?_
    refine AOps.mD rfl rfl rfl rfl rfl ?_
    refine AOps.step rfl rfl rfl (AOp.extract rfl rfl rfl) ?_
    refine AOps.step rfl rfl rfl (AOp.extract rfl rfl rfl) ?_
    refine AOps.aD rfl rfl rfl rfl rfl ?_
    refine AOps.aD rfl rfl rfl rfl rfl (.nil ?_)
    refine AWP.seq (AWP.region ?_)
    refine AOps.mD rfl rfl rfl rfl rfl ?_
    refine AOps.step rfl rfl rfl (AOp.not rfl rfl) (.nil ?_)
    refine AWP.cond rfl (fun h10 => ?_) (fun h10 => ?_)
    · replace h10 := bnot_t h10
      have HB := gnM_yes hlt h10
      refine AWP.region ?_
      refine AOps.step rfl rfl rfl (AOp.fieldAddrP rfl fo_28_3 rfl) ?_
      refine AOps.step rfl rfl rfl (AOp.loadP rfl sc_26 rfl (.tail _ (.tail _ (.tail _ (.tail _ (.head _))))) rfl) ?_
      refine AOps.step rfl rfl rfl (AOp.fieldAddr rfl fo_46_0 rfl) ?_
      refine AOps.step rfl rfl rfl (AOp.load rfl sc_3 rfl) ?_
      refine AOps.step rfl rfl rfl (AOp.buildSlice rfl et_26 (.cons rfl rfl rfl .nil) rfl (by decide)) ?_
      -- append 125
      refine AOps.append rfl rfl rfl rfl et_26 rfl (.head _) rfl (fun y hy => by obtain rfl := List.mem_singleton.1 hy; rfl) (by simp; omega) (by simp; omega) ?_
      refine AOps.step rfl rfl rfl (AOp.fieldAddrP rfl fo_28_3 rfl) ?_
      refine AOps.storeS rfl rfl rfl sz_26 rfl (.tail _ (.tail _ (.tail _ (.tail _ (.head _))))) rfl (.head _) (Nat.le_of_ble_eq_true rfl) (.nil ?_)
      refine AWP.region ?_
      refine AOps.step rfl rfl rfl (AOp.add64 rfl rfl rfl (by omega) (by omega)) ?_
      refine AOps.mD rfl rfl rfl rfl rfl (.nil ?_)
      refine ⟨n + 1, (by dsimp only; omega), (by dsimp only; omega), Sub.less ⟨(SLe.of_eq rfl), SLe.refl _, SLe.refl _, SLe.refl _, SLe.refl _, SLe.refl _, SLe.refl _, trivial⟩ (obs_e (by dsimp only; rw [HB]; first | done | (rw [List.map_append]; rfl) | rfl))⟩
    replace h10 := bnot_f h10
    have HB := gnM_no hlt h10
    refine AWP.skip ?_
    refine AWP.region ?_
    refine AOps.step rfl rfl rfl (AOp.add64 rfl rfl rfl (by omega) (by omega)) ?_
    refine AOps.mD rfl rfl rfl rfl rfl (.nil ?_)
    refine ⟨n + 1, (by dsimp only; omega), (by dsimp only; omega), Sub.less ⟨(SLe.of_eq rfl), SLe.refl _, SLe.refl _, SLe.refl _, SLe.refl _, SLe.refl _, SLe.refl _, trivial⟩ (obs_e (by dsimp only; rw [HB]; first | done | (rw [List.map_append]; rfl) | rfl))⟩
  replace h9 := of_decide_eq_false h9
  rw [List.length_map] at h9
  obtain rfl : n = a.moved.length := by omega
  rw [← mv_ln a.moved, gnTo_all]
  refine AWP.exit ?_
  refine AWP.seq ?_
  refine AWP.freezeIn 102 0 rfl (.tail _ (.tail _ (.tail _ (.head _)))) (.tail _ (.tail _ (.tail _ (.head _)))) ?_
  refine AWP.freezeIn 102 1 rfl (.tail _ (.tail _ (.head _))) (.tail _ (.tail _ (.head _))) ?_
  refine AWP.freezeIn 102 2 rfl (.tail _ (.head _)) (.tail _ (.head _)) ?_
  refine AWP.freezeIn 102 3 rfl (.head _) (.head _) ?_
  refine AWP.region ?_
  refine AOps.step rfl rfl rfl (AOp.loadPU rfl ag_28 rfl (.head _) rfl rfl) ?_
  refine AOps.store rfl rfl rfl sz_28 rfl (.tail _ (.head _)) rfl rfl rfl (Nat.le_of_ble_eq_true rfl) (.nil ?_)
  refine AWP.ret ?_
  refine ⟨RetR.agg rfl (.tail _ (.head _)) ag_28 rfl (.cons (by first | exact CellD.nil | exact CellD.d | exact CellD.eq (by simp [btwX, Function.comp_def]; try rfl) | (refine CellD.own (by first | exact .head _ | exact .tail _ (.head _)) ?_; rfl)) (.cons (by first | exact CellD.nil | exact CellD.d | exact CellD.eq (by simp [btwX, Function.comp_def]; try rfl) | (refine CellD.own (by first | exact .head _ | exact .tail _ (.head _)) ?_; rfl)) (.cons (by first | exact CellD.nil | exact CellD.d | exact CellD.eq (by simp [btwX, Function.comp_def]; try rfl) | (refine CellD.own (by first | exact .head _ | exact .tail _ (.head _)) ?_; rfl)) (.cons (by first | exact CellD.nil | exact CellD.d | exact CellD.eq (by simp [btwX, Function.comp_def]; try rfl) | (refine CellD.own (by first | exact .head _ | exact .tail _ (.head _)) ?_; rfl)) .nil)))), trivial⟩
  all_goals (rfl)


def differR (a b : Ctl) : Chg × Int := if chkF a = 0 then (if chkF b = 0 then (btwX a b, 0) else (zX, chkF b)) else (zX, chkF a)
theorem differR_a {a b : Ctl} (h : chkF a ≠ 0) : differR a b = (zX, chkF a) := if_neg h
theorem differR_b {a b : Ctl} (h : chkF a = 0) (h2 : chkF b ≠ 0) : differR a b = (zX, chkF b) := by unfold differR; rw [if_pos h, if_neg h2]
theorem differR_0 {a b : Ctl} (h : chkF a = 0) (h2 : chkF b = 0) : differR a b = (btwX a b, 0) := by unfold differR; rw [if_pos h, if_pos h2]
theorem differ_same (a b : Ctl) : differV a b = differR a b := by
  unfold differV differR
  split
  · rename_i ha
    split
    · rename_i hb; rw [btwX_eq ha hb]
    · rfl
  · rfl


set_option maxRecDepth 100000 in
set_option maxHeartbeats 1000000 in
theorem c_rDiff (a b : Ctl) (ha : CtlOk a) (hb : CtlOk b) : ACallT Tryz.prog MaxT 12 [.agg a.ds, .agg b.ds] (.tup [.agg (differR a b).1.ds, .v (.int .i64 (differR a b).2)]) := by
  refine acall_ofRT (n := 23) (ds' := [.agg (differR a b).1.ds, .v (.int .i64 (differR a b).2)]) Tryz.func12 rfl (by kernel_rfl) rfl [.cell 4 28, .tmp 5] rfl rfl ?_
  intro B w0 F0 hT
  refine AWP.seq (AWP.region ?_)
  refine AOps.step rfl rfl rfl (AOp.box rfl rfl rfl) ?_
  refine AOps.step rfl rfl rfl (AOp.box rfl rfl rfl) ?_
  refine AOps.alloc 101 rfl rfl rfl rfl zt_28 rfl rfl rfl ?_
  refine AOps.aD rfl rfl rfl rfl rfl (.nil ?_)
  refine AWP.seq ?_
  refine AWP.seq (AWP.region ?_)
  refine AOps.step rfl rfl rfl (AOp.loadAgg rfl ag_25 rfl rfl) ?_
  -- wants the world
  refine AOps.callT rfl rfl rfl hT maxT_stays rfl (.cons (ArgOk.rfl' rfl) .nil) (c_rChk a ha) ?_
  refine AOps.aD rfl rfl rfl rfl rfl (.nil ?_)
  refine AWP.seq (AWP.region ?_)
  refine AOps.mD rfl rfl rfl rfl rfl ?_
  refine AOps.step rfl rfl rfl (AOp.neq rfl rfl rfl) (.nil ?_)
  refine AWP.cond rfl (fun h1 => ?_) (fun h1 => ?_)
  · replace h1 := of_decide_eq_true h1
    rw [differR_a (by first | exact h1 | omega)]
    refine AWP.seq (AWP.region ?_)
    refine AOps.step rfl rfl rfl (AOp.build rfl bu_28 .nil rfl) ?_
    refine AOps.mD rfl rfl rfl rfl rfl ?_
    refine AOps.store rfl rfl rfl sz_28 rfl (.head _) rfl rfl rfl (Nat.le_of_ble_eq_true rfl) ?_
    refine AOps.aD rfl rfl rfl rfl rfl (.nil ?_)
    refine AWP.ret ?_
    refine ⟨RetR.agg rfl (.head _) ag_28 rfl (.cons (by first | exact CellD.nil | exact CellD.d | exact CellD.eq (by simp) | (refine CellD.own (by first | exact .head _ | exact .tail _ (.head _)) ?_; rfl)) (.cons (by first | exact CellD.nil | exact CellD.d | exact CellD.eq (by simp) | (refine CellD.own (by first | exact .head _ | exact .tail _ (.head _)) ?_; rfl)) (.cons (by first | exact CellD.nil | exact CellD.d | exact CellD.eq (by simp) | (refine CellD.own (by first | exact .head _ | exact .tail _ (.head _)) ?_; rfl)) (.cons (by first | exact CellD.nil | exact CellD.d | exact CellD.eq (by simp) | (refine CellD.own (by first | exact .head _ | exact .tail _ (.head _)) ?_; rfl)) .nil)))), RetD.eq rfl ?_, trivial⟩
    all_goals (rfl)
  replace h1 := of_decide_eq_false h1
  have ka : chkF a = 0 := (by first | exact h1 | omega)
  refine AWP.skip ?_
  refine AWP.seq ?_
  refine AWP.seq (AWP.region ?_)
  refine AOps.step rfl rfl rfl (AOp.loadAgg rfl ag_25 rfl rfl) ?_
  -- wants the world
  refine AOps.callT rfl rfl rfl hT maxT_stays rfl (.cons (ArgOk.rfl' rfl) .nil) (c_rChk b hb) ?_
  refine AOps.aD rfl rfl rfl rfl rfl (.nil ?_)
  refine AWP.seq (AWP.region ?_)
  refine AOps.mD rfl rfl rfl rfl rfl ?_
  refine AOps.step rfl rfl rfl (AOp.neq rfl rfl rfl) (.nil ?_)
  refine AWP.cond rfl (fun h2 => ?_) (fun h2 => ?_)
  · replace h2 := of_decide_eq_true h2
    rw [differR_b ka (by first | exact h2 | omega)]
    refine AWP.seq (AWP.region ?_)
    refine AOps.step rfl rfl rfl (AOp.build rfl bu_28 .nil rfl) ?_
    refine AOps.mD rfl rfl rfl rfl rfl ?_
    refine AOps.store rfl rfl rfl sz_28 rfl (.head _) rfl rfl rfl (Nat.le_of_ble_eq_true rfl) ?_
    refine AOps.aD rfl rfl rfl rfl rfl (.nil ?_)
    refine AWP.ret ?_
    refine ⟨RetR.agg rfl (.head _) ag_28 rfl (.cons (by first | exact CellD.nil | exact CellD.d | exact CellD.eq (by simp) | (refine CellD.own (by first | exact .head _ | exact .tail _ (.head _)) ?_; rfl)) (.cons (by first | exact CellD.nil | exact CellD.d | exact CellD.eq (by simp) | (refine CellD.own (by first | exact .head _ | exact .tail _ (.head _)) ?_; rfl)) (.cons (by first | exact CellD.nil | exact CellD.d | exact CellD.eq (by simp) | (refine CellD.own (by first | exact .head _ | exact .tail _ (.head _)) ?_; rfl)) (.cons (by first | exact CellD.nil | exact CellD.d | exact CellD.eq (by simp) | (refine CellD.own (by first | exact .head _ | exact .tail _ (.head _)) ?_; rfl)) .nil)))), RetD.eq rfl ?_, trivial⟩
    all_goals (rfl)
  replace h2 := of_decide_eq_false h2
  have kb : chkF b = 0 := (by first | exact h2 | omega)
  rw [differR_0 ka kb]
  refine AWP.skip ?_
  refine AWP.seq (AWP.region ?_)
  refine AOps.step rfl rfl rfl (AOp.loadAgg rfl ag_25 rfl rfl) ?_
  refine AOps.step rfl rfl rfl (AOp.loadAgg rfl ag_25 rfl rfl) ?_
  refine AOps.step rfl rfl rfl (AOp.call rfl (.cons (ArgOk.rfl' rfl) (.cons (ArgOk.rfl' rfl) .nil)) (c_btw a b (catOk ka).lim (catOk kb).lim)) ?_
  refine AOps.store rfl rfl rfl sz_28 rfl (.head _) rfl rfl rfl (Nat.le_of_ble_eq_true rfl) ?_
  refine AOps.aD rfl rfl rfl rfl rfl (.nil ?_)
  refine AWP.ret ?_
  refine ⟨RetR.agg rfl (.head _) ag_28 rfl (.cons (by first | exact CellD.nil | exact CellD.d | exact CellD.eq (by simp) | (refine CellD.own (by first | exact .head _ | exact .tail _ (.head _)) ?_; rfl)) (.cons (by first | exact CellD.nil | exact CellD.d | exact CellD.eq (by simp) | (refine CellD.own (by first | exact .head _ | exact .tail _ (.head _)) ?_; rfl)) (.cons (by first | exact CellD.nil | exact CellD.d | exact CellD.eq (by simp) | (refine CellD.own (by first | exact .head _ | exact .tail _ (.head _)) ?_; rfl)) (.cons (by first | exact CellD.nil | exact CellD.d | exact CellD.eq (by simp) | (refine CellD.own (by first | exact .head _ | exact .tail _ (.head _)) ?_; rfl)) .nil)))), RetD.eq rfl ?_, trivial⟩
  all_goals (rfl)

set_option maxRecDepth 100000 in
set_option maxHeartbeats 1000000 in
theorem lawDiff (a b : Ctl) (ha : CtlOk a) (hb : CtlOk b) : ACallT Tryz.prog MaxT 4 [.agg a.ds, .agg b.ds] (.v (.bool true)) := by
  refine acall_ofT (n := 52) (ds' := [.v (.bool true)]) Tryz.func4 rfl (by kernel_rfl) rfl [4] rfl rfl ?_
  intro B w0 F0 hT
  have HS := differ_same a b
  refine AWP.seq (AWP.region ?_)
  refine AOps.step rfl rfl rfl (AOp.box rfl rfl rfl) ?_
  refine AOps.step rfl rfl rfl (AOp.box rfl rfl rfl) ?_
  refine AOps.aD rfl rfl rfl rfl rfl (.nil ?_)
  refine AWP.seq (AWP.region ?_)
  refine AOps.step rfl rfl rfl (AOp.loadAgg rfl ag_25 rfl rfl) ?_
  refine AOps.step rfl rfl rfl (AOp.loadAgg rfl ag_25 rfl rfl) ?_
  -- wants the world
  refine AOps.callT rfl rfl rfl hT maxT_stays rfl (.cons (ArgOk.rfl' rfl) (.cons (ArgOk.rfl' rfl) .nil)) (c_pDiff a b ha hb) ?_
  refine AOps.mD rfl rfl rfl rfl rfl ?_
  refine AOps.step rfl rfl rfl (AOp.extract rfl rfl rfl) ?_
  refine AOps.step rfl rfl rfl (AOp.extract rfl rfl rfl) ?_
  refine AOps.alloc 101 rfl rfl rfl rfl zt_28 rfl rfl rfl ?_
  refine AOps.store rfl rfl rfl sz_28 rfl (.head _) rfl rfl rfl (Nat.le_of_ble_eq_true rfl) ?_
  refine AOps.freezeCells 5 (ds := (differV a b).1.ds) rfl (.head _) ?_
  refine AOps.aD rfl rfl rfl rfl rfl (.nil ?_)
  refine AWP.seq (AWP.region ?_)
  refine AOps.step rfl rfl rfl (AOp.loadAgg rfl ag_25 rfl rfl) ?_
  refine AOps.step rfl rfl rfl (AOp.loadAgg rfl ag_25 rfl rfl) ?_
  -- wants the world
  refine AOps.callT rfl rfl rfl hT maxT_stays rfl (.cons (ArgOk.rfl' rfl) (.cons (ArgOk.rfl' rfl) .nil)) (c_rDiff a b ha hb) ?_
  refine AOps.mD rfl rfl rfl rfl rfl ?_
  refine AOps.step rfl rfl rfl (AOp.extract rfl rfl rfl) ?_
  refine AOps.step rfl rfl rfl (AOp.extract rfl rfl rfl) ?_
  refine AOps.alloc 102 rfl rfl rfl rfl zt_28 rfl rfl rfl ?_
  refine AOps.store rfl rfl rfl sz_28 rfl (.head _) rfl rfl rfl (Nat.le_of_ble_eq_true rfl) ?_
  refine AOps.freezeCells 7 (ds := (differR a b).1.ds) rfl (.head _) ?_
  refine AOps.aD rfl rfl rfl rfl rfl (.nil ?_)
  refine AWP.seq ?_
  refine AWP.seq (AWP.region ?_)
  refine AOps.mD rfl rfl rfl rfl rfl ?_
  refine AOps.mD rfl rfl rfl rfl rfl ?_
  refine AOps.step rfl rfl rfl (AOp.neq rfl rfl rfl) ?_
  refine AOps.mD rfl rfl rfl rfl rfl ?_
  refine AOps.split 26 rfl (fun g1 => ?_) (fun g1 => ?_)
  · replace g1 := of_decide_eq_true g1
    exact absurd (by rw [HS]) g1
  replace g1 := of_decide_eq_false g1
  refine AOps.step ⟨26, rfl, .inl ⟨_, rfl, rfl⟩⟩ rfl rfl (AOp.loadAgg rfl ag_28 rfl rfl) ?_
  refine AOps.step ⟨26, rfl, .inl ⟨_, rfl, rfl⟩⟩ rfl rfl (AOp.loadAgg rfl ag_28 rfl rfl) ?_
  refine AOps.step ⟨26, rfl, .inl ⟨_, rfl, rfl⟩⟩ rfl rfl (AOp.call rfl (.cons (ArgOk.rfl' rfl) (.cons (ArgOk.rfl' rfl) .nil)) (c_sameX _ _)) ?_
  refine AOps.step ⟨26, rfl, .inl ⟨_, rfl, rfl⟩⟩ rfl rfl (AOp.not rfl rfl) ?_
  refine AOps.step rfl rfl rfl (AOp.pickF rfl rfl rfl) ?_
  refine AOps.mD rfl rfl rfl rfl rfl ?_
  refine AOps.split 32 rfl (fun g2 => ?_) (fun g2 => ?_)
  · replace g2 := bnot_t g2; replace g2 := of_decide_eq_false g2
    exact absurd (by rw [HS]) g2
  replace g2 := bnot_f g2; replace g2 := of_decide_eq_true g2
  refine AOps.step ⟨32, rfl, .inl ⟨_, rfl, rfl⟩⟩ rfl rfl (AOp.call rfl .nil c_awake) ?_
  refine AOps.step ⟨32, rfl, .inl ⟨_, rfl, rfl⟩⟩ rfl rfl (AOp.not rfl rfl) ?_
  refine AOps.step rfl rfl rfl (AOp.pickF rfl rfl rfl) (.nil ?_)
  refine AWP.cond rfl (fun h => nomatch h) (fun _ => ?_)
  refine AWP.skip ?_
  refine AWP.seq ?_
  refine AWP.seq (AWP.region ?_)
  refine AOps.mD rfl rfl rfl rfl rfl ?_
  refine AOps.step rfl rfl rfl (AOp.neq rfl rfl rfl) (.nil ?_)
  refine AWP.cond rfl (fun h3 => ?_) (fun h3 => ?_)
  · replace h3 := of_decide_eq_true h3
    refine AWP.seq (AWP.region ?_)
    refine AOps.aD rfl rfl rfl rfl rfl (.nil ?_)
    refine AWP.ret ?_
    refine ⟨RetD.eq rfl ?_, trivial⟩
    all_goals (first | rfl | (rw [w3]; simp) | simp)
  replace h3 := of_decide_eq_false h3
  obtain ⟨w1, w2, w3⟩ := differ_leads (a := a) (b := b) (by first | exact h3 | omega)
  have hX : XIn (differV a b).1 := by rw [diff_0 w1 w2]; exact ⟨chgO_ok (fromE_nk _ _ _) (fromE_nk _ _ _) (VOk.from (cIn hb w2).vT (mem_two2 (cIn ha w1).vT.mem_keys (cIn hb w2).vT.mem_keys)) (VOk.from (cIn hb w2).vM (mem_two2 (cIn ha w1).vM.mem_keys (cIn hb w2).vM.mem_keys)), chgO_parts (fromE_nk _ _ _) (VOk.from (cIn hb w2).vT (mem_two2 (cIn ha w1).vT.mem_keys (cIn hb w2).vT.mem_keys))⟩
  refine AWP.skip ?_
  refine AWP.seq (AWP.region ?_)
  refine AOps.step rfl rfl rfl (AOp.loadAgg rfl ag_25 rfl rfl) ?_
  refine AOps.step rfl rfl rfl (AOp.loadAgg rfl ag_28 rfl rfl) ?_
  -- wants the world
  refine AOps.callT rfl rfl rfl hT maxT_stays rfl (.cons (ArgOk.rfl' rfl) (.cons (ArgOk.rfl' rfl) .nil)) (c_pApply a (differV a b).1 ha hX) ?_
  refine AOps.mD rfl rfl rfl rfl rfl ?_
  refine AOps.step rfl rfl rfl (AOp.extract rfl rfl rfl) ?_
  refine AOps.step rfl rfl rfl (AOp.extract rfl rfl rfl) ?_
  refine AOps.step rfl rfl rfl (AOp.extract rfl rfl rfl) ?_
  refine AOps.alloc 103 rfl rfl rfl rfl zt_25 rfl rfl rfl ?_
  refine AOps.alloc 104 rfl rfl rfl rfl zt_28 rfl rfl rfl ?_
  refine AOps.store rfl rfl rfl sz_25 rfl (.tail _ (.head _)) rfl rfl rfl (Nat.le_of_ble_eq_true rfl) ?_
  refine AOps.freezeCells 9 (ds := (applyV a (differV a b).1).1.ds) rfl (.tail _ (.head _)) ?_
  refine AOps.store rfl rfl rfl sz_28 rfl (.head _) rfl rfl rfl (Nat.le_of_ble_eq_true rfl) ?_
  refine AOps.freezeCells 10 (ds := (applyV a (differV a b).1).2.1.ds) rfl (.head _) ?_
  refine AOps.aD rfl rfl rfl rfl rfl (.nil ?_)
  refine AWP.seq (AWP.region ?_)
  refine AOps.mD rfl rfl rfl rfl rfl ?_
  refine AOps.step rfl rfl rfl (AOp.eql rfl rfl rfl) ?_
  refine AOps.mD rfl rfl rfl rfl rfl ?_
  refine AOps.split 47 rfl (fun g4 => ?_) (fun g4 => ?_)
  · replace g4 := of_decide_eq_true g4
    refine AOps.step ⟨47, rfl, .inl ⟨_, rfl, rfl⟩⟩ rfl rfl (AOp.loadAgg rfl ag_25 rfl rfl) ?_
    refine AOps.step ⟨47, rfl, .inl ⟨_, rfl, rfl⟩⟩ rfl rfl (AOp.loadAgg rfl ag_25 rfl rfl) ?_
    refine AOps.step ⟨47, rfl, .inl ⟨_, rfl, rfl⟩⟩ rfl rfl (AOp.call rfl (.cons (ArgOk.rfl' rfl) (.cons (ArgOk.rfl' rfl) .nil)) (c_sameC _ _)) ?_
    refine AOps.step rfl rfl rfl (AOp.pickT rfl rfl rfl) ?_
    refine AOps.aD rfl rfl rfl rfl rfl (.nil ?_)
    refine AWP.ret ?_
    refine ⟨RetD.eq rfl ?_, trivial⟩
    all_goals (first | rfl | (rw [w3]; simp) | simp)
  replace g4 := of_decide_eq_false g4
  exact absurd (show (applyV a (differV a b).1).2.2 = 0 by rw [w3]) g4

end Go.Proofs.YtcilhhkmgebkeaaGreatDoor
