/- Walks and laws over abstract values, merged by tools/merge.py. No statement of the seat. -/
import Derived.Test.YtieccphckobhjaaDoorXJ5

namespace Go.Proofs.YtieccphckobhjaaDoor
open Go.RowKit
set_option linter.unusedVariables false

/-! Types. -/
namespace TyQA0
theorem ag_69 : AggT Tryd.prog 69 2 := .of (by kernel_rfl)
theorem ag_73 : AggT Tryd.prog 73 5 := .of (by kernel_rfl)
theorem ag_77 : AggT Tryd.prog 77 7 := .of (by kernel_rfl)
theorem et_22 : ElemTy Tryd.prog 22 69 2 24 (.agg #[(.string ⟨#[]⟩), (.int .i64 0)]) := ⟨by kernel_rfl, by kernel_rfl, by kernel_rfl, by decide⟩
theorem et_23 : ElemTy Tryd.prog 23 73 5 64 (.agg #[(.string ⟨#[]⟩), (.string ⟨#[]⟩), (.string ⟨#[]⟩), (.int .i64 0), (.int .i64 0)]) := ⟨by kernel_rfl, by kernel_rfl, by kernel_rfl, by decide⟩
theorem et_24 : ElemTy Tryd.prog 24 77 7 96 (.agg #[(.string ⟨#[]⟩), (.string ⟨#[]⟩), (.string ⟨#[]⟩), (.int .i64 0), (.int .i64 0), (.int .i64 0), (.slice none 0 0)]) := ⟨by kernel_rfl, by kernel_rfl, by kernel_rfl, by decide⟩
theorem et_75 : ElemTy Tryd.prog 75 3 1 8 (.int .i64 0) := ⟨by kernel_rfl, by kernel_rfl, by kernel_rfl, by decide⟩
theorem fo_26_0 : fieldOff Tryd.prog 26 0 = some 0 := by kernel_rfl
theorem fo_26_1 : fieldOff Tryd.prog 26 1 = some 1 := by kernel_rfl
theorem fo_26_2 : fieldOff Tryd.prog 26 2 = some 2 := by kernel_rfl
theorem fo_77_0 : fieldOff Tryd.prog 77 0 = some 0 := by kernel_rfl
theorem fo_77_1 : fieldOff Tryd.prog 77 1 = some 1 := by kernel_rfl
theorem fo_77_2 : fieldOff Tryd.prog 77 2 = some 2 := by kernel_rfl
theorem fo_77_3 : fieldOff Tryd.prog 77 3 = some 3 := by kernel_rfl
theorem fo_77_4 : fieldOff Tryd.prog 77 4 = some 4 := by kernel_rfl
theorem fo_77_5 : fieldOff Tryd.prog 77 5 = some 5 := by kernel_rfl
theorem fo_77_6 : fieldOff Tryd.prog 77 6 = some 6 := by kernel_rfl
theorem sc_22 : Scal Tryd.prog 22 := .of (by kernel_rfl)
theorem sc_23 : Scal Tryd.prog 23 := .of (by kernel_rfl)
theorem sc_24 : Scal Tryd.prog 24 := .of (by kernel_rfl)
theorem sc_3 : Scal Tryd.prog 3 := .of (by kernel_rfl)
theorem sc_75 : Scal Tryd.prog 75 := .of (by kernel_rfl)
theorem sc_9 : Scal Tryd.prog 9 := .of (by kernel_rfl)
end TyQA0
open TyQA0


end Go.Proofs.YtieccphckobhjaaDoor


namespace Go.Proofs.YtieccphckobhjaaDoor
open Go.RowKit
set_option linter.unusedVariables false

def Env.puts (e : Env) : List (Nat × S) → Env
  | [] => e
  | p :: l => Env.puts (e.put (some p.1) p.2) l
theorem puts_other {t : Nat} : ∀ {l : List (Nat × S)} {e : Env}, t ∉ l.map Prod.fst → Env.puts e l t = e t
  | [], _, _ => rfl
  | p :: l, e, h => by
    simp only [List.map_cons, List.mem_cons, not_or] at h
    unfold Env.puts
    rw [puts_other h.2, Env.put_other _ _ _ _ h.1]
theorem puts_put {dst : Option Nat} {s : S} : ∀ {l : List (Nat × S)} {e : Env}, (∀ d, dst = some d → d ∉ l.map Prod.fst) → Env.puts (e.put dst s) l = (Env.puts e l).put dst s
  | [], _, _ => rfl
  | p :: l, e, h => by
    unfold Env.puts
    rw [Env.put_comm e dst (some p.1) s p.2 (fun d hd he => h d hd (by rw [← Option.some.inj he]; simp)), puts_put fun d hd hm => h d hd (by simp only [List.map_cons, List.mem_cons]; exact .inr hm)]
/-- An object that the region makes, and the slots that may hold it. -/
structure Fc where
  id : Nat
  slots : List Nat
def Clean (Φ : List Fc) (e : Env) : Prop := ∀ f ∈ Φ, ∀ t, f.slots.contains t = false → (e t).kill f.id = e t
def QE (e1 : Env) (σ1 : Obs) : Post := fun ex e σ => match ex with | .normal => e = e1 ∧ σ = σ1 | _ => False
/-- An operation that makes or turns objects: the slots that it sets, the objects behind it. -/
def GE (cx : Cx) (ops : Array Oper) (Φ : List Fc) (o : Oper) (e : Env) (σ : Obs) (si : List (Nat × S)) (σ' : Obs) : Prop :=
  ∀ e0 : Env, (∀ t, t ∈ o.looksAt ops → e0 t = e t) → (∀ t, t ∈ si.map Prod.fst → e0 t = e t) → Clean Φ e0 → AOps cx ops [o] e0 σ (QE (Env.puts e0 si) σ')
def LStep (cx : Cx) (ops : Array Oper) (Φ : List Fc) (ef : Nat → Bool) (K : Nat → List Nat) (I : Obs → Prop) (k : Nat) (o : Oper) (e : Env) (σ : Obs) (e' : Env) (σ' : Obs) : Prop :=
  (GW ops o e true ∧ ef k = false ∧ ∃ s, I σ ∧ (∀ τ, I τ → AOp cx.P cx.B ops o e τ s) ∧ (∀ f ∈ Φ, (∃ t, o.dst = some t ∧ f.slots.contains t = true) ∨ s.kill f.id = s) ∧ e' = e.put o.dst s ∧ σ' = σ) ∨
  (GW ops o e false ∧ ef k = false ∧ e' = e.put o.dst (.d (.v undef)) ∧ σ' = σ) ∨
  (GW ops o e true ∧ ef k = true ∧ I σ ∧ I σ' ∧ ∃ si, si.map Prod.fst = K k ∧ GE cx ops Φ o e σ si σ' ∧ (∀ p ∈ si, ∀ f ∈ Φ, f.slots.contains p.1 = true ∨ p.2.kill f.id = p.2) ∧ e' = Env.puts e si)
def LRun (cx : Cx) (ops : Array Oper) (Φ : List Fc) (ef : Nat → Bool) (K : Nat → List Nat) (I : Obs → Prop) : Nat → List Oper → Env → Obs → (Env → Obs → Prop) → Prop
  | _, [], e, σ, Q => Q e σ
  | k, o :: l, e, σ, Q => DstOk cx.N o ∧ ∃ e' σ', LStep cx ops Φ ef K I k o e σ e' σ' ∧ LRun cx ops Φ ef K I (k + 1) l e' σ' Q
def anyL (cx : Cx) (ops : Array Oper) (Φ : List Fc) (ef : Nat → Bool) (K : Nat → List Nat) (I : Obs → Prop) (Q : Env → Obs → Prop) : Nat → Array Bool → Env → Obs → Prop
  | 0, listed, e, σ => Region.ready .any ops listed = [] ∧ Q e σ
  | fuel + 1, listed, e, σ => (Region.ready .any ops listed = [] → Q e σ) ∧
      ∀ i ∈ Region.ready .any ops listed, ∀ o, ops[i]? = some o → ∃ e' σ', LStep cx ops Φ ef K I i o e σ e' σ' ∧ anyL cx ops Φ ef K I Q fuel (listed.setIfInBounds i true) e' σ'
/-- The slots of one are none of the other's. -/
def keysOkB (ops : Array Oper) (K : Nat → List Nat) (i j : Nat) (oi oj : Oper) : Bool :=
  ((K i).all fun k => !((oj.looksAt ops).contains k) && neDst oj k) && ((K j).all fun k => !((oi.looksAt ops).contains k) && neDst oi k) && (!(K i).any fun k => (K j).contains k)
theorem keysOk_l {ops : Array Oper} {K : Nat → List Nat} {i j : Nat} {oi oj : Oper} (h : keysOkB ops K i j oi oj = true) : ∀ k ∈ K i, k ∉ oj.looksAt ops ∧ oj.dst ≠ some k := fun k hk => by
  unfold keysOkB at h
  simp only [Bool.and_eq_true] at h
  have h1 := List.all_eq_true.1 h.1.1 k hk
  simp only [Bool.and_eq_true, Bool.not_eq_true', List.contains_eq_mem, decide_eq_false_iff_not] at h1
  exact ⟨h1.1, neDst_spec h1.2⟩
theorem keysOk_r {ops : Array Oper} {K : Nat → List Nat} {i j : Nat} {oi oj : Oper} (h : keysOkB ops K i j oi oj = true) : ∀ k ∈ K j, k ∉ oi.looksAt ops ∧ oi.dst ≠ some k := fun k hk => by
  unfold keysOkB at h
  simp only [Bool.and_eq_true] at h
  have h1 := List.all_eq_true.1 h.1.2 k hk
  simp only [Bool.and_eq_true, Bool.not_eq_true', List.contains_eq_mem, decide_eq_false_iff_not] at h1
  exact ⟨h1.1, neDst_spec h1.2⟩
theorem GE.same {cx : Cx} {ops : Array Oper} {Φ : List Fc} {o : Oper} {e e' : Env} {σ σ' : Obs} {si : List (Nat × S)} (h : GE cx ops Φ o e σ si σ') (h1 : ∀ t, t ∈ o.looksAt ops → e' t = e t) (h2 : ∀ t, t ∈ si.map Prod.fst → e' t = e t) : GE cx ops Φ o e' σ si σ' :=
  fun e0 k1 k2 k3 => h e0 (fun t ht => (k1 t ht).trans (h1 t ht)) (fun t ht => (k2 t ht).trans (h2 t ht)) k3
theorem anyL_first {cx : Cx} {ops : Array Oper} {Φ : List Fc} {ef : Nat → Bool} {K : Nat → List Nat} {I : Obs → Prop} (hK : ∀ k, ef k = false → K k = []) {Q : Env → Obs → Prop} {i : Nat} {oi : Oper} (hi : ops[i]? = some oi) (late : Nat → Bool)
    (hclos : ∀ j oj, ops[j]? = some oj → late j = true → ∃ e ∈ oj.after, Region.binds .any e = true ∧ (e.on = i ∨ late e.on = true)) :
    ∀ (fuel : Nat) (listed : Array Bool) (e : Env) (σ : Obs) (e1 : Env) (σ1 : Obs), (∀ j, late j = true → listed.getD j false = false) →
      (∀ j oj, ops[j]? = some oj → j ≠ i → listed.getD j true = false → (∀ e ∈ oj.after, Region.binds .any e = true → e.on ≠ i) → oi.apart ops oj = true ∧ (late j = false → (ef i = false ∨ ef j = false) ∧ keysOkB ops K i j oi oj = true)) →
      i ∈ Region.ready .any ops listed → LStep cx ops Φ ef K I i oi e σ e1 σ1 → anyL cx ops Φ ef K I Q fuel (listed.setIfInBounds i true) e1 σ1 → anyL cx ops Φ ef K I Q (fuel + 1) listed e σ := by
  intro fuel
  induction fuel with
  | zero =>
    intro listed e σ e1 σ1 _ _ hr hy H
    refine ⟨fun h => (by rw [h] at hr; cases hr), fun j hj o ho => ?_⟩
    by_cases hji : j = i
    · subst hji
      rw [hi] at ho; cases ho
      exact ⟨e1, σ1, hy, H⟩
    · have := ready_mono hj hji
      rw [H.1] at this
      cases this
  | succ fuel ih =>
    intro listed e σ e1 σ1 hlate hfree hr hy H
    refine ⟨fun h => (by rw [h] at hr; cases hr), fun j hj oj hoj => ?_⟩
    by_cases hji : j = i
    · subst hji
      rw [hi] at hoj; cases hoj
      exact ⟨e1, σ1, hy, H⟩
    · obtain ⟨e2, σ2, h1, h2⟩ := H.2 j (ready_mono hj hji) oj hoj
      obtain ⟨hjun, oj', hoj', hall⟩ := mem_ready.1 hj
      rw [hoj] at hoj'; cases hoj'
      have hnot : ∀ e ∈ oj.after, Region.binds .any e = true → e.on ≠ i := fun e he hb heq => by
        have h1 := hall e he hb
        have h0 := (mem_ready.1 hr).1
        rw [heq] at h1
        rcases Nat.lt_or_ge i listed.size with h' | h'
        · simp [h'] at h0 h1; rw [h0] at h1; cases h1
        · simp [Array.getElem?_eq_none h'] at h1
      have hjl : late j = false := by
        cases hl : late j with
        | false => rfl
        | true =>
          obtain ⟨e, he, hb, hh⟩ := hclos j oj hoj hl
          rcases hh with hh | hh
          · exact absurd hh (hnot e he hb)
          · have h3 := hall e he hb
            rw [hlate _ hh] at h3
            simp at h3
      obtain ⟨hap, hss⟩ := hfree j oj hoj hji hjun hnot
      obtain ⟨hs1, hs2⟩ := hss hjl
      obtain ⟨a1, a2, a3⟩ := Oper.apart_spec hap
      have kl := keysOk_l hs2
      have kr := keysOk_r hs2
      have fin : ∀ ej σj, LStep cx ops Φ ef K I j oj e σ ej σj → LStep cx ops Φ ef K I i oi ej σj e2 σ2 → ∃ e' σ', LStep cx ops Φ ef K I j oj e σ e' σ' ∧ anyL cx ops Φ ef K I Q (fuel + 1) (listed.setIfInBounds j true) e' σ' := fun ej σj hsj hsi => by
        refine ⟨ej, σj, hsj, ?_⟩
        refine ih (listed.setIfInBounds j true) ej σj e2 σ2 (fun k hk => ?_) (fun k ok hk hki hun hno => ?_) (ready_mono hr (Ne.symm hji)) hsi ?_
        · have hkj : j ≠ k := fun h => by rw [h, hk] at hjl; simp at hjl
          rw [getD_set_ne false hkj]
          exact hlate k hk
        · refine hfree k ok hk hki ?_ hno
          by_cases hjk : j = k
          · subst hjk; exact hjun
          · rw [getD_set_ne true hjk] at hun; exact hun
        · rw [Array.setIfInBounds_comm _ _ hji]
          exact h2
      have look1 : ∀ {s : S} t, t ∈ oj.looksAt ops → (e.put oi.dst s) t = e t := fun t ht => put_looks a1 t ht
      have look2 : ∀ {s : S} t, t ∈ oi.looksAt ops → (e.put oj.dst s) t = e t := fun t ht => put_looks a3 t ht
      rcases hy with ⟨hgi, hei, s, hI, hopi, hcl, rfl, rfl⟩ | ⟨hgi, hei, rfl, rfl⟩ | ⟨hgi, hei, hi1, hi2, si, hki, hopi, hci, rfl⟩
      · rcases h1 with ⟨hgj, hej, sj, hIj, hopj, hclj, rfl, rfl⟩ | ⟨hgj, hej, rfl, rfl⟩ | ⟨hgj, hej, hj1, hj2, sj, hkj, hopj, hcj, rfl⟩
        · exact fin (e.put oj.dst sj) _ (.inl ⟨hgj.same fun t ht => (look1 t ht).symm, hej, sj, hIj, fun τ hτ => (hopj τ hτ).same fun t ht => (look1 t ht).symm, hclj, rfl, rfl⟩) (.inl ⟨hgi.same (fun t ht => look2 t ht), hei, s, hI, fun τ hτ => (hopi τ hτ).same (fun t ht => look2 t ht), hcl, (Env.put_comm e oi.dst oj.dst s sj a2), rfl⟩)
        · exact fin (e.put oj.dst (.d (.v undef))) _ (.inr (.inl ⟨hgj.same fun t ht => (look1 t ht).symm, hej, rfl, rfl⟩)) (.inl ⟨hgi.same (fun t ht => look2 t ht), hei, s, hI, fun τ hτ => (hopi τ hτ).same (fun t ht => look2 t ht), hcl, (Env.put_comm e oi.dst oj.dst s _ a2), rfl⟩)
        · have hkd : ∀ d, oi.dst = some d → d ∉ sj.map Prod.fst := fun d hd hm => by rw [hkj] at hm; exact (kr d hm).2 hd
          have hkl : ∀ t, t ∈ oi.looksAt ops → Env.puts e sj t = e t := fun t ht => puts_other fun hm => by rw [hkj] at hm; exact (kr t hm).1 ht
          refine fin (Env.puts e sj) σ2 (.inr (.inr ⟨hgj.same fun t ht => (look1 t ht).symm, hej, hj1, hj2, sj, hkj, hopj.same (fun t ht => (look1 t ht).symm) (fun t ht => ?_), hcj, rfl⟩)) (.inl ⟨hgi.same hkl, hei, s, hj2, fun τ hτ => (hopi τ hτ).same hkl, hcl, puts_put hkd, rfl⟩)
          cases hd : oi.dst with
          | none => rfl
          | some d => exact (Env.put_other _ _ _ _ (fun (he : t = d) => hkd d hd (he ▸ ht))).symm
      · rcases h1 with ⟨hgj, hej, sj, hIj, hopj, hclj, rfl, rfl⟩ | ⟨hgj, hej, rfl, rfl⟩ | ⟨hgj, hej, hj1, hj2, sj, hkj, hopj, hcj, rfl⟩
        · exact fin (e.put oj.dst sj) _ (.inl ⟨hgj.same fun t ht => (look1 t ht).symm, hej, sj, hIj, fun τ hτ => (hopj τ hτ).same fun t ht => (look1 t ht).symm, hclj, rfl, rfl⟩) (.inr (.inl ⟨hgi.same (fun t ht => look2 t ht), hei, (Env.put_comm e oi.dst oj.dst _ sj a2), rfl⟩))
        · exact fin (e.put oj.dst (.d (.v undef))) _ (.inr (.inl ⟨hgj.same fun t ht => (look1 t ht).symm, hej, rfl, rfl⟩)) (.inr (.inl ⟨hgi.same (fun t ht => look2 t ht), hei, (Env.put_comm e oi.dst oj.dst _ _ a2), rfl⟩))
        · have hkd : ∀ d, oi.dst = some d → d ∉ sj.map Prod.fst := fun d hd hm => by rw [hkj] at hm; exact (kr d hm).2 hd
          have hkl : ∀ t, t ∈ oi.looksAt ops → Env.puts e sj t = e t := fun t ht => puts_other fun hm => by rw [hkj] at hm; exact (kr t hm).1 ht
          refine fin (Env.puts e sj) σ2 (.inr (.inr ⟨hgj.same fun t ht => (look1 t ht).symm, hej, hj1, hj2, sj, hkj, hopj.same (fun t ht => (look1 t ht).symm) (fun t ht => ?_), hcj, rfl⟩)) (.inr (.inl ⟨hgi.same hkl, hei, puts_put hkd, rfl⟩))
          cases hd : oi.dst with
          | none => rfl
          | some d => exact (Env.put_other _ _ _ _ (fun (he : t = d) => hkd d hd (he ▸ ht))).symm
      · have hkd : ∀ d, oj.dst = some d → d ∉ si.map Prod.fst := fun d hd hm => by rw [hki] at hm; exact (kl d hm).2 hd
        have hkl : ∀ t, t ∈ oj.looksAt ops → Env.puts e si t = e t := fun t ht => puts_other fun hm => by rw [hki] at hm; exact (kl t hm).1 ht
        have hke : ∀ {s : S} t, t ∈ si.map Prod.fst → (e.put oj.dst s) t = e t := fun {s} t ht => by
          cases hd : oj.dst with
          | none => rfl
          | some d => exact Env.put_other _ _ _ _ (fun he => hkd d hd (he ▸ ht))
        rcases h1 with ⟨hgj, hej, sj, hIj, hopj, hclj, rfl, rfl⟩ | ⟨hgj, hej, rfl, rfl⟩ | ⟨hgj, hej, hj1, hj2, sj, hkj, hopj, hcj, rfl⟩
        · exact fin (e.put oj.dst sj) σ (.inl ⟨hgj.same fun t ht => (hkl t ht).symm, hej, sj, hi1, fun τ hτ => (hopj τ hτ).same fun t ht => (hkl t ht).symm, hclj, rfl, rfl⟩) (.inr (.inr ⟨hgi.same (fun t ht => look2 t ht), hei, hi1, hi2, si, hki, hopi.same (fun t ht => look2 t ht) (fun t ht => hke t ht), hci, (puts_put hkd).symm⟩))
        · exact fin (e.put oj.dst (.d (.v undef))) σ (.inr (.inl ⟨hgj.same fun t ht => (hkl t ht).symm, hej, rfl, rfl⟩)) (.inr (.inr ⟨hgi.same (fun t ht => look2 t ht), hei, hi1, hi2, si, hki, hopi.same (fun t ht => look2 t ht) (fun t ht => hke t ht), hci, (puts_put hkd).symm⟩))
        · rcases hs1 with h | h
          · rw [hei] at h; simp at h
          · rw [hej] at h; simp at h
/-- The check: whoever is free to change places has nothing to do with the other. -/
def Region.keysFree (ops : Array Oper) (ef : Nat → Bool) (K : Nat → List Nat) (listed : Array Bool) (k : Nat) (late : Nat → Bool) : Bool :=
  (List.range ops.size).all fun j =>
    (!(late j) || (!(listed.getD j false) && ((ops[j]?).map fun o => o.after.any fun e => Region.binds .any e && (Nat.beq e.on k || late e.on)).getD true)) &&
    (Nat.beq j k || listed.getD j true || late j || Region.edge ops j k || ((!(ef k) || !(ef j)) && ((ops[k]?).bind fun oi => (ops[j]?).map fun oj => keysOkB ops K k j oi oj).getD false))
def Region.keysFrom (ops : Array Oper) (ef : Nat → Bool) (K : Nat → List Nat) : Nat → Nat → Array Bool → Bool
  | 0, _, _ => true
  | fuel + 1, k, listed => Region.keysFree ops ef K listed k (Region.lateB ops k) && Region.keysFrom ops ef K fuel (k + 1) (listed.setIfInBounds k true)
theorem Region.keysFree_spec {ops : Array Oper} {ef : Nat → Bool} {K : Nat → List Nat} {listed : Array Bool} {k : Nat} {oi : Oper} {late : Nat → Bool} (h : Region.keysFree ops ef K listed k late = true) (hk : ops[k]? = some oi) (hl : ∀ j, late j = true → j < ops.size) :
    (∀ j oj, ops[j]? = some oj → late j = true → ∃ e ∈ oj.after, Region.binds .any e = true ∧ (e.on = k ∨ late e.on = true)) ∧ (∀ j, late j = true → listed.getD j false = false) ∧
    ∀ j oj, ops[j]? = some oj → j ≠ k → listed.getD j true = false → (∀ e ∈ oj.after, Region.binds .any e = true → e.on ≠ k) → late j = false → (ef k = false ∨ ef j = false) ∧ keysOkB ops K k j oi oj = true := by
  have h1 : ∀ j, j < ops.size → _ := fun j hj => List.all_eq_true.1 h j (List.mem_range.2 hj)
  simp only [Bool.and_eq_true] at h1
  refine ⟨fun j oj hoj hlj => ?_, fun j hlj => ?_, fun j oj hoj hjk hun hno hlj => ?_⟩
  · have h2 := (h1 j (Array.getElem?_eq_some_iff.1 hoj).1).1
    rw [hlj, hoj] at h2
    simp only [Bool.not_true, Bool.false_or, Option.map_some, Option.getD_some, Bool.and_eq_true, Array.any_eq_true'] at h2
    obtain ⟨_, e, he, hb⟩ := h2
    simp only [Bool.or_eq_true] at hb
    exact ⟨e, he, hb.1, hb.2.imp Nat.eq_of_beq_eq_true (fun x => x)⟩
  · have h2 := (h1 j (hl j hlj)).1
    rw [hlj] at h2
    simp only [Bool.not_true, Bool.false_or, Bool.and_eq_true, Bool.not_eq_true'] at h2
    exact h2.1
  · have h2 := (h1 j (Array.getElem?_eq_some_iff.1 hoj).1).2
    have hb : Nat.beq j k = false := by rw [Bool.eq_false_iff]; exact fun hh => hjk (Nat.eq_of_beq_eq_true hh)
    rw [hb, hun, hlj, hk, hoj] at h2
    simp only [Bool.false_or, Bool.or_eq_true, Bool.and_eq_true, Bool.not_eq_true', Option.bind_some, Option.map_some, Option.getD_some] at h2
    rcases h2 with h2 | h2
    · obtain ⟨o, ho, e, he, hb2, heq⟩ := Region.edge_spec h2
      rw [hoj] at ho; cases ho
      exact absurd heq (hno e he hb2)
    · exact h2
theorem anyL_lex {cx : Cx} {ops : Array Oper} {Φ : List Fc} {ef : Nat → Bool} {K : Nat → List Nat} {I : Obs → Prop} (hK : ∀ k, ef k = false → K k = []) {Q : Env → Obs → Prop} : ∀ (l : List Oper) (k : Nat) (listed : Array Bool) (e : Env) (σ : Obs), (∀ j, l[j]? = ops[k + j]?) →
    Region.lexFrom .any ops l.length k listed = true → Region.keysFrom ops ef K l.length k listed = true → LRun cx ops Φ ef K I k l e σ Q → anyL cx ops Φ ef K I Q l.length listed e σ
  | [], _, _, _, _, _, hB, _, h => ⟨by simpa [Region.lexFrom] using hB, h⟩
  | o :: l, k, listed, e, σ, hl, hB, hS, h => by
    have h0 : ops[k]? = some o := by simpa using (hl 0).symm
    simp only [List.length_cons, Region.lexFrom, Bool.and_eq_true] at hB
    simp only [List.length_cons, Region.keysFrom, Bool.and_eq_true] at hS
    obtain ⟨⟨hr, hf⟩, hB'⟩ := hB
    have hl' : ∀ j, l[j]? = ops[k + 1 + j]? := fun j => by have := hl (j + 1); simpa [Nat.add_assoc, Nat.add_comm 1 j] using this
    obtain ⟨_, e', σ', hs, hq⟩ := h
    have hgo := anyL_lex hK l (k + 1) _ _ _ hl' hB' hS.2 hq
    obtain ⟨k1, k2, k3⟩ := Region.keysFree_spec hS.1 h0 (fun j hj => by
      unfold Region.lateB at hj
      simp only [Bool.and_eq_true, Nat.blt_eq] at hj
      exact hj.1)
    exact anyL_first hK h0 _ k1 l.length listed e σ e' σ' k2 (fun j oj hj hji hun hno => ⟨Region.free_spec h0 hf j oj hj hji hun hno, fun hl => k3 j oj hj hji hun hno hl⟩) (by simpa using hr) hs hgo
theorem LRun.dsts {cx : Cx} {ops : Array Oper} {Φ : List Fc} {ef : Nat → Bool} {K : Nat → List Nat} {I : Obs → Prop} {Q : Env → Obs → Prop} : ∀ (l : List Oper) (k : Nat) (e : Env) (σ : Obs), LRun cx ops Φ ef K I k l e σ Q → ∀ o ∈ l, DstOk cx.N o
  | [], _, _, _, _, o, ho => by cases ho
  | x :: l, k, e, σ, h, o, ho => by
    obtain ⟨h1, _, _, _, h2⟩ := h
    cases ho with
    | head => exact h1
    | tail _ ho => exact LRun.dsts l _ _ _ h2 o ho
theorem Clean.put {Φ : List Fc} {e : Env} {dst : Option Nat} {s : S} (h : Clean Φ e) (hs : ∀ f ∈ Φ, (∃ t, dst = some t ∧ f.slots.contains t = true) ∨ s.kill f.id = s) : Clean Φ (e.put dst s) := fun f hf t ht => by
  cases dst with
  | none => exact h f hf t ht
  | some d =>
    by_cases hd : t = d
    · subst hd
      rw [Env.put_same]
      rcases hs f hf with ⟨t', h1, h2⟩ | h1
      · cases h1; rw [ht] at h2; simp at h2
      · exact h1
    · rw [Env.put_other _ _ _ _ hd]; exact h f hf t ht
theorem Clean.puts {Φ : List Fc} : ∀ {l : List (Nat × S)} {e : Env}, Clean Φ e → (∀ p ∈ l, ∀ f ∈ Φ, f.slots.contains p.1 = true ∨ p.2.kill f.id = p.2) → Clean Φ (Env.puts e l)
  | [], _, h, _ => h
  | p :: l, e, h, hs => by
    unfold Env.puts
    refine Clean.puts (fun f hf t ht => ?_) fun q hq => hs q (List.mem_cons_of_mem _ hq)
    by_cases hd : t = p.1
    · subst hd
      rw [Env.put_same]
      rcases hs p (by simp) f hf with h1 | h1
      · rw [ht] at h1; simp at h1
      · exact h1
    · rw [Env.put_other _ _ _ _ hd]; exact h f hf t ht
theorem wpAny_of_L {cx : Cx} {ops : Array Oper} {Φ : List Fc} {ef : Nat → Bool} {K : Nat → List Nat} {I : Obs → Prop} {Q : Post} (hQ : ∀ ex e σ, ex ≠ .normal → ¬ Q ex e σ) (hd : ∀ o ∈ ops.toList, DstOk cx.N o) : ∀ (fuel : Nat) (listed : Array Bool) (e : Env) (σ : Obs) (a : Act) (w : World), R cx e σ a w → Clean Φ e →
    anyL cx ops Φ ef K I (fun e σ => Q .normal e σ) fuel listed e σ → wpAny cx.P .any ops (lift cx Q) fuel listed a w
  | 0, _, e, σ, _, _, hr, _, h => ⟨h.1, e, σ, h.2, hr⟩
  | fuel + 1, listed, e, σ, a, w, hr, hc, h => by
    refine ⟨fun h0 => ⟨e, σ, h.1 h0, hr⟩, fun i hi => ?_⟩
    obtain ⟨_, o, ho, _⟩ := mem_ready.1 hi
    obtain ⟨e', σ', hs, hk⟩ := h.2 i hi o ho
    have hdo : DstOk cx.N o := hd o (Array.mem_toList_iff.2 (Array.mem_of_getElem? ho))
    unfold wpOp
    simp only [ho]
    have hR := hr
    obtain ⟨F, ρ, hr⟩ := hr
    rcases hs with ⟨hg, _, s, hI, hop, hcl, rfl, rfl⟩ | ⟨hg, _, rfl, rfl⟩ | ⟨hg, _, _, _, si, _, hop, hci, rfl⟩
    · rw [if_pos (hg.wanted (fun t _ => hr.env t))]
      refine .inl (wp_to ?_ (fun _ _ _ => False.elim) (hop _ hI F ρ w a hr.lt (fun t _ => hr.env t) hr.obs))
      rintro a' w' ⟨v, F', rfl, hv, he⟩
      exact wpAny_of_L hQ hd fuel _ _ _ _ _ ⟨F', ρ, hr.put he hv hdo⟩ (hc.put hcl) hk
    · rw [if_neg (by rw [hg.wanted (fun t _ => hr.env t)]; simp)]
      exact wpAny_of_L hQ hd fuel _ _ _ _ _ ⟨F, ρ, hr.put (Ext.refl hr.lt) repS_undef hdo⟩ (hc.put fun _ _ => .inr rfl) hk
    · have hw : Region.wanted o (yielded ops a.tmps) = true := hg.wanted (fun t _ => hr.env t)
      rw [if_pos hw]
      have h4 := hop e (fun _ _ => rfl) (fun _ _ => rfl) hc a w hR
      unfold wpList at h4
      rw [if_pos hw] at h4
      refine h4.imp (wp_to2 ?_ ?_) fun h => ⟨h.1, ?_⟩
      · rintro a' w' ⟨e', σ'', ⟨rfl, rfl⟩, hr'⟩
        exact wpAny_of_L hQ hd fuel _ _ _ _ _ hr' (hc.puts hci) hk
      · rintro ex a' w' hne ⟨e', σ'', hq, _⟩
        cases ex <;> first | exact absurd rfl hne | exact hq.elim
      · obtain ⟨a', w', e', σ'', hq, _⟩ := h.2
        exact hq.elim
/-- Before the region: no slot but those told holds what it makes or turns. -/
def Env.killOut (f : Fc) (e : Env) : Env := fun t => match f.slots.contains t with | true => e t | false => (e t).kill f.id
def Env.killIds : List Fc → Env → Env
  | [], e => e
  | f :: l, e => Env.killIds l (e.killOut f)
theorem killOut_keep {f : Fc} {g : Fc} {e : Env} (h : Clean [g] e) : Clean [g] (e.killOut f) := fun g' hg t ht => by
  have h1 := h g' hg t ht
  unfold Env.killOut
  cases f.slots.contains t with
  | true => exact h1
  | false => show S.kill g'.id (S.kill f.id (e t)) = S.kill f.id (e t); rw [kill_comm, h1]
theorem killIds_keep {g : Fc} : ∀ {Φ : List Fc} {e : Env}, Clean [g] e → Clean [g] (Env.killIds Φ e)
  | [], _, h => h
  | _ :: l, _, h => killIds_keep (Φ := l) (killOut_keep h)
theorem killOut_clean (f : Fc) (e : Env) : Clean [f] (e.killOut f) := fun g hg t ht => by
  obtain rfl := List.mem_singleton.1 hg
  unfold Env.killOut
  rw [ht]
  exact S.kill_kill g.id (e t)
theorem killIds_clean : ∀ (Φ : List Fc) (e : Env), Clean Φ (Env.killIds Φ e)
  | g :: l, e, f, hf, t, ht => by
    rcases List.mem_cons.1 hf with rfl | hf
    · exact killIds_keep (Φ := l) (killOut_clean f e) f (by simp) t ht
    · exact killIds_clean l (e.killOut g) f hf t ht
theorem R.killOut {cx : Cx} {σ : Obs} {a : Act} {w : World} {e : Env} (f : Fc) : R cx e σ a w → R cx (e.killOut f) σ a w
  | ⟨F, ρ, h⟩ => by
    have henv : ∀ t, RepS F ρ w (a.tmps.getD t undef) (e.killOut f t) := fun t => by
      unfold Env.killOut
      cases f.slots.contains t with
      | true => exact h.env t
      | false => exact (h.killEnv f.id).env t
    exact ⟨F, ρ, h.size, h.defers, h.lt, h.base, h.new, h.below, h.hB, henv, h.obs, h.up, h.kown, h.fixed⟩
theorem R.killIds {cx : Cx} {σ : Obs} {a : Act} {w : World} : ∀ (Φ : List Fc) {e : Env}, R cx e σ a w → R cx (Env.killIds Φ e) σ a w
  | [], _, h => h
  | f :: l, _, h => R.killIds l (R.killOut f h)
/-- Such a region, walked once, in the order of the text. -/
theorem AWP.drawL {cx : Cx} {id : Nat} {l : List Oper} {e : Env} {σ : Obs} {Q : Post} (Φ : List Fc) (E : List (Nat × List Nat)) (I : Obs → Prop) (hm : cx.P.follows .mixedOrders = true) (hB : Region.lexB .any l.toArray = true)
    (hS : Region.keysFrom l.toArray (fun k => E.any fun p => Nat.beq p.1 k) (fun k => ((E.find? fun p => Nat.beq p.1 k).map Prod.snd).getD []) l.length 0 (Array.replicate l.length false) = true)
    (h : LRun cx l.toArray Φ (fun k => E.any fun p => Nat.beq p.1 k) (fun k => ((E.find? fun p => Nat.beq p.1 k).map Prod.snd).getD []) I 0 l (Env.killIds Φ e) σ (fun e σ => Q .normal e σ)) : AWP cx (.region id l.toArray true) e σ Q := by
  intro a w ⟨F, ρ, hr⟩
  simp only [Region.lexB, Bool.and_eq_true] at hB
  have hK : ∀ k, (E.any fun p => Nat.beq p.1 k) = false → ((E.find? fun p => Nat.beq p.1 k).map Prod.snd).getD [] = [] := fun k hk => by
    have : E.find? (fun p => Nat.beq p.1 k) = none := List.find?_eq_none.2 fun p hp hh => by
      have : (E.any fun p => Nat.beq p.1 k) = true := List.any_eq_true.2 ⟨p, hp, hh⟩
      rw [hk] at this
      simp at this
    rw [this]; rfl
  have h1 := anyL_lex hK l 0 (Array.replicate l.toArray.size false) _ σ (by simp) (by simpa using hB.2) (by simpa using hS) h
  have h2 : wpAny cx.P .any l.toArray (lift cx (QN Q)) l.toArray.size (Array.replicate l.toArray.size false) a { w with drawn := w.drawn + 1 } :=
    wpAny_of_L (Q := QN Q) (fun ex e σ hne hq => by cases ex <;> first | exact absurd rfl hne | exact hq.elim) (by simpa using LRun.dsts l 0 _ σ h) _ _ _ σ a _ (R.killIds Φ ⟨F, ρ, hr.drew⟩) (killIds_clean Φ e) h1
  refine wp_mono (wp_region_any hm h2) ?_
  rintro ex a w ⟨e, σ, h4, h5⟩
  cases ex with
  | normal => exact ⟨e, σ, h4, h5⟩
  | exit id => exact h4.elim
  | goto l => exact h4.elim
  | ret => exact h4.elim
  | panic c => exact h4.elim
  | outgrown => exact h4.elim
section
variable {cx : Cx} {ops : Array Oper} {Φ : List Fc} {ef : Nat → Bool} {K : Nat → List Nat} {I : Obs → Prop} {n : Nat} {o : Oper} {l : List Oper} {e : Env} {σ : Obs} {Q : Env → Obs → Prop}
def cleanS (t : Nat) (s : S) : List Fc → Prop
  | [] => True
  | f :: l => (f.slots.contains t = true ∨ s.kill f.id = s) ∧ cleanS t s l
theorem cleanS.all {t : Nat} {s : S} : ∀ {l : List Fc}, cleanS t s l → ∀ f ∈ l, f.slots.contains t = true ∨ s.kill f.id = s
  | [], _, f, hf => by cases hf
  | g :: l, h, f, hf => by
    cases hf with
    | head => exact h.1
    | tail _ hf => exact cleanS.all h.2 f hf
theorem LRun.nil (h : Q e σ) : LRun cx ops Φ ef K I n [] e σ Q := h
theorem LRun.step {s : S} {t : Nat} (hg : GW ops o e true) (ht : o.dst = some t) (hd : Nat.blt t cx.N = true) (hI : I σ) (h : ∀ τ, I τ → AOp cx.P cx.B ops o e τ s) (k : LRun cx ops Φ ef K I (n + 1) l (e.put (some t) s) σ Q) (he : ef n = false := by rfl) (hc : cleanS t s Φ := by first | exact ⟨.inr rfl, trivial⟩ | exact ⟨.inl rfl, trivial⟩) : LRun cx ops Φ ef K I n (o :: l) e σ Q :=
  ⟨by unfold DstOk; rw [ht]; exact hd, _, _, .inl ⟨hg, he, s, hI, h, fun f hf => (hc.all f hf).imp (fun h => ⟨t, ht, h⟩) id, rfl, rfl⟩, by rw [ht]; exact k⟩
def cleanL (Φ : List Fc) : List (Nat × S) → Prop
  | [] => True
  | p :: l => (∀ f ∈ Φ, f.slots.contains p.1 = true ∨ p.2.kill f.id = p.2) ∧ cleanL Φ l
theorem LRun.eff {si : List (Nat × S)} {σ' : Obs} (hg : GW ops o e true) (hd : DstOk cx.N o) (h1 : I σ) (h2 : I σ') (h : GE cx ops Φ o e σ si σ') (k : LRun cx ops Φ ef K I (n + 1) l (Env.puts e si) σ' Q) (hc : ∀ p ∈ si, ∀ f ∈ Φ, f.slots.contains p.1 = true ∨ p.2.kill f.id = p.2) (he : ef n = true := by rfl) (hk : si.map Prod.fst = K n := by rfl) : LRun cx ops Φ ef K I n (o :: l) e σ Q :=
  ⟨hd, _, _, .inr (.inr ⟨hg, he, h1, h2, si, hk, h, hc, rfl⟩), k⟩
end
/-- Data, stored into own cells. -/
theorem EOp.store {cx : Cx} {ops : Array Oper} {o : Oper} {e : Env} {σ : Obs} {t id off size : Nat} {x y : Operand} {d : D} {ss : List S} (ht : o.dst = none) (ho : o.op = .store t x y) (hs : ∀ w, (sizeOf t).run cx.P w = .ok size w) (hx : e.ev x = .ptr id off) (hm : (id, Ob.cells ss) ∈ σ) (hy : e.ev y = .d d) (h1 : d.one = true) (hl : d.parts.length = size)
    (hle : off + size ≤ ss.length) : EOp cx ops o e σ (Obs.upd id (.cells (ss.take off ++ d.parts.map S.d ++ ss.drop (off + size))) σ) := by
  intro F ρ a w e0 hr ha
  have hop : ∀ y ∈ o.op.operands.toList, RepS F ρ w (a.eval y) (e.ev y) := fun y hy => ev_rep fun t ht => ha t (looks_op (by rw [← ht]; exact hy))
  have r1 := hop x (by rw [ho]; simp [Op.operands])
  have r2 := hop y (by rw [ho]; simp [Op.operands])
  rw [hx] at r1
  rw [hy] at r2
  obtain ⟨h3, h4⟩ := parts_rep (repS_d r2) h1
  obtain ⟨g, ty, cs, hρ, hB, hF, hh, hcl, hcs⟩ := hr.obs.ok _ hm
  dsimp only at hρ
  have hxv := ptr_at r1 (g := g) (by rw [hρ]; rfl)
  have hsz : (a.eval y).cells.size = size := by have := h3.1; rw [Array.length_toList] at this; omega
  obtain ⟨w', h5, h6, h7⟩ := storeVar_run (P := cx.P) (off := off) hs hsz hh (by omega) h4
  unfold Oper.wp execOp
  simp only [ho, Instr.storeAt, hxv, Instr.sureAddr, Sem.run_bind, Sem.run_pure, Result.andThen_ok, h5]
  refine ⟨by rw [ht]; rfl, fun e2 hr2 => ⟨F, ρ, ?_⟩⟩
  refine hr2.write hρ hm hB hF h6 h7 (by simp; omega) (fun j hj hj' => by
    have hlen : (a.eval y).cells.toList.length = size := by rw [Array.length_toList]; exact hsz
    by_cases j1 : j < off
    · rw [List.getElem_append_left (by simp; omega), List.getElem_append_left (by simp; omega), List.getElem_append_left (by simp; omega), List.getElem_append_left (by simp; omega), List.getElem_take, List.getElem_take]
      exact hcs j (by omega) (by omega)
    · by_cases j2 : j < off + size
      · rw [List.getElem_append_left (by simp; omega), List.getElem_append_right (by simp; omega), List.getElem_append_left (by simp; omega), List.getElem_append_right (by simp; omega), List.getElem_map]
        have e1 : (List.take off cs).length = off := by simp; omega
        have e2 : (List.take off ss).length = off := by simp; omega
        simp only [e1, e2]
        exact ⟨h4 _ (List.getElem_mem _), .d (h3.2 _ _ _)⟩
      · rw [List.getElem_append_right (by simp; omega), List.getElem_append_right (by simp; omega), List.getElem_drop, List.getElem_drop]
        have e1 : (List.take off cs ++ (a.eval y).cells.toList).length = off + size := by simp; omega
        have e2 : (List.take off ss ++ d.parts.map S.d).length = off + size := by simp; omega
        simp only [e1, e2]
        exact hcs _ _ _)
end Go.Proofs.YtieccphckobhjaaDoor


namespace Go.Proofs.YtieccphckobhjaaDoor
open Go.RowKit
set_option linter.unusedVariables false

/-! Types. -/
namespace TyQ3

end TyQ3
open TyQ3


theorem cb_trans : ∀ (a b c : List UInt8), Lib.compareBytes a b < 0 → Lib.compareBytes b c < 0 → Lib.compareBytes a c < 0
  | [], [], c, h, _ => by simp [Lib.compareBytes] at h
  | [], _ :: _, [], _, h => by simp [Lib.compareBytes] at h
  | [], _ :: _, _ :: _, _, _ => by simp [Lib.compareBytes]
  | _ :: _, [], _, h, _ => by simp [Lib.compareBytes] at h
  | _ :: _, _ :: _, [], _, h => by simp [Lib.compareBytes] at h
  | x :: a, y :: b, z :: c, h1, h2 => by
    unfold Lib.compareBytes at h1 h2 ⊢
    by_cases hxz : x < z
    · rw [if_pos hxz]; decide
    · rw [if_neg hxz]
      by_cases hxy : x < y
      · by_cases hyz : y < z
        · exact absurd (UInt8.lt_trans hxy hyz) hxz
        · rw [if_neg hyz] at h2
          by_cases hzy : z < y
          · rw [if_pos hzy] at h2; simp at h2
          · have : y = z := UInt8.le_antisymm (UInt8.not_lt.1 hzy) (UInt8.not_lt.1 hyz)
            exact absurd (this ▸ hxy) hxz
      · rw [if_neg hxy] at h1
        by_cases hyx : y < x
        · rw [if_pos hyx] at h1; simp at h1
        · rw [if_neg hyx] at h1
          have e : x = y := UInt8.le_antisymm (UInt8.not_lt.1 hyx) (UInt8.not_lt.1 hxy)
          subst e
          rw [if_neg hxz] at h2
          by_cases hzx : z < x
          · rw [if_pos hzx] at h2; simp at h2
          · rw [if_neg hzx] at h2 ⊢
            exact cb_trans a b c h1 h2
theorem strCmp_trans {a b c : ByteArray} (h1 : strCmp a b < 0) (h2 : strCmp b c < 0) : strCmp a c < 0 := cb_trans _ _ _ h1 h2
theorem strCmp_self (a : ByteArray) : strCmp a a = 0 := strCmp_zero.2 rfl
theorem cpyCmp_trans {a b c : Cpy} (h1 : cpyCmp a b < 0) (h2 : cpyCmp b c < 0) : cpyCmp a c < 0 := by
  unfold cpyCmp at *
  by_cases e1 : a.item = b.item
  · rw [if_pos e1] at h1
    by_cases e2 : b.item = c.item
    · rw [if_pos e2] at h2
      rw [if_pos (e1.trans e2)]
      exact strCmp_trans h1 h2
    · rw [if_neg e2] at h2
      rw [if_neg (fun e => e2 (e1.symm.trans e)), e1]
      exact h2
  · rw [if_neg e1] at h1
    by_cases e2 : b.item = c.item
    · rw [if_pos e2] at h2
      rw [if_neg (fun e => e1 (e.trans e2.symm)), ← e2]
      exact h1
    · rw [if_neg e2] at h2
      have h3 := strCmp_trans h1 h2
      rw [if_neg (fun e => by rw [e, strCmp_self] at h3; omega)]
      exact h3
theorem VOk.lt {v : Vlt} (h : VOk v) : ∀ i j (hi : i < v.copies.length) (hj : j < v.copies.length), i < j → cpyCmp v.copies[i] v.copies[j] < 0 := by
  intro i j hi hj hij
  obtain ⟨d, rfl⟩ : ∃ d, j = i + d + 1 := ⟨j - i - 1, by omega⟩
  clear hij
  induction d with
  | zero => exact h.order i hj
  | succ d ih => exact cpyCmp_trans (ih (by omega)) (h.order (i + d + 1) hj)
theorem cpyCmp_eq {a b : Cpy} (h1 : a.item = b.item) (h2 : a.carrier = b.carrier) : cpyCmp a b = 0 := by unfold cpyCmp; rw [if_pos h1, h2]; exact strCmp_self _
/-! Who is safe. -/
def copyIdx (v : Vlt) (it ca : ByteArray) : Int := idxBy (fun x : Cpy => decide (x.item = it) && decide (x.carrier = ca)) v.copies
def isHit (v : Vlt) (p : Pol) (it : ByteArray) (f h : Hrm) : Bool := decide (h.item = it) && (decide (h.day ≥ f.day) && (decide (h.day < f.day + p.every) && decide (copyIdx v it h.carrier ≥ 0)))
def addCa (v : Vlt) (p : Pol) (it : ByteArray) (f : Hrm) (acc : List ByteArray) (h : Hrm) : List ByteArray := if isHit v p it f h = true ∧ h.carrier ∉ acc then acc ++ [h.carrier] else acc
def hitC (v : Vlt) (p : Pol) (it : ByteArray) (f : Hrm) (hs : List Hrm) : List ByteArray := hs.foldl (addCa v p it f) []
def cpSafe (p : Pol) (frm : Int) (c : Cpy) : Bool := decide (c.bad = []) && (decide (c.last < frm) && decide (frm ≤ c.last + p.every))
def nOf (v : Vlt) (it : ByteArray) : Nat := (v.copies.filter fun c => decide (c.item = it)).length
def isSafe (v : Vlt) (p : Pol) (frm : Int) (hs : List Hrm) (it : ByteArray) : Bool :=
  (v.copies.all fun c => !decide (c.item = it) || cpSafe p frm c) && ((hs.all fun f => decide ((hitC v p it f hs).length < nOf v it)) && decide (0 < nOf v it))
/-- The copies stay where they are. -/
def Same (l m : List Cpy) : Prop := l.length = m.length ∧ ∀ i (h1 : i < l.length) (h2 : i < m.length), l[i].item = m[i].item ∧ l[i].carrier = m[i].carrier
/-- What holds of the copies of a safe item, in the course of day d: at the beginning of it (lim = d - 1), and from the harms on (lim = d). -/
def Fine (p : Pol) (hs : List Hrm) (it : ByteArray) (d : Int) (c : Cpy) : Prop := c.item = it → (c.bad = [] ∨ ∃ h ∈ hs, h.item = it ∧ h.carrier = c.carrier ∧ c.last < h.day ∧ h.day ≤ d) ∧ c.last ≤ d ∧ d ≤ c.last + p.every
def Pre (p : Pol) (hs : List Hrm) (it : ByteArray) (d : Int) (l : List Cpy) : Prop := ∀ c ∈ l, Fine p hs it d c ∧ (c.item = it → c.last < d)
def Mid (p : Pol) (hs : List Hrm) (it : ByteArray) (d : Int) (l : List Cpy) (k : Nat) : Prop := ∀ i (hi : i < l.length), Fine p hs it d l[i] ∧ (k ≤ i → l[i].item = it → l[i].last < d) ∧ (i < k → l[i].item = it → d + 1 ≤ l[i].last + p.every)
structure SafeC (v : Vlt) (p : Pol) (frm : Int) (hs : List Hrm) (it : ByteArray) : Prop where
  cp : ∀ c ∈ v.copies, c.item = it → c.bad = [] ∧ c.last < frm ∧ frm ≤ c.last + p.every
  few : ∀ f ∈ hs, (hitC v p it f hs).length < nOf v it
  pos : 0 < nOf v it
end Go.Proofs.YtieccphckobhjaaDoor


namespace Go.Proofs.YtieccphckobhjaaDoor
open Go.RowKit
set_option linter.unusedVariables false

/-! Types. -/
namespace TyR5

end TyR5
open TyR5

theorem idx_nonneg {l : List Cpy} {it ca : ByteArray} {v : Vlt} (hl : v.copies = l) (h : 0 ≤ copyIdx v it ca) : ∃ k, ∃ hk : k < l.length, copyIdx v it ca = (k : Int) ∧ l[k].item = it ∧ l[k].carrier = ca := by
  subst hl
  obtain ⟨k, hk, h1, h2⟩ := idxBy_some h
  simp only [Bool.and_eq_true, decide_eq_true_eq] at h2
  exact ⟨k, hk, h1, h2⟩
theorem ltC_eq {l : List Cpy} {t : Cpy} {k : Nat} (hk : k < l.length) : ltC l t k = decide (cpyCmp l[k] t < 0) := by unfold ltC; rw [List.getD_eq_getElem?_getD, List.getElem?_eq_getElem hk]; rfl
theorem posC_at {v : Vlt} {l : List Cpy} (hv : VOk (withC v l)) {k : Nat} (hk : k < l.length) : posC l (keyC l[k].item l[k].carrier) = k ∧ hasC l (keyC l[k].item l[k].carrier) = true := by
  have hcmp : ∀ j (hj : j < l.length), cpyCmp l[j] (keyC l[k].item l[k].carrier) = cpyCmp l[j] l[k] := fun j hj => cpyCmp_same rfl rfl rfl rfl
  have hlt : ∀ j (hj : j < l.length), j < k → cpyCmp l[j] l[k] < 0 := fun j hj h => hv.lt j k hj hk h
  have hself : cpyCmp l[k] l[k] = 0 := cpyCmp_eq rfl rfl
  have hge : ∀ j (hj : j < l.length), k ≤ j → ¬ cpyCmp l[j] l[k] < 0 := fun j hj h hh => by
    by_cases e : j = k
    · subst e; omega
    · have h1 := hv.lt k j hk hj (by omega)
      have := cpyCmp_trans (show cpyCmp l[k] l[j] < 0 from h1) hh
      omega
  have hs := bsr_spec2 (lt := ltC l (keyC l[k].item l[k].carrier)) (N := l.length) (fun a b hab hb hlb => by
    rw [ltC_eq hb, hcmp b hb] at hlb
    have h1 : b < k := by
      refine Nat.lt_of_not_le fun hh => hge b hb hh (of_decide_eq_true hlb)
    have ha : a < l.length := by omega
    rw [ltC_eq ha, hcmp a ha]
    exact decide_eq_true (hlt a ha (by omega))) l.length 0 l.length (by omega) (Nat.zero_le _) (Nat.le_refl _) (fun j hj => by omega)
  have hpos : posC l (keyC l[k].item l[k].carrier) = k := by
    show bsr (ltC l (keyC l[k].item l[k].carrier)) 0 l.length = k
    rcases Nat.lt_trichotomy (bsr (ltC l (keyC l[k].item l[k].carrier)) 0 l.length) k with h | h | h
    · have h1 := hs.2 _ (Nat.le_refl _) (by omega)
      rw [ltC_eq (by omega), hcmp _ (by omega)] at h1
      exact absurd (hlt _ (by omega) h) (of_decide_eq_false h1)
    · exact h
    · have h1 := hs.1 k h
      rw [ltC_eq hk, hcmp k hk] at h1
      exact absurd (of_decide_eq_true h1) (hge k hk (Nat.le_refl _))
  exact ⟨hpos, hasC_t hk hpos (by rw [hcmp k hk]; exact hself)⟩
theorem has_iff {v : Vlt} {l : List Cpy} (hv : VOk (withC v l)) (it ca : ByteArray) : (0 ≤ copyIdx (withC v l) it ca ↔ hasC l (keyC it ca) = true) ∧ (0 ≤ copyIdx (withC v l) it ca → copyIdx (withC v l) it ca = (posC l (keyC it ca) : Int)) := by
  refine ⟨⟨fun h => ?_, fun h => ?_⟩, fun h => ?_⟩
  · obtain ⟨k, hk, _, h2, h3⟩ := idx_nonneg (v := withC v l) rfl h
    rw [← h2, ← h3]
    exact (posC_at hv hk).2
  · obtain ⟨hk, h1, h2⟩ := hasC_spec h
    unfold copyIdx idxBy
    rw [if_pos (List.any_eq_true.2 ⟨_, List.getElem_mem (l := (withC v l).copies) hk, by simp only [Bool.and_eq_true, decide_eq_true_eq]; exact ⟨h1, h2⟩⟩)]
    omega
  · obtain ⟨k, hk, h1, h2, h3⟩ := idx_nonneg (v := withC v l) rfl h
    rw [h1, ← h2, ← h3]
    exact congrArg _ (posC_at hv hk).1.symm
theorem has_none {v : Vlt} {l : List Cpy} (hv : VOk (withC v l)) {it ca : ByteArray} (h : copyIdx (withC v l) it ca < 0) : hasC l (keyC it ca) = false := by
  cases hc : hasC l (keyC it ca) with
  | false => rfl
  | true => have := (has_iff hv it ca).1.2 hc; omega
theorem getD_at {l : List Cpy} {k : Nat} (hk : k < l.length) : l.getD k zC = l[k] := by rw [List.getD_eq_getElem?_getD, List.getElem?_eq_getElem hk]; rfl
theorem row_same2 {c id e size : Nat} {o : Ob} {els els' : List (List D)} {τ : Obs} (h : els = els') : ∀ p ∈ [(id, Ob.row e size els')], p ∈ (c, o) :: (id, Ob.row e size els) :: τ := fun p hp => by
  rw [List.mem_singleton] at hp; subst hp; subst h; exact .tail _ (.head _)
theorem take_snoc_map {α β : Type} (f : α → β) {l : List α} {k : Nat} (hk : k < l.length) : (l.take (k + 1)).map f = (l.take k).map f ++ [f l[k]] := by rw [List.take_add_one, List.getElem?_eq_getElem hk, Option.toList_some, List.map_append]; rfl
theorem c_pBoth (v : Vlt) (p : Pol) (hs : smallV v) : ACall Tryd.prog 54 [.agg v.ds, .agg p.ds] (.v (.int .i64 (bothFault v p))) := c_pBothL v p hs


end Go.Proofs.YtieccphckobhjaaDoor


namespace Go.Proofs.YtieccphckobhjaaDoor
open Go.RowKit
set_option linter.unusedVariables false

theorem AOp.callCloSnap {P : Program} {B : Nat} {ops : Array Oper} {o : Oper} {e : Env} {σ : Obs} {x : Operand} {f : FuncId} {xs : List Operand} {ts : Array TypeId} {ds caps : List D} {d : D}
    (ho : o.op = .call { callee := .value x, args := xs.toArray, argTypes := ts }) (hx : e.ev x = .d (.clo (.func f) caps)) (ha : SnapArgs e σ xs ds) (h : ACall P f (ds ++ caps) d) (hp : Plain d) : AOp P B ops o e σ (.d d) := by
  intro F ρ w a hF hr hσ
  have hr' : ∀ y ∈ o.op.operands.toList, RepS F ρ w (a.eval y) (e.ev y) := fun y hy => ev_rep fun t ht => hr t (looks_op (by rw [← ht]; exact hy))
  have h1 := ha.rep (a := a) hσ fun x hx => hr' x (by rw [ho]; simp [Op.operands, Call.operands, hx])
  have hF2 : ∀ b, endF F ρ σ b → b < w.heap.size := by
    rintro b (hb | ⟨p, hp, hb⟩)
    · exact hF b hb
    · exact ((hσ.ok p hp).blk_lt hb).2
  have hc := hr' x (by rw [ho]; simp [Op.operands, Call.operands])
  rw [hx] at hc
  have hc2 := (Snap.d (σ := σ) (.clo (.func f) caps)).rep hσ _ hc
  generalize hv : a.eval x = v at hc2
  cases hc2 with
  | clo _ cs _ hl hcs =>
    have h2 := h.2 (endF F ρ σ) w (xs.map a.eval ++ cs) hF2 (RepL.append h1 ⟨hl, hcs⟩)
    have h3 := h.1 (xs.map a.eval ++ cs).toArray w
    have hrun : (execOp a.eval o).run P w = .ok (.enter f (xs.map a.eval ++ cs).toArray) w := by
      unfold execOp
      simp only [ho, resolve, Deferred.ofValue, hv, invoke, Sem.run_bind, Sem.run_pure, Result.andThen_ok]
      simpa using h3
    unfold Oper.wp
    rw [hrun]
    refine h2.mono fun _ w' ⟨v, F', he, hv, hE⟩ => ?_
    subst he
    exact ⟨v, F, rfl, .d (hp.rep _ hv), Ext.of_below hF hE.below⟩
end Go.Proofs.YtieccphckobhjaaDoor


namespace Go.Proofs.YtieccphckobhjaaDoor
open Go.RowKit
set_option linter.unusedVariables false

/-! Types. -/
namespace TyW2
theorem et_75 : ElemTy Tryd.prog 75 3 1 8 (.int .i64 0) := ⟨by kernel_rfl, by kernel_rfl, by kernel_rfl, by decide⟩
theorem sc_3 : Scal Tryd.prog 3 := .of (by kernel_rfl)
theorem sz_3 : ∀ w, (sizeOf 3).run Tryd.prog w = .ok 1 w := SizeT.of (by kernel_rfl)
end TyW2
open TyW2


def fillC (m i : Nat) : List (List D) := (List.range i).map numD ++ List.replicate (m - i) (numD 0)
theorem fill_at {m i : Nat} (h : i < m) : (fillC m i)[i]? = some (numD 0) := by
  unfold fillC
  rw [List.getElem?_append_right (by simp), List.length_map, List.length_range, Nat.sub_self, List.getElem?_replicate, if_pos (by omega)]
theorem fill_len {m i : Nat} (h : i ≤ m) : (fillC m i).length = m := by unfold fillC; simp; omega
theorem fill_set {m i : Nat} (h : i < m) : (fillC m i).set i (numD i) = fillC m (i + 1) := by
  unfold fillC
  rw [List.set_append_right _ _ (by simp), List.range_succ, List.map_append]
  obtain ⟨d, hd⟩ : ∃ d, m - i = d + 1 := ⟨m - i - 1, by omega⟩
  rw [hd, show m - (i + 1) = d by omega]
  simp [List.replicate_succ]
theorem fill_all (m : Nat) : fillC m m = (List.range m).map numD := by unfold fillC; simp
theorem bump_first {l : List Nat} {k : Nat} (hk : k < l.length) : (l.map numD).set k (numD (l[k] + 1)) = (bumpTo l k (k + 1)).map numD := by
  rw [← List.map_set]
  congr 1
  unfold bumpTo
  rw [show k + 1 - k = 1 by omega, numAt hk]
  rw [List.set_eq_take_append_cons_drop]
  simp [hk]
theorem bump_set {l : List Nat} {k i : Nat} (hk : k < i) (hi : i < l.length) : (bumpTo l k i).set i (l.getD k 0 + 1 + (i - k)) = bumpTo l k (i + 1) := by
  unfold bumpTo
  rw [List.set_append_right _ _ (by simp; omega), show i + 1 - k = (i - k) + 1 by omega, List.range_succ, List.map_append]
  have e : (l.take k ++ (List.range (i - k)).map fun j => l.getD k 0 + 1 + j).length = i := by simp; omega
  rw [e, Nat.sub_self, List.drop_eq_getElem_cons hi, List.set_cons_zero]
  simp
theorem bump_prev {l : List Nat} {k i : Nat} (hk : k < i) (hi : i < l.length) : (bumpTo l k i).getD (i - 1) 0 = l.getD k 0 + (i - k) := by
  rw [bumpTo_at (by omega) (by omega) (by omega), if_neg (by omega), if_pos (by omega)]
  omega
theorem bump_next {l : List Nat} {k i : Nat} (hk : k < i) (hi : i < l.length) (h2 : i - 1 < (bumpTo l k i).length) : ((bumpTo l k i).map numD).set i [.v (.int .i64 (((bumpTo l k i)[i - 1] : Nat) + 1 : Int))] = (bumpTo l k (i + 1)).map numD := by
  rw [← bump_set hk hi, List.map_set]
  congr 1
  have h3 := bump_prev hk hi
  rw [numAt h2] at h3
  unfold numD
  rw [h3]
  congr 4
  omega
theorem row_numEq {a b : List (List D)} (h : a = b) {i e s : Nat} : ∀ p ∈ [(i, Ob.row e s b)], p ∈ [(i, Ob.row e s a)] := fun p hp => h ▸ hp


set_option maxRecDepth 100000 in
set_option maxHeartbeats 4000000 in
theorem c_chosen (n : Nat) (hn : n ≤ 1000) (P : List Nat → Bool) (f : Nat) (caps : List D) (hf : ∀ l, Vld n l → ACall Tryd.prog f (.sl (l.map numD) :: caps) (.v (.bool (P l)))) : ACall Tryd.prog 72 [.v (.int .i64 (n : Int)), .clo (.func f) caps] (.tup [.sl (((chosenC n P).getD []).map numD), .v (.bool (chosenC n P).isSome)]) := by
  refine acall_of (n := 75) (ds' := [.sl (((chosenC n P).getD []).map numD), .v (.bool (chosenC n P).isSome)]) Tryd.func72 rfl (by kernel_rfl) rfl [4, 5] rfl rfl ?_
  intro B w0 F0 fr
  refine AWP.seq (AWP.region ?_)
  refine AOps.aD rfl rfl rfl rfl rfl ?_
  refine AOps.aD rfl rfl rfl rfl rfl (.nil ?_)
  refine AWP.seq ?_
  refine AWP.seq (AWP.region ?_)
  refine AOps.mD rfl rfl rfl rfl rfl ?_
  refine AOps.step rfl rfl rfl (AOp.add64 rfl rfl rfl (by omega) (by omega)) ?_
  refine AOps.mD rfl rfl rfl rfl rfl (.nil ?_)
  refine AWP.block ?_
  refine AWP.loop (G := Nat) (fun m => Env.of [(13, .d (.v (.int .i64 (m : Int)))), (12, .d (.v (.int .i64 ((n : Int) + 1)))), (0, .d (.v (.int .i64 (n : Int)))), (1, .d (.clo (.func f) caps))]) (fun m => []) (fun m => m ≤ n + 1 ∧ chosenTo n P m = none) (fun m => n + 1 - m) 0 ⟨Nat.zero_le _, rfl⟩ (Sub.less ⟨(SLe.of_eq rfl), SLe.refl _, SLe.refl _, SLe.refl _, trivial⟩ (fun _ h => h)) ?_
  intro m hm
  refine AWP.seq (AWP.region ?_)
  refine AOps.step rfl rfl rfl (AOp.lss rfl rfl rfl) (.nil ?_)
  refine AWP.seq ?_
  refine AWP.cond rfl (fun h1 => ?_) (fun h1 => ?_)
  · replace h1 := of_decide_eq_true h1
    have hmn : m ≤ n := by omega
    refine AWP.skip ?_
    refine AWP.seq ?_
    refine AWP.block ?_
    refine AWP.seq (AWP.region ?_)
    refine AOps.mD rfl rfl rfl rfl rfl ?_
    refine AOps.aD rfl rfl rfl rfl rfl (.nil ?_)
    refine AWP.seq (AWP.region ?_)
    refine AOps.mD rfl rfl rfl rfl rfl ?_
    refine AOps.makeI 51 m rfl rfl rfl rfl et_75 rfl rfl rfl (by omega) (by omega) rfl rfl ?_
    refine AOps.step rfl rfl rfl (AOp.assignO rfl rfl) (.nil ?_)
    refine AWP.seq ?_
    refine AWP.seq (AWP.region ?_)
    refine AOps.step rfl rfl rfl (AOp.moveO rfl rfl) ?_
    refine AOps.step rfl rfl rfl (AOp.lenOwn rfl et_75.ht rfl (.head _)) ?_
    refine AOps.mD rfl rfl rfl rfl rfl (.nil ?_)
    refine AWP.block ?_
    refine AWP.loop (G := Nat) (fun i => Env.of [(20, .d (.v (.int .i64 (i : Int)))), (19, .d (.v (.int .i64 (m : Int)))), (7, .own 51), (6, .d (.v (.int .i64 (m : Int)))), (13, .d (.v (.int .i64 (m : Int)))), (12, .d (.v (.int .i64 ((n : Int) + 1)))), (0, .d (.v (.int .i64 (n : Int)))), (1, .d (.clo (.func f) caps))]) (fun i => [(51, .row 3 1 (fillC m i))]) (fun i => i ≤ m) (fun i => m - i) 0 (Nat.zero_le _) (Sub.less ⟨(SLe.of_eq rfl), (SLe.i64 (by simp)), SLe.refl _, SLe.refl _, SLe.refl _, SLe.refl _, SLe.refl _, SLe.refl _, trivial⟩ (row_numEq rfl)) ?_
    intro i hi
    refine AWP.seq (AWP.region ?_)
    refine AOps.step rfl rfl rfl (AOp.lss rfl rfl rfl) (.nil ?_)
    refine AWP.seq ?_
    refine AWP.cond rfl (fun h2 => ?_) (fun h2 => ?_)
    · replace h2 := of_decide_eq_true h2
      have him : i < m := by omega
      refine AWP.skip ?_
      refine AWP.seq ?_
      refine AWP.block ?_
      refine AWP.seq (AWP.region ?_)
      refine AOps.mD rfl rfl rfl rfl rfl ?_
      refine AOps.aD rfl rfl rfl rfl rfl (.nil ?_)
      refine AWP.region ?_
      refine AOps.step rfl rfl rfl (AOp.moveO rfl rfl) ?_
      refine AOps.mD rfl rfl rfl rfl rfl ?_
      refine AOps.mD rfl rfl rfl rfl rfl ?_
      refine AOps.step rfl rfl rfl (AOp.indexOwn rfl et_75 rfl rfl (.head _) i rfl (by rw [fill_len (by omega)]; omega)) ?_
      refine AOps.storeRow rfl rfl rfl sz_3 rfl (.head _) rfl rfl rfl i 0 rfl (fill_at him) (Nat.le_of_ble_eq_true rfl) (.nil ?_)
      refine AWP.region ?_
      refine AOps.step rfl rfl rfl (AOp.add64 rfl rfl rfl (by omega) (by omega)) ?_
      refine AOps.mD rfl rfl rfl rfl rfl (.nil ?_)
      refine ⟨i + 1, (by dsimp only; omega), (by dsimp only; omega), Sub.less ⟨(SLe.of_eq rfl), SLe.refl _, SLe.refl _, SLe.refl _, SLe.refl _, SLe.refl _, SLe.refl _, SLe.refl _, trivial⟩ (row_numEq (fill_set him))⟩
    replace h2 := of_decide_eq_false h2
    obtain rfl : m = i := by omega
    refine AWP.exit ?_
    refine AWP.block ?_
    refine AWP.loop (G := List Nat) (fun l => Env.of [(7, .own 51), (6, .d (.v (.int .i64 (m : Int)))), (13, .d (.v (.int .i64 (m : Int)))), (12, .d (.v (.int .i64 ((n : Int) + 1)))), (0, .d (.v (.int .i64 (n : Int)))), (1, .d (.clo (.func f) caps))]) (fun l => [(51, .row 3 1 (l.map numD))]) (fun l => Vld n l ∧ l.length = m ∧ srch n P (List.range m) = srch n P l) (fun l => leftC n l) (List.range m) ⟨range_vld (by omega), List.length_range, rfl⟩ (Sub.less ⟨SLe.refl _, SLe.refl _, SLe.refl _, SLe.refl _, SLe.refl _, SLe.refl _, trivial⟩ (row_numEq (fill_all _))) ?_
    intro l hl
    refine AWP.block ?_
    refine AWP.seq ?_
    refine AWP.seq (AWP.region ?_)
    refine AOps.mD rfl rfl rfl rfl rfl ?_
    refine AOps.step rfl rfl rfl (AOp.moveO rfl rfl) ?_
    refine AOps.step rfl rfl rfl (AOp.callCloSnap rfl rfl (.cons rfl (.row (.head _)) .nil) (hf l hl.1) (.v _)) (.nil ?_)
    refine AWP.cond rfl (fun h3 => ?_) (fun h3 => ?_)
    · skip
      have HC : chosenC n P = some l := chosenTo_some hm.2 (hl.2.2.trans (srch_hit hl.1 h3)) (n + 1) (by omega)
      rw [HC]
      refine AWP.seq (AWP.region ?_)
      refine AOps.step rfl rfl rfl (AOp.moveO rfl rfl) ?_
      refine AOps.step rfl rfl rfl (AOp.assignO rfl rfl) ?_
      refine AOps.aD rfl rfl rfl rfl rfl (.nil ?_)
      refine AWP.ret ?_
      refine ⟨RetD.own rfl (.head _) ?_, RetD.eq rfl ?_, trivial⟩
      all_goals (rfl)
    have hP : P l = false := by simpa using h3
    have hlm := hl.2.1
    have hln := hl.1.1
    refine AWP.skip ?_
    refine AWP.seq (AWP.region ?_)
    refine AOps.mD rfl rfl rfl rfl rfl ?_
    refine AOps.step rfl rfl rfl (AOp.sub64 rfl rfl rfl (by omega) (by omega)) ?_
    refine AOps.aD rfl rfl rfl rfl rfl (.nil ?_)
    refine AWP.seq ?_
    refine AWP.block ?_
    refine AWP.loop (G := Nat) (fun j => Env.of [(9, .d (.v (.int .i64 ((j : Int) - 1)))), (7, .own 51), (6, .d (.v (.int .i64 (m : Int)))), (13, .d (.v (.int .i64 (m : Int)))), (12, .d (.v (.int .i64 ((n : Int) + 1)))), (0, .d (.v (.int .i64 (n : Int)))), (1, .d (.clo (.func f) caps))]) (fun j => [(51, .row 3 1 (l.map numD))]) (fun j => j ≤ m ∧ pivot n l m = pivot n l j) (fun j => j) m ⟨Nat.le_refl _, rfl⟩ (Sub.less ⟨(SLe.of_eq rfl), SLe.refl _, SLe.refl _, SLe.refl _, SLe.refl _, SLe.refl _, SLe.refl _, trivial⟩ (row_numEq rfl)) ?_
    intro j hj
    refine AWP.seq ?_
    refine AWP.seq (AWP.region ?_)
    refine AOps.mD rfl rfl rfl rfl rfl ?_
    refine AOps.step rfl rfl rfl (AOp.geq rfl rfl rfl) ?_
    refine AOps.mD rfl rfl rfl rfl rfl ?_
    refine AOps.split 36 rfl (fun g4 => ?_) (fun g4 => ?_)
    · replace g4 := of_decide_eq_true g4
      have hj1 : 0 < j := by omega
      have hjl : j - 1 < l.length := by omega
      have hlj := hl.1.2 (j - 1) hjl
      refine AOps.step ⟨36, rfl, .inl ⟨_, rfl, rfl⟩⟩ rfl rfl (AOp.moveO rfl rfl) ?_
      refine AOps.step ⟨36, rfl, .inl ⟨_, rfl, rfl⟩⟩ rfl rfl (AOp.moveD rfl rfl) ?_
      refine AOps.step ⟨36, rfl, .inl ⟨_, rfl, rfl⟩⟩ rfl rfl (AOp.indexOwn rfl et_75 rfl rfl (.head _) (j - 1) (by omega) (by rw [List.length_map]; omega)) ?_
      refine AOps.step ⟨36, rfl, .inl ⟨_, rfl, rfl⟩⟩ rfl rfl (AOp.loadRow rfl sc_3 rfl (.head _) (j - 1) 0 rfl (at_list hjl) rfl) ?_
      refine AOps.step ⟨36, rfl, .inl ⟨_, rfl, rfl⟩⟩ rfl rfl (AOp.moveD rfl rfl) ?_
      refine AOps.step ⟨36, rfl, .inl ⟨_, rfl, rfl⟩⟩ rfl rfl (AOp.moveD rfl rfl) ?_
      refine AOps.step ⟨36, rfl, .inl ⟨_, rfl, rfl⟩⟩ rfl rfl (AOp.sub64 rfl rfl rfl (by omega) (by omega)) ?_
      refine AOps.step ⟨36, rfl, .inl ⟨_, rfl, rfl⟩⟩ rfl rfl (AOp.moveD rfl rfl) ?_
      refine AOps.step ⟨36, rfl, .inl ⟨_, rfl, rfl⟩⟩ rfl rfl (AOp.add64 rfl rfl rfl (by omega) (by omega)) ?_
      refine AOps.step ⟨36, rfl, .inl ⟨_, rfl, rfl⟩⟩ rfl rfl (AOp.eql rfl rfl rfl) ?_
      refine AOps.step rfl rfl rfl (AOp.pickT rfl rfl rfl) (.nil ?_)
      refine AWP.cond rfl (fun h5 => ?_) (fun h5 => ?_)
      · replace h5 := of_decide_eq_true h5
        have HP := pivot_step (n := n) (l := l) (j := j - 1) (by rw [numAt (by omega)]; omega)
        rw [show j - 1 + 1 = j by omega] at HP
        refine AWP.skip ?_
        refine AWP.block ?_
        refine AWP.region ?_
        refine AOps.mD rfl rfl rfl rfl rfl ?_
        refine AOps.step rfl rfl rfl (AOp.sub64 rfl rfl rfl (by omega) (by omega)) ?_
        refine AOps.aD rfl rfl rfl rfl rfl (.nil ?_)
        refine ⟨j - 1, ⟨by omega, hj.2.trans HP⟩, (by dsimp only; omega), Sub.less ⟨(SLe.i64 (by omega)), SLe.refl _, SLe.refl _, SLe.refl _, SLe.refl _, SLe.refl _, SLe.refl _, trivial⟩ (row_numEq rfl)⟩
      replace h5 := of_decide_eq_false h5
      have HP := pivot_here (n := n) (l := l) (j := j - 1) (by rw [numAt (by omega)]; omega)
      rw [show j - 1 + 1 = j by omega] at HP
      have HQ : 0 < j → pivot n l l.length = some (j - 1) := fun _ => by rw [hlm, hj.2, HP]
      refine AWP.exit ?_
      refine AWP.seq ?_
      refine AWP.seq (AWP.region ?_)
      refine AOps.mD rfl rfl rfl rfl rfl ?_
      refine AOps.step rfl rfl rfl (AOp.lss rfl rfl rfl) (.nil ?_)
      refine AWP.cond rfl (fun h6 => ?_) (fun h6 => ?_)
      · replace h6 := of_decide_eq_true h6
        have hj0 : j = 0 := by omega
        have HE : srch n P l = none := srch_end hl.1 hP (by rw [hlm, hj.2, hj0]; rfl)
        refine AWP.exit ?_
        refine AWP.region ?_
        refine AOps.step rfl rfl rfl (AOp.add64 rfl rfl rfl (by omega) (by omega)) ?_
        refine AOps.mD rfl rfl rfl rfl rfl (.nil ?_)
        refine ⟨m + 1, ⟨by omega, chosenTo_next hm.2 (hl.2.2.trans HE)⟩, (by dsimp only; omega), Sub.less ⟨(SLe.of_eq rfl), SLe.refl _, SLe.refl _, SLe.refl _, trivial⟩ (fun _ h => by cases h)⟩
      replace h6 := of_decide_eq_false h6
      have hjp : 0 < j := by omega
      have hpv := HQ hjp
      have hkl : j - 1 < l.length := by omega
      have hlk := hl.1.2 (j - 1) hkl
      refine AWP.skip ?_
      refine AWP.seq (AWP.region ?_)
      refine AOps.step rfl rfl rfl (AOp.moveO rfl rfl) ?_
      refine AOps.mD rfl rfl rfl rfl rfl ?_
      refine AOps.step rfl rfl rfl (AOp.indexOwn rfl et_75 rfl rfl (.head _) (j - 1) (by omega) (by rw [List.length_map]; omega)) ?_
      refine AOps.step rfl rfl rfl (AOp.loadRow rfl sc_3 rfl (.head _) (j - 1) 0 rfl (at_list hkl) rfl) ?_
      refine AOps.step rfl rfl rfl (AOp.add64 rfl rfl rfl (by omega) (by omega)) ?_
      refine AOps.step rfl rfl rfl (AOp.indexOwn rfl et_75 rfl rfl (.head _) (j - 1) (by omega) (by rw [List.length_map]; omega)) ?_
      refine AOps.storeRow rfl rfl rfl sz_3 rfl (.head _) rfl rfl rfl (j - 1) 0 rfl (at_list hkl) (Nat.le_of_ble_eq_true rfl) (.nil ?_)
      refine AWP.seq (AWP.region ?_)
      refine AOps.mD rfl rfl rfl rfl rfl ?_
      refine AOps.step rfl rfl rfl (AOp.add64 rfl rfl rfl (by omega) (by omega)) ?_
      refine AOps.aD rfl rfl rfl rfl rfl (.nil ?_)
      refine AWP.block ?_
      refine AWP.loop (G := Nat) (fun i => Env.of [(10, .d (.v (.int .i64 (i : Int)))), (7, .own 51), (6, .d (.v (.int .i64 (m : Int)))), (13, .d (.v (.int .i64 (m : Int)))), (12, .d (.v (.int .i64 ((n : Int) + 1)))), (0, .d (.v (.int .i64 (n : Int)))), (1, .d (.clo (.func f) caps))]) (fun i => [(51, .row 3 1 ((bumpTo l (j - 1) i).map numD))]) (fun i => j ≤ i ∧ i ≤ m) (fun i => m - i) j ⟨Nat.le_refl _, hj.1⟩ (Sub.less ⟨(SLe.i64 (by omega)), SLe.refl _, SLe.refl _, SLe.refl _, SLe.refl _, SLe.refl _, SLe.refl _, trivial⟩ (row_numEq ((bump_first hkl).trans (by rw [show j - 1 + 1 = j by omega])))) ?_
      intro i hi
      refine AWP.seq ?_
      refine AWP.seq (AWP.region ?_)
      refine AOps.mD rfl rfl rfl rfl rfl ?_
      refine AOps.mD rfl rfl rfl rfl rfl ?_
      refine AOps.step rfl rfl rfl (AOp.lss rfl rfl rfl) (.nil ?_)
      refine AWP.cond rfl (fun h7 => ?_) (fun h7 => ?_)
      · replace h7 := of_decide_eq_true h7
        have him : i < l.length := by omega
        have hbl := bumpTo_len (l := l) (k := j - 1) (i := i) (by omega) (by omega)
        have h2 : i - 1 < (bumpTo l (j - 1) i).length := by omega
        have hbp := bump_prev (l := l) (k := j - 1) (i := i) (by omega) him
        rw [numAt h2, numAt hkl] at hbp
        refine AWP.skip ?_
        refine AWP.seq ?_
        refine AWP.block ?_
        refine AWP.region ?_
        refine AOps.step rfl rfl rfl (AOp.moveO rfl rfl) ?_
        refine AOps.mD rfl rfl rfl rfl rfl ?_
        refine AOps.step rfl rfl rfl (AOp.moveO rfl rfl) ?_
        refine AOps.mD rfl rfl rfl rfl rfl ?_
        refine AOps.step rfl rfl rfl (AOp.sub64 rfl rfl rfl (by omega) (by omega)) ?_
        refine AOps.step rfl rfl rfl (AOp.indexOwn rfl et_75 rfl rfl (.head _) (i - 1) (by omega) (by rw [List.length_map]; omega)) ?_
        refine AOps.step rfl rfl rfl (AOp.loadRow rfl sc_3 rfl (.head _) (i - 1) 0 rfl (at_list h2) rfl) ?_
        refine AOps.step rfl rfl rfl (AOp.add64 rfl rfl rfl (by omega) (by omega)) ?_
        refine AOps.step rfl rfl rfl (AOp.indexOwn rfl et_75 rfl rfl (.head _) i rfl (by rw [List.length_map]; omega)) ?_
        refine AOps.storeRow rfl rfl rfl sz_3 rfl (.head _) rfl rfl rfl i 0 rfl (at_list (by omega)) (Nat.le_of_ble_eq_true rfl) (.nil ?_)
        refine AWP.region ?_
        refine AOps.mD rfl rfl rfl rfl rfl ?_
        refine AOps.step rfl rfl rfl (AOp.add64 rfl rfl rfl (by omega) (by omega)) ?_
        refine AOps.aD rfl rfl rfl rfl rfl (.nil ?_)
        refine ⟨i + 1, ⟨by omega, by omega⟩, (by dsimp only; omega), Sub.less ⟨(SLe.of_eq rfl), SLe.refl _, SLe.refl _, SLe.refl _, SLe.refl _, SLe.refl _, SLe.refl _, trivial⟩ (row_numEq (bump_next (by omega) him h2))⟩
      replace h7 := of_decide_eq_false h7
      obtain rfl : i = l.length := by omega
      refine AWP.exit ?_
      refine ⟨bump l (j - 1), ⟨bump_vld hl.1 hpv, by rw [bump_len (by omega)]; exact hlm, hl.2.2.trans (srch_next hl.1 hP hpv)⟩, (leftC_next hl.1 hpv), Sub.less ⟨SLe.refl _, SLe.refl _, SLe.refl _, SLe.refl _, SLe.refl _, SLe.refl _, trivial⟩ (row_numEq rfl)⟩
    replace g4 := of_decide_eq_false g4
    have HQ : 0 < j → pivot n l l.length = some (j - 1) := fun hh => by omega
    refine AOps.pass ⟨36, rfl, .inl ⟨_, rfl, rfl⟩⟩ rfl rfl ?_
    refine AOps.pass ⟨36, rfl, .inl ⟨_, rfl, rfl⟩⟩ rfl rfl ?_
    refine AOps.pass ⟨36, rfl, .inl ⟨_, rfl, rfl⟩⟩ rfl rfl ?_
    refine AOps.pass ⟨36, rfl, .inl ⟨_, rfl, rfl⟩⟩ rfl rfl ?_
    refine AOps.pass ⟨36, rfl, .inl ⟨_, rfl, rfl⟩⟩ rfl rfl ?_
    refine AOps.pass ⟨36, rfl, .inl ⟨_, rfl, rfl⟩⟩ rfl rfl ?_
    refine AOps.pass ⟨36, rfl, .inl ⟨_, rfl, rfl⟩⟩ rfl rfl ?_
    refine AOps.pass ⟨36, rfl, .inl ⟨_, rfl, rfl⟩⟩ rfl rfl ?_
    refine AOps.pass ⟨36, rfl, .inl ⟨_, rfl, rfl⟩⟩ rfl rfl ?_
    refine AOps.pass ⟨36, rfl, .inl ⟨_, rfl, rfl⟩⟩ rfl rfl ?_
    refine AOps.step rfl rfl rfl (AOp.pickF rfl rfl rfl) (.nil ?_)
    refine AWP.cond rfl (fun h => nomatch h) (fun _ => ?_)
    refine AWP.exit ?_
    refine AWP.seq ?_
    refine AWP.seq (AWP.region ?_)
    refine AOps.mD rfl rfl rfl rfl rfl ?_
    refine AOps.step rfl rfl rfl (AOp.lss rfl rfl rfl) (.nil ?_)
    refine AWP.cond rfl (fun h8 => ?_) (fun h8 => ?_)
    · replace h8 := of_decide_eq_true h8
      have hj0 : j = 0 := by omega
      have HE : srch n P l = none := srch_end hl.1 hP (by rw [hlm, hj.2, hj0]; rfl)
      refine AWP.exit ?_
      refine AWP.region ?_
      refine AOps.step rfl rfl rfl (AOp.add64 rfl rfl rfl (by omega) (by omega)) ?_
      refine AOps.mD rfl rfl rfl rfl rfl (.nil ?_)
      refine ⟨m + 1, ⟨by omega, chosenTo_next hm.2 (hl.2.2.trans HE)⟩, (by dsimp only; omega), Sub.less ⟨(SLe.of_eq rfl), SLe.refl _, SLe.refl _, SLe.refl _, trivial⟩ (fun _ h => by cases h)⟩
    replace h8 := of_decide_eq_false h8
    have hjp : 0 < j := by omega
    have hpv := HQ hjp
    have hkl : j - 1 < l.length := by omega
    have hlk := hl.1.2 (j - 1) hkl
    refine AWP.skip ?_
    refine AWP.seq (AWP.region ?_)
    refine AOps.step rfl rfl rfl (AOp.moveO rfl rfl) ?_
    refine AOps.mD rfl rfl rfl rfl rfl ?_
    refine AOps.step rfl rfl rfl (AOp.indexOwn rfl et_75 rfl rfl (.head _) (j - 1) (by omega) (by rw [List.length_map]; omega)) ?_
    refine AOps.step rfl rfl rfl (AOp.loadRow rfl sc_3 rfl (.head _) (j - 1) 0 rfl (at_list hkl) rfl) ?_
    refine AOps.step rfl rfl rfl (AOp.add64 rfl rfl rfl (by omega) (by omega)) ?_
    refine AOps.step rfl rfl rfl (AOp.indexOwn rfl et_75 rfl rfl (.head _) (j - 1) (by omega) (by rw [List.length_map]; omega)) ?_
    refine AOps.storeRow rfl rfl rfl sz_3 rfl (.head _) rfl rfl rfl (j - 1) 0 rfl (at_list hkl) (Nat.le_of_ble_eq_true rfl) (.nil ?_)
    refine AWP.seq (AWP.region ?_)
    refine AOps.mD rfl rfl rfl rfl rfl ?_
    refine AOps.step rfl rfl rfl (AOp.add64 rfl rfl rfl (by omega) (by omega)) ?_
    refine AOps.aD rfl rfl rfl rfl rfl (.nil ?_)
    refine AWP.block ?_
    refine AWP.loop (G := Nat) (fun i => Env.of [(10, .d (.v (.int .i64 (i : Int)))), (7, .own 51), (6, .d (.v (.int .i64 (m : Int)))), (13, .d (.v (.int .i64 (m : Int)))), (12, .d (.v (.int .i64 ((n : Int) + 1)))), (0, .d (.v (.int .i64 (n : Int)))), (1, .d (.clo (.func f) caps))]) (fun i => [(51, .row 3 1 ((bumpTo l (j - 1) i).map numD))]) (fun i => j ≤ i ∧ i ≤ m) (fun i => m - i) j ⟨Nat.le_refl _, hj.1⟩ (Sub.less ⟨(SLe.i64 (by omega)), SLe.refl _, SLe.refl _, SLe.refl _, SLe.refl _, SLe.refl _, SLe.refl _, trivial⟩ (row_numEq ((bump_first hkl).trans (by rw [show j - 1 + 1 = j by omega])))) ?_
    intro i hi
    refine AWP.seq ?_
    refine AWP.seq (AWP.region ?_)
    refine AOps.mD rfl rfl rfl rfl rfl ?_
    refine AOps.mD rfl rfl rfl rfl rfl ?_
    refine AOps.step rfl rfl rfl (AOp.lss rfl rfl rfl) (.nil ?_)
    refine AWP.cond rfl (fun h9 => ?_) (fun h9 => ?_)
    · replace h9 := of_decide_eq_true h9
      have him : i < l.length := by omega
      have hbl := bumpTo_len (l := l) (k := j - 1) (i := i) (by omega) (by omega)
      have h2 : i - 1 < (bumpTo l (j - 1) i).length := by omega
      have hbp := bump_prev (l := l) (k := j - 1) (i := i) (by omega) him
      rw [numAt h2, numAt hkl] at hbp
      refine AWP.skip ?_
      refine AWP.seq ?_
      refine AWP.block ?_
      refine AWP.region ?_
      refine AOps.step rfl rfl rfl (AOp.moveO rfl rfl) ?_
      refine AOps.mD rfl rfl rfl rfl rfl ?_
      refine AOps.step rfl rfl rfl (AOp.moveO rfl rfl) ?_
      refine AOps.mD rfl rfl rfl rfl rfl ?_
      refine AOps.step rfl rfl rfl (AOp.sub64 rfl rfl rfl (by omega) (by omega)) ?_
      refine AOps.step rfl rfl rfl (AOp.indexOwn rfl et_75 rfl rfl (.head _) (i - 1) (by omega) (by rw [List.length_map]; omega)) ?_
      refine AOps.step rfl rfl rfl (AOp.loadRow rfl sc_3 rfl (.head _) (i - 1) 0 rfl (at_list h2) rfl) ?_
      refine AOps.step rfl rfl rfl (AOp.add64 rfl rfl rfl (by omega) (by omega)) ?_
      refine AOps.step rfl rfl rfl (AOp.indexOwn rfl et_75 rfl rfl (.head _) i rfl (by rw [List.length_map]; omega)) ?_
      refine AOps.storeRow rfl rfl rfl sz_3 rfl (.head _) rfl rfl rfl i 0 rfl (at_list (by omega)) (Nat.le_of_ble_eq_true rfl) (.nil ?_)
      refine AWP.region ?_
      refine AOps.mD rfl rfl rfl rfl rfl ?_
      refine AOps.step rfl rfl rfl (AOp.add64 rfl rfl rfl (by omega) (by omega)) ?_
      refine AOps.aD rfl rfl rfl rfl rfl (.nil ?_)
      refine ⟨i + 1, ⟨by omega, by omega⟩, (by dsimp only; omega), Sub.less ⟨(SLe.of_eq rfl), SLe.refl _, SLe.refl _, SLe.refl _, SLe.refl _, SLe.refl _, SLe.refl _, trivial⟩ (row_numEq (bump_next (by omega) him h2))⟩
    replace h9 := of_decide_eq_false h9
    obtain rfl : i = l.length := by omega
    refine AWP.exit ?_
    refine ⟨bump l (j - 1), ⟨bump_vld hl.1 hpv, by rw [bump_len (by omega)]; exact hlm, hl.2.2.trans (srch_next hl.1 hP hpv)⟩, (leftC_next hl.1 hpv), Sub.less ⟨SLe.refl _, SLe.refl _, SLe.refl _, SLe.refl _, SLe.refl _, SLe.refl _, trivial⟩ (row_numEq rfl)⟩
  replace h1 := of_decide_eq_false h1
  obtain rfl : m = n + 1 := by omega
  have HC : chosenC n P = none := hm.2
  rw [HC]
  refine AWP.exit ?_
  refine AWP.seq (AWP.region ?_)
  refine AOps.aD rfl rfl rfl rfl rfl ?_
  refine AOps.aD rfl rfl rfl rfl rfl (.nil ?_)
  refine AWP.ret ?_
  refine ⟨RetD.nil rfl, RetD.eq rfl ?_, trivial⟩
  all_goals (rfl)

end Go.Proofs.YtieccphckobhjaaDoor


namespace Go.Proofs.YtieccphckobhjaaDoor
open Go.RowKit
set_option linter.unusedVariables false

/-! Types. -/
namespace TyW3

end TyW3
open TyW3



end Go.Proofs.YtieccphckobhjaaDoor


namespace Go.Proofs.YtieccphckobhjaaDoor
open Go.RowKit
set_option linter.unusedVariables false

/-! Types. -/
namespace TyL1
theorem ag_26 : AggT Tryd.prog 26 3 := .of (by kernel_rfl)
theorem ag_73 : AggT Tryd.prog 73 5 := .of (by kernel_rfl)
theorem ag_77 : AggT Tryd.prog 77 7 := .of (by kernel_rfl)
theorem et_23 : ElemTy Tryd.prog 23 73 5 64 (.agg #[(.string ⟨#[]⟩), (.string ⟨#[]⟩), (.string ⟨#[]⟩), (.int .i64 0), (.int .i64 0)]) := ⟨by kernel_rfl, by kernel_rfl, by kernel_rfl, by decide⟩
theorem et_24 : ElemTy Tryd.prog 24 77 7 96 (.agg #[(.string ⟨#[]⟩), (.string ⟨#[]⟩), (.string ⟨#[]⟩), (.int .i64 0), (.int .i64 0), (.int .i64 0), (.slice none 0 0)]) := ⟨by kernel_rfl, by kernel_rfl, by kernel_rfl, by decide⟩
theorem fo_26_1 : fieldOff Tryd.prog 26 1 = some 1 := by kernel_rfl
theorem fo_26_2 : fieldOff Tryd.prog 26 2 = some 2 := by kernel_rfl
theorem fo_28_4 : fieldOff Tryd.prog 28 4 = some 4 := by kernel_rfl
theorem fo_73_3 : fieldOff Tryd.prog 73 3 = some 3 := by kernel_rfl
theorem fo_77_0 : fieldOff Tryd.prog 77 0 = some 0 := by kernel_rfl
theorem sc_23 : Scal Tryd.prog 23 := .of (by kernel_rfl)
theorem sc_24 : Scal Tryd.prog 24 := .of (by kernel_rfl)
theorem sc_3 : Scal Tryd.prog 3 := .of (by kernel_rfl)
theorem sc_9 : Scal Tryd.prog 9 := .of (by kernel_rfl)
theorem sz_73 : ∀ w, (sizeOf 73).run Tryd.prog w = .ok 5 w := SizeT.of (by kernel_rfl)
theorem sz_77 : ∀ w, (sizeOf 77).run Tryd.prog w = .ok 7 w := SizeT.of (by kernel_rfl)
theorem zt_73 : (Tryd.prog.info? 73).bind (·.zero) = some (.agg #[(.string ⟨#[]⟩), (.string ⟨#[]⟩), (.string ⟨#[]⟩), (.int .i64 0), (.int .i64 0)]) := by kernel_rfl
theorem zt_77 : (Tryd.prog.info? 77).bind (·.zero) = some (.agg #[(.string ⟨#[]⟩), (.string ⟨#[]⟩), (.string ⟨#[]⟩), (.int .i64 0), (.int .i64 0), (.int .i64 0), (.slice none 0 0)]) := by kernel_rfl
end TyL1
open TyL1


structure Lck where
  item : ByteArray
  carrier : ByteArray
  what : Int
  many : Int
deriving DecidableEq
def Lck.ds (x : Lck) : List D := [.v (.string x.item), .v (.string x.carrier), .v (.int .i64 x.what), .v (.int .i64 x.many)]
def oldB (p : Pol) (day : Int) (x : Carr) : Bool := decide (p.old < day - x.made)
def zeroCarr : Carr := ⟨⟨#[]⟩, ⟨#[]⟩, ⟨#[]⟩, 0, 0⟩
def carrAt (v : Vlt) (nm : ByteArray) : Carr := (v.carrs[(carrIdx v nm).toNat]?).getD zeroCarr
theorem carrAt_eq {v : Vlt} {nm : ByteArray} {k : Nat} (hk : k < v.carrs.length) (e : carrIdx v nm = k) : carrAt v nm = v.carrs[k] := by
  unfold carrAt; rw [e, Int.toNat_natCast, List.getElem?_eq_getElem hk]; rfl
theorem carrAt_mem {v : Vlt} {nm : ByteArray} (h : 0 ≤ carrIdx v nm) : carrAt v nm ∈ v.carrs := by
  obtain ⟨k, hk, e, _⟩ := idxBy_some h
  rw [carrAt_eq hk e]; exact List.getElem_mem hk
theorem VOk.carr {v : Vlt} (h : VOk v) {x : Carr} (hx : x ∈ v.carrs) : nameOk x.name = true ∧ (0 ≤ x.made ∧ x.made ≤ 200000) ∧ 0 ≤ x.room ∧ x.room ≤ 1000000 := by
  obtain ⟨k, hk, rfl⟩ := List.mem_iff_getElem.1 hx
  exact carrFault_ok hk (ffst_all _ h.carrs k hk)
def goodB (v : Vlt) (p : Pol) (day : Int) (c : Cpy) : Bool := (decide ((c.bad.length : Int) = 0) && decide (c.gen ≤ p.gens)) && !oldB p day (carrAt v c.carrier)
def ofItem (it : ByteArray) (c : Cpy) : Bool := decide (c.item = it)
def copiesTo (v : Vlt) (it : ByteArray) (k : Nat) : List Cpy := (v.copies.take k).filter (ofItem it)
def copiesOf (v : Vlt) (it : ByteArray) : List Cpy := v.copies.filter (ofItem it)
theorem copiesOf_eq (v : Vlt) (it : ByteArray) : copiesTo v it v.copies.length = copiesOf v it := by unfold copiesTo copiesOf; rw [List.take_length]
theorem filter_yes {α : Type} {p : α → Bool} {l : List α} {k : Nat} (hk : k < l.length) (h : p l[k] = true) : (l.take (k + 1)).filter p = (l.take k).filter p ++ [l[k]] := by
  rw [List.take_add_one, List.getElem?_eq_getElem hk, Option.toList_some, List.filter_append, List.filter_cons, List.filter_nil, if_pos h]
theorem filter_no {α : Type} {p : α → Bool} {l : List α} {k : Nat} (hk : k < l.length) (h : p l[k] = false) : (l.take (k + 1)).filter p = (l.take k).filter p := by
  rw [List.take_add_one, List.getElem?_eq_getElem hk, Option.toList_some, List.filter_append, List.filter_cons, List.filter_nil, if_neg (by rw [h]; simp), List.append_nil]
theorem copiesTo_yes {v : Vlt} {it : ByteArray} {k : Nat} (hk : k < v.copies.length) (h : v.copies[k].item = it) : copiesTo v it (k + 1) = copiesTo v it k ++ [v.copies[k]] := filter_yes hk (decide_eq_true h)
theorem copiesTo_no {v : Vlt} {it : ByteArray} {k : Nat} (hk : k < v.copies.length) (h : ¬ v.copies[k].item = it) : copiesTo v it (k + 1) = copiesTo v it k := filter_no hk (decide_eq_false h)
theorem copiesTo_len (v : Vlt) (it : ByteArray) (k : Nat) : (copiesTo v it k).length ≤ v.copies.length := Nat.le_trans (List.length_filter_le _ _) (by rw [List.length_take]; omega)
theorem copiesOf_len (v : Vlt) (it : ByteArray) : (copiesOf v it).length ≤ v.copies.length := List.length_filter_le _ _
theorem copiesOf_mem {v : Vlt} {it : ByteArray} {c : Cpy} (h : c ∈ copiesOf v it) : c ∈ v.copies ∧ c.item = it := by
  unfold copiesOf at h
  rw [List.mem_filter] at h
  exact ⟨h.1, of_decide_eq_true h.2⟩
def goodTo (v : Vlt) (it : ByteArray) (p : Pol) (day : Int) (k : Nat) : List Carr := (((copiesOf v it).take k).filter (goodB v p day)).map fun c => carrAt v c.carrier
def goodOnes (v : Vlt) (it : ByteArray) (p : Pol) (day : Int) : List Carr := ((copiesOf v it).filter (goodB v p day)).map fun c => carrAt v c.carrier
theorem goodTo_yes {v : Vlt} {it : ByteArray} {p : Pol} {day : Int} {k : Nat} (hk : k < (copiesOf v it).length) (h : goodB v p day (copiesOf v it)[k] = true) : goodTo v it p day (k + 1) = goodTo v it p day k ++ [carrAt v (copiesOf v it)[k].carrier] := by
  unfold goodTo; rw [filter_yes hk h, List.map_append]; rfl
theorem goodTo_no {v : Vlt} {it : ByteArray} {p : Pol} {day : Int} {k : Nat} (hk : k < (copiesOf v it).length) (h : goodB v p day (copiesOf v it)[k] = false) : goodTo v it p day (k + 1) = goodTo v it p day k := by
  unfold goodTo; rw [filter_no hk h]
theorem goodTo_all (v : Vlt) (it : ByteArray) (p : Pol) (day : Int) : goodTo v it p day (copiesOf v it).length = goodOnes v it p day := by unfold goodTo goodOnes; rw [List.take_length]
theorem goodTo_len (v : Vlt) (it : ByteArray) (p : Pol) (day : Int) (k : Nat) : (goodTo v it p day k).length ≤ v.copies.length := by
  unfold goodTo
  rw [List.length_map]
  refine Nat.le_trans (List.length_filter_le _ _) ?_
  rw [List.length_take]
  have := copiesOf_len v it
  omega
/-- The same, in one go over all copies. -/
def rGoodTo (v : Vlt) (it : ByteArray) (p : Pol) (day : Int) (k : Nat) : List Carr := ((v.copies.take k).filter fun c => ofItem it c && goodB v p day c).map fun c => carrAt v c.carrier
theorem rGoodTo_all (v : Vlt) (it : ByteArray) (p : Pol) (day : Int) : rGoodTo v it p day v.copies.length = goodOnes v it p day := by
  unfold rGoodTo goodOnes copiesOf
  rw [List.take_length, List.filter_filter]
  congr 2
  funext c
  exact Bool.and_comm _ _
theorem rGoodTo_len (v : Vlt) (it : ByteArray) (p : Pol) (day : Int) (k : Nat) : (rGoodTo v it p day k).length ≤ v.copies.length := by
  unfold rGoodTo
  rw [List.length_map]
  refine Nat.le_trans (List.length_filter_le _ _) ?_
  rw [List.length_take]
  omega
/-! Sets of strings. -/
def addS (l : List ByteArray) (s : ByteArray) : List ByteArray := if s ∈ l then l else l ++ [s]
def uniq (l : List ByteArray) : List ByteArray := l.foldl addS []
theorem addS_in {l : List ByteArray} {s : ByteArray} (h : s ∈ l) : addS l s = l := if_pos h
theorem addS_out {l : List ByteArray} {s : ByteArray} (h : ¬ s ∈ l) : addS l s = l ++ [s] := if_neg h
theorem uniq_snoc (l : List ByteArray) (s : ByteArray) : uniq (l ++ [s]) = addS (uniq l) s := by unfold uniq; rw [List.foldl_append]; rfl
theorem addS_nodup {l : List ByteArray} {s : ByteArray} (h : l.Nodup) : (addS l s).Nodup := by
  by_cases hs : s ∈ l
  · rw [addS_in hs]; exact h
  · rw [addS_out hs, List.nodup_append]
    exact ⟨h, by simp, fun a ha b hb => by rw [List.mem_singleton] at hb; subst hb; exact fun e => hs (e ▸ ha)⟩
theorem foldl_addS_nodup : ∀ (l : List ByteArray) {acc : List ByteArray}, acc.Nodup → (l.foldl addS acc).Nodup
  | [], _, h => h
  | s :: l, _, h => foldl_addS_nodup l (addS_nodup h)
theorem uniq_nodup (l : List ByteArray) : (uniq l).Nodup := foldl_addS_nodup l .nil
theorem addS_len (l : List ByteArray) (s : ByteArray) : (addS l s).length ≤ l.length + 1 := by
  by_cases hs : s ∈ l
  · rw [addS_in hs]; omega
  · rw [addS_out hs, List.length_append]; exact Nat.le_refl _
theorem foldl_addS_len : ∀ (l acc : List ByteArray), (l.foldl addS acc).length ≤ acc.length + l.length
  | [], acc => Nat.le_refl _
  | s :: l, acc => by
    have h1 := foldl_addS_len l (addS acc s)
    have h2 := addS_len acc s
    simp only [List.foldl_cons, List.length_cons]
    omega
theorem uniq_len (l : List ByteArray) : (uniq l).length ≤ l.length := by have := foldl_addS_len l []; unfold uniq; simpa using this
def setM (l : List ByteArray) : List (Value × D) := l.map fun s => (.string s, .v (.bool true))
theorem setM_keys {l : List ByteArray} : ∀ p ∈ setM l, MapKept.IsKey .string p.1 := fun p hp => by
  obtain ⟨s, _, rfl⟩ := List.mem_map.1 hp
  trivial
theorem setM_put {l : List ByteArray} {s : ByteArray} (h : l.Nodup) : MPut (setM l) (.string s) (.v (.bool true)) (setM (addS l s)) := by
  by_cases hs : s ∈ l
  · obtain ⟨i, hi, he⟩ := List.mem_iff_getElem.1 hs
    refine .inl ⟨i, .v (.bool true), ?_, fun j p hj hp => ?_, ?_⟩
    · unfold setM; rw [List.getElem?_map, List.getElem?_eq_getElem hi, he]; rfl
    · unfold setM at hj
      rw [List.getElem?_map] at hj
      cases hjl : l[j]? with
      | none => rw [hjl] at hj; simp at hj
      | some u =>
        rw [hjl] at hj
        have hj := Option.some.inj hj
        rw [← hj] at hp
        have hu : u = s := by simpa using hp
        subst hu
        obtain ⟨hjlt, hje⟩ := List.getElem?_eq_some_iff.1 hjl
        exact (List.getElem_inj h).1 (hje.trans he.symm)
    · rw [addS_in hs]
      unfold setM
      apply List.ext_getElem?
      intro j
      rw [List.getElem?_set]
      by_cases hij : i = j
      · subst hij
        rw [if_pos rfl, List.length_map, if_pos hi, List.getElem?_map, List.getElem?_eq_getElem hi, he]; rfl
      · rw [if_neg hij]
  · refine .inr ⟨fun p hp e => ?_, by rw [addS_out hs]; unfold setM; rw [List.map_append]; rfl⟩
    obtain ⟨u, hu, rfl⟩ := List.mem_map.1 hp
    have : u = s := by simpa using e
    subst this
    exact hs hu
def lackC (p : Pol) (l : List Carr) : Int := max 0 (p.copies - (l.length : Int))
def lackP (p : Pol) (l : List Carr) : Int := max 0 (p.places - ((uniq (l.map Carr.place)).length : Int))
def lackK (p : Pol) (l : List Carr) : Int := max 0 (p.kinds - ((uniq (l.map Carr.kind)).length : Int))
def spreadDs (l : List Carr) : List D := [.v (.int .i64 (l.length : Int)), .v (.int .i64 ((uniq (l.map Carr.place)).length : Int)), .v (.int .i64 ((uniq (l.map Carr.kind)).length : Int))]


set_option maxRecDepth 100000 in
set_option maxHeartbeats 1000000 in
theorem c_old (x : Carr) (p : Pol) (day : Int) (hx : 0 ≤ x.made ∧ x.made ≤ 200000) (hd : 0 ≤ day ∧ day ≤ 200001) : ACall Tryd.prog 48 [.agg x.ds, .agg p.ds, .v (.int .i64 day)] (.v (.bool (oldB p day x))) := by
  refine acall_of (n := 14) (ds' := [.v (.bool (oldB p day x))]) Tryd.func48 rfl (by kernel_rfl) rfl [6] rfl rfl ?_
  intro B w0 F0 fr
  refine AWP.seq (AWP.region ?_)
  refine AOps.step rfl rfl rfl (AOp.box rfl rfl rfl) ?_
  refine AOps.step rfl rfl rfl (AOp.box rfl rfl rfl) ?_
  refine AOps.aD rfl rfl rfl rfl rfl (.nil ?_)
  refine AWP.seq (AWP.region ?_)
  refine AOps.mD rfl rfl rfl rfl rfl ?_
  refine AOps.step rfl rfl rfl (AOp.fieldAddr rfl fo_73_3 rfl) ?_
  refine AOps.step rfl rfl rfl (AOp.load rfl sc_3 rfl) ?_
  refine AOps.step rfl rfl rfl (AOp.sub64 rfl rfl rfl (by omega) (by omega)) ?_
  refine AOps.step rfl rfl rfl (AOp.fieldAddr rfl fo_28_4 rfl) ?_
  refine AOps.step rfl rfl rfl (AOp.load rfl sc_3 rfl) ?_
  refine AOps.step rfl rfl rfl (AOp.gtr rfl rfl rfl) ?_
  refine AOps.aD rfl rfl rfl rfl rfl (.nil ?_)
  refine AWP.ret ?_
  refine ⟨RetD.eq rfl ?_, trivial⟩
  all_goals (rfl)

set_option maxRecDepth 100000 in
set_option maxHeartbeats 1000000 in
theorem c_carrier (v : Vlt) (nm : ByteArray) (h : 0 ≤ carrIdx v nm) : ACall Tryd.prog 49 [.agg v.ds, .v (.string nm)] (.agg (carrAt v nm).ds) := by
  refine acall_ofR (n := 12) (ds' := [.agg (carrAt v nm).ds]) Tryd.func49 rfl (by kernel_rfl) rfl [.cell 4 73] rfl rfl ?_
  intro B w0 F0 fr
  obtain ⟨k, hk, e, _⟩ := idxBy_some h
  rw [carrAt_eq hk e]
  refine AWP.seq (AWP.region ?_)
  refine AOps.step rfl rfl rfl (AOp.box rfl rfl rfl) ?_
  refine AOps.alloc 101 rfl rfl rfl rfl zt_73 rfl rfl rfl (.nil ?_)
  refine AWP.seq ?_
  refine AWP.drawTail 7 (by kernel_rfl) (by kernel_rfl) (by kernel_rfl) ?_
  refine DRun.step rfl rfl rfl (AOp.fieldAddr rfl fo_26_1 rfl) ?_
  refine DRun.step rfl rfl rfl (AOp.load rfl sc_23 rfl) ?_
  refine DRun.step rfl rfl rfl (AOp.loadAgg rfl ag_26 rfl rfl) ?_
  refine DRun.step rfl rfl rfl (AOp.moveD rfl rfl) ?_
  refine DRun.step rfl rfl rfl (AOp.call rfl (.cons (ArgOk.rfl' rfl) (.cons (ArgOk.rfl' rfl) .nil)) (c_carrAt _ _)) ?_
  refine DRun.step rfl rfl rfl (AOp.indexAddr rfl et_23 rfl rfl k e (at_list hk) rfl) ?_
  refine DRun.step rfl rfl rfl (AOp.loadAgg rfl ag_73 rfl rfl) ?_
  refine DRun.nil ?_
  refine AOps.store rfl rfl rfl sz_73 rfl (.head _) rfl rfl rfl (Nat.le_of_ble_eq_true rfl) (.nil ?_)
  refine AWP.ret ?_
  refine ⟨RetR.agg rfl (.head _) ag_73 rfl (.cons (by first | exact CellD.nil | exact CellD.d | exact CellD.eq (by simp) | (refine CellD.own (by first | exact .head _ | exact .tail _ (.head _)) ?_; rfl)) (.cons (by first | exact CellD.nil | exact CellD.d | exact CellD.eq (by simp) | (refine CellD.own (by first | exact .head _ | exact .tail _ (.head _)) ?_; rfl)) (.cons (by first | exact CellD.nil | exact CellD.d | exact CellD.eq (by simp) | (refine CellD.own (by first | exact .head _ | exact .tail _ (.head _)) ?_; rfl)) (.cons (by first | exact CellD.nil | exact CellD.d | exact CellD.eq (by simp) | (refine CellD.own (by first | exact .head _ | exact .tail _ (.head _)) ?_; rfl)) (.cons (by first | exact CellD.nil | exact CellD.d | exact CellD.eq (by simp) | (refine CellD.own (by first | exact .head _ | exact .tail _ (.head _)) ?_; rfl)) .nil))))), trivial⟩
  all_goals (rfl)

set_option maxRecDepth 100000 in
set_option maxHeartbeats 1000000 in
theorem c_copiesOf (v : Vlt) (it : ByteArray) (hn : v.copies.length ≤ 200) : ACall Tryd.prog 46 [.agg v.ds, .v (.string it)] (.sl ((copiesOf v it).map Cpy.ds)) := by
  refine acall_of (n := 25) (ds' := [.sl ((copiesOf v it).map Cpy.ds)]) Tryd.func46 rfl (by kernel_rfl) rfl [4] rfl rfl ?_
  intro B w0 F0 fr
  refine AWP.seq (AWP.region ?_)
  refine AOps.step rfl rfl rfl (AOp.box rfl rfl rfl) ?_
  refine AOps.aD rfl rfl rfl rfl rfl (.nil ?_)
  refine AWP.seq (AWP.region ?_)
  refine AOps.aD rfl rfl rfl rfl rfl (.nil ?_)
  refine AWP.seq ?_
  refine AWP.seq (AWP.region ?_)
  refine AOps.step rfl rfl rfl (AOp.fieldAddr rfl fo_26_2 rfl) ?_
  refine AOps.step rfl rfl rfl (AOp.load rfl sc_24 rfl) ?_
  refine AOps.step rfl rfl rfl (AOp.lenSl rfl et_24.ht rfl) ?_
  refine AOps.mD rfl rfl rfl rfl rfl (.nil ?_)
  refine AWP.block ?_
  refine AWP.adopt 5 1 77 7 rfl rfl ?_
  refine AWP.loop (G := Nat) (fun k => Env.of [(11, .d (.v (.int .i64 (k : Int)))), (9, .d (.sl (v.copies.map Cpy.ds))), (10, .d (.v (.int .i64 ((v.copies.map Cpy.ds).length : Int)))), (1, .d (.v (.string it))), (5, .own 1)]) (fun k => [(1, .row 77 7 ((copiesTo v it k).map Cpy.ds))]) (fun k => k ≤ v.copies.length) (fun k => v.copies.length - k) 0 (Nat.zero_le _) (Sub.less ⟨(SLe.of_eq rfl), SLe.refl _, SLe.refl _, SLe.refl _, SLe.refl _, trivial⟩ (row_same rfl)) ?_
  intro k hk
  refine AWP.seq (AWP.region ?_)
  refine AOps.step rfl rfl rfl (AOp.lss rfl rfl rfl) (.nil ?_)
  refine AWP.seq ?_
  refine AWP.cond rfl (fun h1 => ?_) (fun h1 => ?_)
  · replace h1 := of_decide_eq_true h1
    rw [List.length_map] at h1
    have hlt : k < v.copies.length := by omega
    have hcl := copiesTo_len v it k
    refine AWP.skip ?_
    refine AWP.seq ?_
    refine AWP.block ?_
    refine AWP.seq (AWP.region ?_)
    refine AOps.step rfl rfl rfl (AOp.indexAddr rfl et_24 rfl rfl k rfl (at_list hlt) rfl) ?_
    refine AOps.step rfl rfl rfl (AOp.loadAgg rfl ag_77 rfl rfl) ?_
    refine AOps.alloc 101 rfl rfl rfl rfl zt_77 rfl rfl rfl ?_
    refine AOps.store rfl rfl rfl sz_77 rfl (.head _) rfl rfl rfl (Nat.le_of_ble_eq_true rfl) (.nil ?_)
    refine AWP.seq (AWP.region ?_)
    refine AOps.step rfl rfl rfl (AOp.fieldAddrP rfl fo_77_0 rfl) ?_
    refine AOps.step rfl rfl rfl (AOp.loadP rfl sc_9 rfl (.head _) rfl) ?_
    refine AOps.mD rfl rfl rfl rfl rfl ?_
    refine AOps.step rfl rfl rfl (AOp.seql rfl rfl rfl) (.nil ?_)
    refine AWP.cond rfl (fun h2 => ?_) (fun h2 => ?_)
    · replace h2 := of_decide_eq_true h2
      have HY := copiesTo_yes hlt h2
      refine AWP.region ?_
      refine AOps.step rfl rfl rfl (AOp.moveO rfl rfl) ?_
      refine AOps.step rfl rfl rfl (AOp.loadPU rfl ag_77 rfl (.head _) rfl rfl) ?_
      refine AOps.step rfl rfl rfl (AOp.buildSlice rfl et_24 (.cons rfl rfl rfl .nil) rfl (by decide)) ?_
      -- append 22
      refine AOps.append rfl rfl rfl rfl et_24 rfl (.tail _ (.head _)) rfl (by simp [D.parts]; rfl) (by simp; omega) (by simp; omega) ?_
      refine AOps.step rfl rfl rfl (AOp.assignO rfl rfl) (.nil ?_)
      refine AWP.region ?_
      refine AOps.step rfl rfl rfl (AOp.add64 rfl rfl rfl (by omega) (by omega)) ?_
      refine AOps.mD rfl rfl rfl rfl rfl (.nil ?_)
      refine ⟨k + 1, (by omega), (by dsimp only; omega), Sub.less ⟨(SLe.of_eq rfl), SLe.refl _, SLe.refl _, SLe.refl _, SLe.refl _, trivial⟩ (row_same2 (by rw [HY, List.map_append]; rfl))⟩
    replace h2 := of_decide_eq_false h2
    have HY := copiesTo_no hlt h2
    refine AWP.skip ?_
    refine AWP.region ?_
    refine AOps.step rfl rfl rfl (AOp.add64 rfl rfl rfl (by omega) (by omega)) ?_
    refine AOps.mD rfl rfl rfl rfl rfl (.nil ?_)
    refine ⟨k + 1, (by omega), (by dsimp only; omega), Sub.less ⟨(SLe.of_eq rfl), SLe.refl _, SLe.refl _, SLe.refl _, SLe.refl _, trivial⟩ (row_same2 (by rw [HY]))⟩
  replace h1 := of_decide_eq_false h1
  rw [List.length_map] at h1
  obtain rfl : k = v.copies.length := by omega
  have HE := copiesOf_eq v it
  refine AWP.exit ?_
  refine AWP.seq (AWP.region ?_)
  refine AOps.step rfl rfl rfl (AOp.moveO rfl rfl) ?_
  refine AOps.step rfl rfl rfl (AOp.assignO rfl rfl) (.nil ?_)
  refine AWP.ret ?_
  refine ⟨RetD.own rfl (.head _) ?_, trivial⟩
  all_goals (rw [HE])

end Go.Proofs.YtieccphckobhjaaDoor


namespace Go.Proofs.YtieccphckobhjaaDoor
open Go.RowKit
set_option linter.unusedVariables false

/-! Types. -/
namespace TyL2
theorem ag_26 : AggT Tryd.prog 26 3 := .of (by kernel_rfl)
theorem ag_28 : AggT Tryd.prog 28 6 := .of (by kernel_rfl)
theorem ag_73 : AggT Tryd.prog 73 5 := .of (by kernel_rfl)
theorem ag_77 : AggT Tryd.prog 77 7 := .of (by kernel_rfl)
theorem ag_91 : AggT Tryd.prog 91 3 := .of (by kernel_rfl)
theorem bu_91 : StructT Tryd.prog 91 (fun i => (#[(0, 1), (1, 1), (2, 1)] : Array (Nat × Nat))[i]?) [(.int .i64 0), (.int .i64 0), (.int .i64 0)] := .of (by kernel_rfl) (by kernel_rfl) (by decide)
theorem et_23 : ElemTy Tryd.prog 23 73 5 64 (.agg #[(.string ⟨#[]⟩), (.string ⟨#[]⟩), (.string ⟨#[]⟩), (.int .i64 0), (.int .i64 0)]) := ⟨by kernel_rfl, by kernel_rfl, by kernel_rfl, by decide⟩
theorem et_24 : ElemTy Tryd.prog 24 77 7 96 (.agg #[(.string ⟨#[]⟩), (.string ⟨#[]⟩), (.string ⟨#[]⟩), (.int .i64 0), (.int .i64 0), (.int .i64 0), (.slice none 0 0)]) := ⟨by kernel_rfl, by kernel_rfl, by kernel_rfl, by decide⟩
theorem et_75 : ElemTy Tryd.prog 75 3 1 8 (.int .i64 0) := ⟨by kernel_rfl, by kernel_rfl, by kernel_rfl, by decide⟩
theorem fo_28_0 : fieldOff Tryd.prog 28 0 = some 0 := by kernel_rfl
theorem fo_28_1 : fieldOff Tryd.prog 28 1 = some 1 := by kernel_rfl
theorem fo_28_2 : fieldOff Tryd.prog 28 2 = some 2 := by kernel_rfl
theorem fo_28_5 : fieldOff Tryd.prog 28 5 = some 5 := by kernel_rfl
theorem fo_73_1 : fieldOff Tryd.prog 73 1 = some 1 := by kernel_rfl
theorem fo_73_2 : fieldOff Tryd.prog 73 2 = some 2 := by kernel_rfl
theorem fo_77_1 : fieldOff Tryd.prog 77 1 = some 1 := by kernel_rfl
theorem fo_77_5 : fieldOff Tryd.prog 77 5 = some 5 := by kernel_rfl
theorem fo_77_6 : fieldOff Tryd.prog 77 6 = some 6 := by kernel_rfl
theorem fo_91_0 : fieldOff Tryd.prog 91 0 = some 0 := by kernel_rfl
theorem fo_91_1 : fieldOff Tryd.prog 91 1 = some 1 := by kernel_rfl
theorem fo_91_2 : fieldOff Tryd.prog 91 2 = some 2 := by kernel_rfl
theorem kk_9 : Tryd.prog.underlying 9 = some .string := by kernel_rfl
theorem mt_136 : Tryd.prog.underlying 136 = some (.map 9 4) := by kernel_rfl
theorem sc_3 : Scal Tryd.prog 3 := .of (by kernel_rfl)
theorem sc_75 : Scal Tryd.prog 75 := .of (by kernel_rfl)
theorem sc_9 : Scal Tryd.prog 9 := .of (by kernel_rfl)
theorem sz_73 : ∀ w, (sizeOf 73).run Tryd.prog w = .ok 5 w := SizeT.of (by kernel_rfl)
theorem sz_77 : ∀ w, (sizeOf 77).run Tryd.prog w = .ok 7 w := SizeT.of (by kernel_rfl)
theorem sz_91 : ∀ w, (sizeOf 91).run Tryd.prog w = .ok 3 w := SizeT.of (by kernel_rfl)
theorem zt_73 : (Tryd.prog.info? 73).bind (·.zero) = some (.agg #[(.string ⟨#[]⟩), (.string ⟨#[]⟩), (.string ⟨#[]⟩), (.int .i64 0), (.int .i64 0)]) := by kernel_rfl
theorem zt_77 : (Tryd.prog.info? 77).bind (·.zero) = some (.agg #[(.string ⟨#[]⟩), (.string ⟨#[]⟩), (.string ⟨#[]⟩), (.int .i64 0), (.int .i64 0), (.int .i64 0), (.slice none 0 0)]) := by kernel_rfl
theorem zt_91 : (Tryd.prog.info? 91).bind (·.zero) = some (.agg #[(.int .i64 0), (.int .i64 0), (.int .i64 0)]) := by kernel_rfl
end TyL2
open TyL2


theorem idxBy_mem {α : Type} {p : α → Bool} {l : List α} : 0 ≤ idxBy p l ↔ ∃ x ∈ l, p x = true := by
  constructor
  · intro h
    obtain ⟨k, hk, _, hp⟩ := idxBy_some h
    exact ⟨_, List.getElem_mem hk, hp⟩
  · rintro ⟨x, hx, hp⟩
    unfold idxBy
    rw [if_pos (List.any_eq_true.2 ⟨x, hx, hp⟩)]
    omega
theorem place_next {l : List Carr} {k : Nat} (hk : k < l.length) : uniq ((l.take (k + 1)).map Carr.place) = addS (uniq ((l.take k).map Carr.place)) l[k].place := by rw [take_snoc_map Carr.place hk, uniq_snoc]
theorem kind_next {l : List Carr} {k : Nat} (hk : k < l.length) : uniq ((l.take (k + 1)).map Carr.kind) = addS (uniq ((l.take k).map Carr.kind)) l[k].kind := by rw [take_snoc_map Carr.kind hk, uniq_snoc]
theorem row_map2 {i j k2 : Nat} {A A' B B' : List (Value × D)} {o : Ob} {τ : Obs} (h1 : A = A') (h2 : B = B') : ∀ p ∈ [(i, Ob.map A'), (j, Ob.map B'), (k2, o)], p ∈ (i, Ob.map A) :: (j, Ob.map B) :: (k2, o) :: τ := fun p hp => by
  subst h1; subst h2
  rcases List.mem_cons.1 hp with rfl | hp
  · exact .head _
  · rcases List.mem_cons.1 hp with rfl | hp
    · exact .tail _ (.head _)
    · rw [List.mem_singleton] at hp; subst hp; exact .tail _ (.tail _ (.head _))
theorem uniqP_len (l : List Carr) : (uniq (l.map Carr.place)).length ≤ l.length := by have := uniq_len (l.map Carr.place); simpa using this
theorem uniqK_len (l : List Carr) : (uniq (l.map Carr.kind)).length ≤ l.length := by have := uniq_len (l.map Carr.kind); simpa using this
theorem setM_len (l : List ByteArray) : (setM l).length = l.length := by unfold setM; simp
set_option maxRecDepth 100000 in
set_option maxHeartbeats 1000000 in
theorem c_good (v : Vlt) (c : Cpy) (p : Pol) (day : Int) (vo : VOk v) (hc : 0 ≤ carrIdx v c.carrier) (hd : 0 ≤ day ∧ day ≤ 200000) : ACall Tryd.prog 83 [.agg v.ds, .agg c.ds, .agg p.ds, .v (.int .i64 day)] (.v (.bool (goodB v p day c))) := by
  refine acall_of (n := 30) (ds' := [.v (.bool (goodB v p day c))]) Tryd.func83 rfl (by kernel_rfl) rfl [8] rfl rfl ?_
  intro B w0 F0 fr
  have hcb := vo.carr (carrAt_mem hc)
  refine AWP.seq (AWP.region ?_)
  refine AOps.step rfl rfl rfl (AOp.box rfl rfl rfl) ?_
  refine AOps.step rfl rfl rfl (AOp.box rfl rfl rfl) ?_
  refine AOps.step rfl rfl rfl (AOp.box rfl rfl rfl) ?_
  refine AOps.aD rfl rfl rfl rfl rfl (.nil ?_)
  refine AWP.seq ?_
  refine AWP.draw (by kernel_rfl) (by kernel_rfl) ?_
  refine DRun.step rfl rfl rfl (AOp.fieldAddr rfl fo_77_6 rfl) ?_
  refine DRun.step rfl rfl rfl (AOp.load rfl sc_75 rfl) ?_
  refine DRun.step rfl rfl rfl (AOp.lenSl rfl et_75.ht rfl) ?_
  refine DRun.step rfl rfl rfl (AOp.eql rfl rfl rfl) ?_
  refine DRun.step rfl rfl rfl (AOp.moveD rfl rfl) ?_
  refine DRun.split 13 rfl (fun g1 => ?_) (fun g1 => ?_)
  · replace g1 := of_decide_eq_true g1
    rw [List.length_map] at g1
    have hA := g1
    refine DRun.step ⟨13, rfl, .inl ⟨_, rfl, rfl⟩⟩ rfl rfl (AOp.fieldAddr rfl fo_77_5 rfl) ?_
    refine DRun.step ⟨13, rfl, .inl ⟨_, rfl, rfl⟩⟩ rfl rfl (AOp.load rfl sc_3 rfl) ?_
    refine DRun.step ⟨13, rfl, .inl ⟨_, rfl, rfl⟩⟩ rfl rfl (AOp.fieldAddr rfl fo_28_5 rfl) ?_
    refine DRun.step ⟨13, rfl, .inl ⟨_, rfl, rfl⟩⟩ rfl rfl (AOp.load rfl sc_3 rfl) ?_
    refine DRun.step ⟨13, rfl, .inl ⟨_, rfl, rfl⟩⟩ rfl rfl (AOp.leq rfl rfl rfl) ?_
    refine DRun.step rfl rfl rfl (AOp.pickT rfl rfl rfl) ?_
    refine DRun.step rfl rfl rfl (AOp.moveD rfl rfl) ?_
    refine DRun.split 20 rfl (fun g2 => ?_) (fun g2 => ?_)
    · replace g2 := of_decide_eq_true g2
      have HG : goodB v p day c = !oldB p day (carrAt v c.carrier) := by unfold goodB; rw [decide_eq_true hA, decide_eq_true g2]; rfl
      rw [HG]
      refine DRun.step ⟨20, rfl, .inl ⟨_, rfl, rfl⟩⟩ rfl rfl (AOp.loadAgg rfl ag_26 rfl rfl) ?_
      refine DRun.step ⟨20, rfl, .inl ⟨_, rfl, rfl⟩⟩ rfl rfl (AOp.fieldAddr rfl fo_77_1 rfl) ?_
      refine DRun.step ⟨20, rfl, .inl ⟨_, rfl, rfl⟩⟩ rfl rfl (AOp.load rfl sc_9 rfl) ?_
      refine DRun.step ⟨20, rfl, .inl ⟨_, rfl, rfl⟩⟩ rfl rfl (AOp.call rfl (.cons (ArgOk.rfl' rfl) (.cons (ArgOk.rfl' rfl) .nil)) (c_carrier v _ hc)) ?_
      refine DRun.step ⟨20, rfl, .inl ⟨_, rfl, rfl⟩⟩ rfl rfl (AOp.loadAgg rfl ag_28 rfl rfl) ?_
      refine DRun.step ⟨20, rfl, .inl ⟨_, rfl, rfl⟩⟩ rfl rfl (AOp.moveD rfl rfl) ?_
      refine DRun.step ⟨20, rfl, .inl ⟨_, rfl, rfl⟩⟩ rfl rfl (AOp.call rfl (.cons (ArgOk.rfl' rfl) (.cons (ArgOk.rfl' rfl) (.cons (ArgOk.rfl' rfl) .nil))) (c_old _ p day hcb.2.1 (by omega))) ?_
      refine DRun.step ⟨20, rfl, .inl ⟨_, rfl, rfl⟩⟩ rfl rfl (AOp.not rfl rfl) ?_
      refine DRun.step rfl rfl rfl (AOp.pickT rfl rfl rfl) ?_
      refine DRun.step rfl rfl rfl (AOp.assignD rfl rfl) ?_
      refine DRun.nil ?_
      refine AWP.ret ?_
      refine ⟨RetD.eq rfl ?_, trivial⟩
      all_goals (rfl)
    replace g2 := of_decide_eq_false g2
    have HG : goodB v p day c = false := by unfold goodB; rw [decide_eq_true hA, decide_eq_false g2]; rfl
    rw [HG]
    refine DRun.pass ⟨20, rfl, .inl ⟨_, rfl, rfl⟩⟩ rfl rfl ?_
    refine DRun.pass ⟨20, rfl, .inl ⟨_, rfl, rfl⟩⟩ rfl rfl ?_
    refine DRun.pass ⟨20, rfl, .inl ⟨_, rfl, rfl⟩⟩ rfl rfl ?_
    refine DRun.pass ⟨20, rfl, .inl ⟨_, rfl, rfl⟩⟩ rfl rfl ?_
    refine DRun.pass ⟨20, rfl, .inl ⟨_, rfl, rfl⟩⟩ rfl rfl ?_
    refine DRun.pass ⟨20, rfl, .inl ⟨_, rfl, rfl⟩⟩ rfl rfl ?_
    refine DRun.pass ⟨20, rfl, .inl ⟨_, rfl, rfl⟩⟩ rfl rfl ?_
    refine DRun.pass ⟨20, rfl, .inl ⟨_, rfl, rfl⟩⟩ rfl rfl ?_
    refine DRun.step rfl rfl rfl (AOp.pickF rfl rfl rfl) ?_
    refine DRun.step rfl rfl rfl (AOp.assignD rfl rfl) ?_
    refine DRun.nil ?_
    refine AWP.ret ?_
    refine ⟨RetD.eq rfl ?_, trivial⟩
    all_goals (rfl)
  replace g1 := of_decide_eq_false g1
  rw [List.length_map] at g1
  have HG : goodB v p day c = false := by unfold goodB; rw [decide_eq_false g1]; rfl
  rw [HG]
  refine DRun.pass ⟨13, rfl, .inl ⟨_, rfl, rfl⟩⟩ rfl rfl ?_
  refine DRun.pass ⟨13, rfl, .inl ⟨_, rfl, rfl⟩⟩ rfl rfl ?_
  refine DRun.pass ⟨13, rfl, .inl ⟨_, rfl, rfl⟩⟩ rfl rfl ?_
  refine DRun.pass ⟨13, rfl, .inl ⟨_, rfl, rfl⟩⟩ rfl rfl ?_
  refine DRun.pass ⟨13, rfl, .inl ⟨_, rfl, rfl⟩⟩ rfl rfl ?_
  refine DRun.step rfl rfl rfl (AOp.pickF rfl rfl rfl) ?_
  refine DRun.step rfl rfl rfl (AOp.moveD rfl rfl) ?_
  refine DRun.pass ⟨20, rfl, .inl ⟨_, rfl, rfl⟩⟩ rfl rfl ?_
  refine DRun.pass ⟨20, rfl, .inl ⟨_, rfl, rfl⟩⟩ rfl rfl ?_
  refine DRun.pass ⟨20, rfl, .inl ⟨_, rfl, rfl⟩⟩ rfl rfl ?_
  refine DRun.pass ⟨20, rfl, .inl ⟨_, rfl, rfl⟩⟩ rfl rfl ?_
  refine DRun.pass ⟨20, rfl, .inl ⟨_, rfl, rfl⟩⟩ rfl rfl ?_
  refine DRun.pass ⟨20, rfl, .inl ⟨_, rfl, rfl⟩⟩ rfl rfl ?_
  refine DRun.pass ⟨20, rfl, .inl ⟨_, rfl, rfl⟩⟩ rfl rfl ?_
  refine DRun.pass ⟨20, rfl, .inl ⟨_, rfl, rfl⟩⟩ rfl rfl ?_
  refine DRun.step rfl rfl rfl (AOp.pickF rfl rfl rfl) ?_
  refine DRun.step rfl rfl rfl (AOp.assignD rfl rfl) ?_
  refine DRun.nil ?_
  refine AWP.ret ?_
  refine ⟨RetD.eq rfl ?_, trivial⟩
  all_goals (rfl)

set_option maxRecDepth 100000 in
set_option maxHeartbeats 1000000 in
theorem c_goodOnes (v : Vlt) (it : ByteArray) (p : Pol) (day : Int) (vo : VOk v) (po : POk p) (hd : 0 ≤ day ∧ day ≤ 200000) : ACall Tryd.prog 44 [.agg v.ds, .v (.string it), .agg p.ds, .v (.int .i64 day)] (.sl ((goodOnes v it p day).map Carr.ds)) := by
  refine acall_of (n := 34) (ds' := [.sl ((goodOnes v it p day).map Carr.ds)]) Tryd.func44 rfl (by kernel_rfl) rfl [8] rfl rfl ?_
  intro B w0 F0 fr
  have hnp := vo.np
  have hol := copiesOf_len v it
  refine AWP.seq (AWP.region ?_)
  refine AOps.step rfl rfl rfl (AOp.box rfl rfl rfl) ?_
  refine AOps.step rfl rfl rfl (AOp.box rfl rfl rfl) ?_
  refine AOps.aD rfl rfl rfl rfl rfl (.nil ?_)
  refine AWP.seq (AWP.region ?_)
  refine AOps.aD rfl rfl rfl rfl rfl (.nil ?_)
  refine AWP.seq ?_
  refine AWP.seq (AWP.region ?_)
  refine AOps.step rfl rfl rfl (AOp.loadAgg rfl ag_26 rfl rfl) ?_
  refine AOps.mD rfl rfl rfl rfl rfl ?_
  refine AOps.step rfl rfl rfl (AOp.call rfl (.cons (ArgOk.rfl' rfl) (.cons (ArgOk.rfl' rfl) .nil)) (c_copiesOf v it vo.np)) ?_
  refine AOps.step rfl rfl rfl (AOp.lenSl rfl et_24.ht rfl) ?_
  refine AOps.mD rfl rfl rfl rfl rfl (.nil ?_)
  refine AWP.block ?_
  refine AWP.adopt 9 1 73 5 rfl rfl ?_
  refine AWP.loop (G := Nat) (fun k => Env.of [(16, .d (.v (.int .i64 (k : Int)))), (14, .d (.sl ((copiesOf v it).map Cpy.ds))), (15, .d (.v (.int .i64 (((copiesOf v it).map Cpy.ds).length : Int)))), (4, .d (.fp v.ds)), (6, .d (.fp p.ds)), (3, .d (.v (.int .i64 day))), (9, .own 1)]) (fun k => [(1, .row 73 5 ((goodTo v it p day k).map Carr.ds))]) (fun k => k ≤ (copiesOf v it).length) (fun k => (copiesOf v it).length - k) 0 (Nat.zero_le _) (Sub.less ⟨(SLe.of_eq rfl), SLe.refl _, SLe.refl _, SLe.refl _, SLe.refl _, SLe.refl _, SLe.refl _, trivial⟩ (row_same rfl)) ?_
  intro k hk
  refine AWP.seq (AWP.region ?_)
  refine AOps.step rfl rfl rfl (AOp.lss rfl rfl rfl) (.nil ?_)
  refine AWP.seq ?_
  refine AWP.cond rfl (fun h1 => ?_) (fun h1 => ?_)
  · replace h1 := of_decide_eq_true h1
    rw [List.length_map] at h1
    have hlt : k < (copiesOf v it).length := by omega
    have hcl := goodTo_len v it p day k
    have hco := vo.cpy _ (copiesOf_mem (List.getElem_mem hlt)).1
    refine AWP.skip ?_
    refine AWP.seq ?_
    refine AWP.block ?_
    refine AWP.seq (AWP.region ?_)
    refine AOps.step rfl rfl rfl (AOp.indexAddr rfl et_24 rfl rfl k rfl (at_list hlt) rfl) ?_
    refine AOps.step rfl rfl rfl (AOp.loadAgg rfl ag_77 rfl rfl) ?_
    refine AOps.alloc 101 rfl rfl rfl rfl zt_77 rfl rfl rfl ?_
    refine AOps.store rfl rfl rfl sz_77 rfl (.head _) rfl rfl rfl (Nat.le_of_ble_eq_true rfl) ?_
    refine AOps.freezeCells 11 (ds := (copiesOf v it)[k].ds) rfl (.head _) (.nil ?_)
    refine AWP.seq (AWP.region ?_)
    refine AOps.step rfl rfl rfl (AOp.loadAgg rfl ag_26 rfl rfl) ?_
    refine AOps.step rfl rfl rfl (AOp.loadAgg rfl ag_77 rfl rfl) ?_
    refine AOps.step rfl rfl rfl (AOp.loadAgg rfl ag_28 rfl rfl) ?_
    refine AOps.mD rfl rfl rfl rfl rfl ?_
    refine AOps.step rfl rfl rfl (AOp.call rfl (.cons (ArgOk.rfl' rfl) (.cons (ArgOk.rfl' rfl) (.cons (ArgOk.rfl' rfl) (.cons (ArgOk.rfl' rfl) .nil)))) (c_good v _ p day vo hco.carr hd)) (.nil ?_)
    refine AWP.cond rfl (fun h2 => ?_) (fun h2 => ?_)
    · skip
      have HY := goodTo_yes hlt h2
      refine AWP.region ?_
      refine AOps.step rfl rfl rfl (AOp.moveO rfl rfl) ?_
      refine AOps.step rfl rfl rfl (AOp.loadAgg rfl ag_26 rfl rfl) ?_
      refine AOps.step rfl rfl rfl (AOp.fieldAddr rfl fo_77_1 rfl) ?_
      refine AOps.step rfl rfl rfl (AOp.load rfl sc_9 rfl) ?_
      refine AOps.step rfl rfl rfl (AOp.call rfl (.cons (ArgOk.rfl' rfl) (.cons (ArgOk.rfl' rfl) .nil)) (c_carrier v _ hco.carr)) ?_
      refine AOps.step rfl rfl rfl (AOp.buildSlice rfl et_23 (.cons rfl rfl rfl .nil) rfl (by decide)) ?_
      -- append 31
      refine AOps.append rfl rfl rfl rfl et_23 rfl (.head _) rfl (by simp [D.parts]; rfl) (by simp; omega) (by simp; omega) ?_
      refine AOps.step rfl rfl rfl (AOp.assignO rfl rfl) (.nil ?_)
      refine AWP.region ?_
      refine AOps.step rfl rfl rfl (AOp.add64 rfl rfl rfl (by omega) (by omega)) ?_
      refine AOps.mD rfl rfl rfl rfl rfl (.nil ?_)
      refine ⟨k + 1, (by omega), (by dsimp only; omega), Sub.less ⟨(SLe.of_eq rfl), SLe.refl _, SLe.refl _, SLe.refl _, SLe.refl _, SLe.refl _, SLe.refl _, trivial⟩ (row_same (by rw [HY, List.map_append]; rfl))⟩
    have HY := goodTo_no hlt h2
    refine AWP.skip ?_
    refine AWP.region ?_
    refine AOps.step rfl rfl rfl (AOp.add64 rfl rfl rfl (by omega) (by omega)) ?_
    refine AOps.mD rfl rfl rfl rfl rfl (.nil ?_)
    refine ⟨k + 1, (by omega), (by dsimp only; omega), Sub.less ⟨(SLe.of_eq rfl), SLe.refl _, SLe.refl _, SLe.refl _, SLe.refl _, SLe.refl _, SLe.refl _, trivial⟩ (row_same (by rw [HY]))⟩
  replace h1 := of_decide_eq_false h1
  rw [List.length_map] at h1
  obtain rfl : k = (copiesOf v it).length := by omega
  have HE := goodTo_all v it p day
  refine AWP.exit ?_
  refine AWP.seq (AWP.region ?_)
  refine AOps.step rfl rfl rfl (AOp.moveO rfl rfl) ?_
  refine AOps.step rfl rfl rfl (AOp.assignO rfl rfl) (.nil ?_)
  refine AWP.ret ?_
  refine ⟨RetD.own rfl (.head _) ?_, trivial⟩
  all_goals (rw [HE])

set_option maxRecDepth 100000 in
set_option maxHeartbeats 1000000 in
theorem c_spreadOf (l : List Carr) (hl : l.length ≤ 1000) : ACall Tryd.prog 43 [.sl (l.map Carr.ds)] (.agg (spreadDs l)) := by
  refine acall_ofR (n := 29) (ds' := [.agg (spreadDs l)]) Tryd.func43 rfl (by kernel_rfl) rfl [.cell 2 91] rfl rfl ?_
  intro B w0 F0 fr
  refine AWP.seq (AWP.region ?_)
  refine AOps.alloc 101 rfl rfl rfl rfl zt_91 rfl rfl rfl (.nil ?_)
  refine AWP.seq (AWP.region ?_)
  refine AOps.makeMap 102 rfl rfl rfl rfl rfl ?_
  refine AOps.makeMap 103 rfl rfl rfl rfl rfl ?_
  refine AOps.step rfl rfl rfl (AOp.assignO rfl rfl) ?_
  refine AOps.step rfl rfl rfl (AOp.assignO rfl rfl) (.nil ?_)
  refine AWP.seq ?_
  refine AWP.seq (AWP.region ?_)
  refine AOps.mD rfl rfl rfl rfl rfl ?_
  refine AOps.step rfl rfl rfl (AOp.lenSl rfl et_23.ht rfl) ?_
  refine AOps.mD rfl rfl rfl rfl rfl (.nil ?_)
  refine AWP.block ?_
  refine AWP.loop (G := Nat) (fun k => Env.of [(11, .d (.v (.int .i64 (k : Int)))), (9, .d (.sl (l.map Carr.ds))), (10, .d (.v (.int .i64 ((l.map Carr.ds).length : Int)))), (0, .d (.sl (l.map Carr.ds))), (3, .own 102), (4, .own 103), (2, .ptr 101 0)]) (fun k => [(103, .map (setM (uniq ((l.take k).map Carr.kind)))), (102, .map (setM (uniq ((l.take k).map Carr.place)))), (101, .cells [.d (.v (.int .i64 0)), .d (.v (.int .i64 0)), .d (.v (.int .i64 0))])]) (fun k => k ≤ l.length) (fun k => l.length - k) 0 (Nat.zero_le _) (Sub.less ⟨(SLe.of_eq rfl), SLe.refl _, SLe.refl _, SLe.refl _, SLe.refl _, SLe.refl _, SLe.refl _, trivial⟩ (fun _ h => h)) ?_
  intro k hk
  refine AWP.seq (AWP.region ?_)
  refine AOps.step rfl rfl rfl (AOp.lss rfl rfl rfl) (.nil ?_)
  refine AWP.seq ?_
  refine AWP.cond rfl (fun h1 => ?_) (fun h1 => ?_)
  · replace h1 := of_decide_eq_true h1
    rw [List.length_map] at h1
    have hlt : k < l.length := by omega
    have hP := place_next hlt
    have hK := kind_next hlt
    refine AWP.skip ?_
    refine AWP.seq ?_
    refine AWP.block ?_
    refine AWP.seq (AWP.region ?_)
    refine AOps.step rfl rfl rfl (AOp.indexAddr rfl et_23 rfl rfl k rfl (at_list hlt) rfl) ?_
    refine AOps.step rfl rfl rfl (AOp.loadAgg rfl ag_73 rfl rfl) ?_
    refine AOps.alloc 104 rfl rfl rfl rfl zt_73 rfl rfl rfl ?_
    refine AOps.store rfl rfl rfl sz_73 rfl (.head _) rfl rfl rfl (Nat.le_of_ble_eq_true rfl) ?_
    refine AOps.freezeCells 6 (ds := l[k].ds) rfl (.head _) (.nil ?_)
    refine AWP.drawG (fun k => (Nat.beq k 6 || Nat.beq k 7) || (false)) (fun k => Nat.beq k 6 || Nat.beq k 7) (fun k h => Bool.or_eq_true_iff.2 (.inl h)) (by kernel_rfl) (by kernel_rfl) (by kernel_rfl) ?_
    refine GRun.step rfl rfl rfl (fun _ => AOp.moveO rfl rfl) ?_
    refine GRun.step rfl rfl rfl (fun _ => AOp.fieldAddr rfl fo_73_1 rfl) ?_
    refine GRun.step rfl rfl rfl (fun _ => AOp.load rfl sc_9 rfl) ?_
    refine GRun.step rfl rfl rfl (fun _ => AOp.moveO rfl rfl) ?_
    refine GRun.step rfl rfl rfl (fun _ => AOp.fieldAddr rfl fo_73_2 rfl) ?_
    refine GRun.step rfl rfl rfl (fun _ => AOp.load rfl sc_9 rfl) ?_
    refine GRun.eff rfl rfl rfl (EOp.mapUpdate rfl rfl mt_136 kk_9 rfl (.tail _ (.head _)) rfl rfl trivial setM_keys (setM_put (s := l[k].place) (uniq_nodup _))) ?_
    refine GRun.eff rfl rfl rfl (EOp.mapUpdate rfl rfl mt_136 kk_9 rfl (.head _) rfl rfl trivial setM_keys (setM_put (s := l[k].kind) (uniq_nodup _))) ?_
    refine GRun.nil ?_
    refine AWP.region ?_
    refine AOps.step rfl rfl rfl (AOp.add64 rfl rfl rfl (by omega) (by omega)) ?_
    refine AOps.mD rfl rfl rfl rfl rfl (.nil ?_)
    refine ⟨k + 1, (by omega), (by dsimp only; omega), Sub.less ⟨(SLe.of_eq rfl), SLe.refl _, SLe.refl _, SLe.refl _, SLe.refl _, SLe.refl _, SLe.refl _, trivial⟩ (row_map2 (by rw [hK]) (by rw [hP]))⟩
  replace h1 := of_decide_eq_false h1
  rw [List.length_map] at h1
  obtain rfl : k = l.length := by omega
  rw [List.take_length]
  refine AWP.exit ?_
  refine AWP.seq (AWP.region ?_)
  refine AOps.mD rfl rfl rfl rfl rfl ?_
  refine AOps.step rfl rfl rfl (AOp.lenSl rfl et_23.ht rfl) ?_
  refine AOps.step rfl rfl rfl (AOp.moveO rfl rfl) ?_
  refine AOps.step rfl rfl rfl (AOp.lenMap rfl mt_136 rfl (.tail _ (.head _))) ?_
  refine AOps.step rfl rfl rfl (AOp.moveO rfl rfl) ?_
  refine AOps.step rfl rfl rfl (AOp.lenMap rfl mt_136 rfl (.head _)) ?_
  refine AOps.step rfl rfl rfl (AOp.build rfl bu_91 (.cons rfl rfl (.cons rfl rfl (.cons rfl rfl .nil))) rfl) ?_
  refine AOps.store rfl rfl rfl sz_91 rfl (.tail _ (.tail _ (.head _))) rfl rfl rfl (Nat.le_of_ble_eq_true rfl) (.nil ?_)
  refine AWP.ret ?_
  refine ⟨RetR.agg rfl (.tail _ (.tail _ (.head _))) ag_91 rfl (.cons (by first | exact CellD.nil | exact CellD.d | exact CellD.eq (by first | (simp; done) | simp [setM_len]) | (refine CellD.own (by first | exact .head _ | exact .tail _ (.head _)) ?_; rfl)) (.cons (by first | exact CellD.nil | exact CellD.d | exact CellD.eq (by first | (simp; done) | simp [setM_len]) | (refine CellD.own (by first | exact .head _ | exact .tail _ (.head _)) ?_; rfl)) (.cons (by first | exact CellD.nil | exact CellD.d | exact CellD.eq (by first | (simp; done) | simp [setM_len]) | (refine CellD.own (by first | exact .head _ | exact .tail _ (.head _)) ?_; rfl)) .nil))), trivial⟩
  all_goals (rfl)

set_option maxRecDepth 100000 in
set_option maxHeartbeats 1000000 in
theorem c_lacking (l : List Carr) (p : Pol) (po : POk p) (hl : l.length ≤ 1000) : ACall Tryd.prog 45 [.agg (spreadDs l), .agg p.ds] (.tup [.v (.int .i64 (lackC p l)), .v (.int .i64 (lackP p l)), .v (.int .i64 (lackK p l))]) := by
  refine acall_of (n := 25) (ds' := [.v (.int .i64 (lackC p l)), .v (.int .i64 (lackP p l)), .v (.int .i64 (lackK p l))]) Tryd.func45 rfl (by kernel_rfl) rfl [4, 5, 6] rfl rfl ?_
  intro B w0 F0 fr
  have h1 := po.copies
  have h2 := po.places
  have h3 := po.kinds
  have h4 := uniqP_len l
  have h5 := uniqK_len l
  refine AWP.seq (AWP.region ?_)
  refine AOps.step rfl rfl rfl (AOp.box rfl rfl rfl) ?_
  refine AOps.step rfl rfl rfl (AOp.box rfl rfl rfl) ?_
  refine AOps.aD rfl rfl rfl rfl rfl ?_
  refine AOps.aD rfl rfl rfl rfl rfl ?_
  refine AOps.aD rfl rfl rfl rfl rfl (.nil ?_)
  refine AWP.seq ?_
  refine AWP.draw (by kernel_rfl) (by kernel_rfl) ?_
  refine DRun.step rfl rfl rfl (AOp.fieldAddr rfl fo_28_0 rfl) ?_
  refine DRun.step rfl rfl rfl (AOp.load rfl sc_3 rfl) ?_
  refine DRun.step rfl rfl rfl (AOp.fieldAddr rfl fo_91_0 rfl) ?_
  refine DRun.step rfl rfl rfl (AOp.load rfl sc_3 rfl) ?_
  refine DRun.step rfl rfl rfl (AOp.sub64 rfl rfl rfl (by omega) (by omega)) ?_
  refine DRun.step rfl rfl rfl (AOp.max rfl rfl rfl) ?_
  refine DRun.step rfl rfl rfl (AOp.fieldAddr rfl fo_28_1 rfl) ?_
  refine DRun.step rfl rfl rfl (AOp.load rfl sc_3 rfl) ?_
  refine DRun.step rfl rfl rfl (AOp.fieldAddr rfl fo_91_1 rfl) ?_
  refine DRun.step rfl rfl rfl (AOp.load rfl sc_3 rfl) ?_
  refine DRun.step rfl rfl rfl (AOp.sub64 rfl rfl rfl (by omega) (by omega)) ?_
  refine DRun.step rfl rfl rfl (AOp.max rfl rfl rfl) ?_
  refine DRun.step rfl rfl rfl (AOp.fieldAddr rfl fo_28_2 rfl) ?_
  refine DRun.step rfl rfl rfl (AOp.load rfl sc_3 rfl) ?_
  refine DRun.step rfl rfl rfl (AOp.fieldAddr rfl fo_91_2 rfl) ?_
  refine DRun.step rfl rfl rfl (AOp.load rfl sc_3 rfl) ?_
  refine DRun.step rfl rfl rfl (AOp.sub64 rfl rfl rfl (by omega) (by omega)) ?_
  refine DRun.step rfl rfl rfl (AOp.max rfl rfl rfl) ?_
  refine DRun.step rfl rfl rfl (AOp.assignD rfl rfl) ?_
  refine DRun.step rfl rfl rfl (AOp.assignD rfl rfl) ?_
  refine DRun.step rfl rfl rfl (AOp.assignD rfl rfl) ?_
  refine DRun.nil ?_
  refine AWP.ret ?_
  refine ⟨RetD.eq rfl ?_, RetD.eq rfl ?_, RetD.eq rfl ?_, trivial⟩
  all_goals (rfl)

end Go.Proofs.YtieccphckobhjaaDoor


namespace Go.Proofs.YtieccphckobhjaaDoor
open Go.RowKit
set_option linter.unusedVariables false

/-! Types. -/
namespace TyL3
theorem ag_26 : AggT Tryd.prog 26 3 := .of (by kernel_rfl)
theorem ag_28 : AggT Tryd.prog 28 6 := .of (by kernel_rfl)
theorem bu_39 : StructT Tryd.prog 39 (fun i => (#[(0, 1), (1, 1), (2, 1), (3, 1)] : Array (Nat × Nat))[i]?) [(.string ⟨#[]⟩), (.string ⟨#[]⟩), (.int .i64 0), (.int .i64 0)] := .of (by kernel_rfl) (by kernel_rfl) (by decide)
theorem et_34 : ElemTy Tryd.prog 34 39 4 48 (.agg #[(.string ⟨#[]⟩), (.string ⟨#[]⟩), (.int .i64 0), (.int .i64 0)]) := ⟨by kernel_rfl, by kernel_rfl, by kernel_rfl, by decide⟩
theorem fo_69_0 : fieldOff Tryd.prog 69 0 = some 0 := by kernel_rfl
theorem fo_77_1 : fieldOff Tryd.prog 77 1 = some 1 := by kernel_rfl
theorem sc_34 : Scal Tryd.prog 34 := .of (by kernel_rfl)
theorem sc_9 : Scal Tryd.prog 9 := .of (by kernel_rfl)
theorem sz_34 : ∀ w, (sizeOf 34).run Tryd.prog w = .ok 1 w := SizeT.of (by kernel_rfl)
end TyL3
open TyL3


def addL (E : List Lck) (b : Bool) (y : Lck) : List Lck := if b = true then E ++ [y] else E
theorem addL_t {E : List Lck} {b : Bool} {y : Lck} (h : b = true) : addL E b y = E ++ [y] := if_pos h
theorem addL_f {E : List Lck} {b : Bool} {y : Lck} (h : b = false) : addL E b y = E := if_neg (by rw [h]; simp)
theorem addL_app (E F : List Lck) (b : Bool) (y : Lck) : addL (E ++ F) b y = E ++ addL F b y := by
  unfold addL; split
  · rw [List.append_assoc]
  · rfl
theorem addL_len (E : List Lck) (b : Bool) (y : Lck) : (addL E b y).length ≤ E.length + 1 := by
  unfold addL; split
  · rw [List.length_append]; exact Nat.le_refl _
  · omega
def lackCpy (v : Vlt) (p : Pol) (day : Int) (c : Cpy) : List Lck :=
  addL (addL (addL (addL [] (decide ((c.bad.length : Int) > 0)) ⟨c.item, c.carrier, 4, (c.bad.length : Int)⟩) (oldB p day (carrAt v c.carrier)) ⟨c.item, c.carrier, 5, 0⟩) (decide (c.gen > p.gens)) ⟨c.item, c.carrier, 6, 0⟩) (decide (day - c.last > p.every)) ⟨c.item, c.carrier, 7, 0⟩
theorem lackCpy_len (v : Vlt) (p : Pol) (day : Int) (c : Cpy) : (lackCpy v p day c).length ≤ 4 := by
  unfold lackCpy
  have h := addL_len
  refine Nat.le_trans (h _ _ _) (Nat.succ_le_succ (Nat.le_trans (h _ _ _) (Nat.succ_le_succ (Nat.le_trans (h _ _ _) (Nat.succ_le_succ (Nat.le_trans (h _ _ _) (Nat.succ_le_succ (Nat.le_refl 0))))))))
theorem lack_app (v : Vlt) (p : Pol) (day : Int) (c : Cpy) (E : List Lck) : addL (addL (addL (addL E (decide ((c.bad.length : Int) > 0)) ⟨c.item, c.carrier, 4, (c.bad.length : Int)⟩) (oldB p day (carrAt v c.carrier)) ⟨c.item, c.carrier, 5, 0⟩) (decide (c.gen > p.gens)) ⟨c.item, c.carrier, 6, 0⟩) (decide (day - c.last > p.every)) ⟨c.item, c.carrier, 7, 0⟩ = E ++ lackCpy v p day c := by
  unfold lackCpy
  rw [← addL_app, ← addL_app, ← addL_app, ← addL_app, List.append_nil]
theorem flat_snoc {α β : Type} (f : α → List β) {l : List α} {k : Nat} (hk : k < l.length) : (l.take (k + 1)).flatMap f = (l.take k).flatMap f ++ f l[k] := by
  rw [List.take_add_one, List.getElem?_eq_getElem hk, Option.toList_some, List.flatMap_append, List.flatMap_cons, List.flatMap_nil, List.append_nil]
theorem flat_len {α β : Type} {f : α → List β} {b : Nat} (h : ∀ x, (f x).length ≤ b) : ∀ l : List α, (l.flatMap f).length ≤ b * l.length
  | [] => by simp
  | x :: l => by
    have := flat_len h l
    have h2 := h x
    rw [List.flatMap_cons, List.length_append, List.length_cons, Nat.mul_succ]
    omega
def cpyTo (v : Vlt) (p : Pol) (day : Int) (it : ByteArray) (k : Nat) : List Lck := ((copiesOf v it).take k).flatMap (lackCpy v p day)
def cpyAll (v : Vlt) (p : Pol) (day : Int) (it : ByteArray) : List Lck := (copiesOf v it).flatMap (lackCpy v p day)
def rCpyTo (v : Vlt) (p : Pol) (day : Int) (it : ByteArray) (k : Nat) : List Lck := (v.copies.take k).flatMap fun c => if c.item = it then lackCpy v p day c else []
theorem cpyTo_all (v : Vlt) (p : Pol) (day : Int) (it : ByteArray) : cpyTo v p day it (copiesOf v it).length = cpyAll v p day it := by unfold cpyTo cpyAll; rw [List.take_length]
theorem cpyTo_len (v : Vlt) (p : Pol) (day : Int) (it : ByteArray) (k : Nat) : (cpyTo v p day it k).length ≤ 4 * v.copies.length := by
  have h1 := flat_len (lackCpy_len v p day) ((copiesOf v it).take k)
  have h2 := copiesOf_len v it
  rw [List.length_take] at h1
  unfold cpyTo
  have : 4 * min k (copiesOf v it).length ≤ 4 * v.copies.length := Nat.mul_le_mul_left _ (by omega)
  omega
theorem cpyAll_len (v : Vlt) (p : Pol) (day : Int) (it : ByteArray) : (cpyAll v p day it).length ≤ 4 * v.copies.length := by rw [← cpyTo_all]; exact cpyTo_len _ _ _ _ _
def numsOf (p : Pol) (l : List Carr) : List Int := [lackC p l, lackP p l, lackK p l]
def headE (nm : ByteArray) (x : Int × Nat) : List Lck := if x.1 > 0 then [⟨nm, ⟨#[]⟩, 1 + (x.2 : Int), x.1⟩] else []
theorem headE_len (nm : ByteArray) (x : Int × Nat) : (headE nm x).length ≤ 1 := by unfold headE; split <;> simp
def headTo (nm : ByteArray) (l : List Int) (k : Nat) : List Lck := (l.zipIdx.take k).flatMap (headE nm)
theorem headTo_len (nm : ByteArray) (l : List Int) (k : Nat) : (headTo nm l k).length ≤ k := by
  have h1 := flat_len (headE_len nm) (l.zipIdx.take k)
  rw [List.length_take] at h1
  unfold headTo; omega
theorem headTo_yes {nm : ByteArray} {l : List Int} {k : Nat} (hk : k < l.length) (h : l[k] > 0) : headTo nm l (k + 1) = headTo nm l k ++ [⟨nm, ⟨#[]⟩, 1 + (k : Int), l[k]⟩] := by
  unfold headTo
  rw [flat_snoc _ (by rw [List.length_zipIdx]; exact hk), List.getElem_zipIdx]
  unfold headE
  simp only [Nat.zero_add]
  rw [if_pos h]
theorem headTo_no {nm : ByteArray} {l : List Int} {k : Nat} (hk : k < l.length) (h : ¬ l[k] > 0) : headTo nm l (k + 1) = headTo nm l k := by
  unfold headTo
  rw [flat_snoc _ (by rw [List.length_zipIdx]; exact hk), List.getElem_zipIdx]
  unfold headE
  simp only [Nat.zero_add]
  rw [if_neg h, List.append_nil]
def itemL (v : Vlt) (p : Pol) (day : Int) (x : Item) : List Lck := headTo x.name (numsOf p (goodOnes v x.name p day)) 3 ++ cpyAll v p day x.name
def itemsTo (v : Vlt) (p : Pol) (day : Int) (k : Nat) : List Lck := (v.items.take k).flatMap (itemL v p day)
theorem itemsTo_next {v : Vlt} {p : Pol} {day : Int} {k : Nat} (hk : k < v.items.length) : itemsTo v p day (k + 1) = itemsTo v p day k ++ (headTo v.items[k].name (numsOf p (goodOnes v v.items[k].name p day)) 3 ++ cpyAll v p day v.items[k].name) := flat_snoc _ hk
theorem itemL_len {v : Vlt} (hn : v.copies.length ≤ 200) (p : Pol) (day : Int) (x : Item) : (itemL v p day x).length ≤ 803 := by
  unfold itemL
  rw [List.length_append]
  have h1 := headTo_len x.name (numsOf p (goodOnes v x.name p day)) 3
  have h2 := cpyAll_len v p day x.name
  omega
theorem itemsTo_len {v : Vlt} (hn : v.copies.length ≤ 200) (hi : v.items.length ≤ 30) (p : Pol) (day : Int) (k : Nat) : (itemsTo v p day k).length ≤ 24090 := by
  have h1 := flat_len (itemL_len hn p day) (v.items.take k)
  rw [List.length_take] at h1
  unfold itemsTo
  omega
def lacksR (v : Vlt) (p : Pol) (day : Int) : List Lck := if dayFault v p day = 0 then itemsTo v p day v.items.length else []
theorem lacksR_ok {v : Vlt} {p : Pol} {day : Int} (h : dayFault v p day = 0) : lacksR v p day = itemsTo v p day v.items.length := if_pos h
theorem lacksR_bad {v : Vlt} {p : Pol} {day : Int} (h : dayFault v p day ≠ 0) : lacksR v p day = [] := if_neg h
theorem day_ok {v : Vlt} {p : Pol} {day : Int} (h : dayFault v p day = 0) : bothFault v p = 0 ∧ 0 ≤ day ∧ day ≤ 200000 := by
  unfold dayFault at h
  by_cases h1 : bothFault v p ≠ 0
  · rw [if_pos h1] at h; exact absurd h h1
  · rw [if_neg h1] at h
    by_cases h2 : 0 ≤ day ∧ day ≤ 200000
    · exact ⟨Decidable.not_not.1 h1, h2⟩
    · rw [if_neg h2] at h; simp at h
theorem row_cell2 {c id e size : Nat} {o : Ob} {els els' : List (List D)} {τ : Obs} (h : els = els') : ∀ p ∈ [(id, Ob.row e size els'), (c, o)], p ∈ (id, Ob.row e size els) :: (c, o) :: τ := fun p hp => by
  subst h
  rcases List.mem_cons.1 hp with rfl | hp
  · exact .head _
  · rw [List.mem_singleton] at hp; subst hp; exact .tail _ (.head _)


set_option maxRecDepth 100000 in
set_option maxHeartbeats 1000000 in
theorem c_pDayF (v : Vlt) (p : Pol) (day : Int) (hs : smallV v) : ACall Tryd.prog 42 [.agg v.ds, .agg p.ds, .v (.int .i64 day)] (.v (.int .i64 (dayFault v p day))) := by
  refine acall_of (n := 17) (ds' := [.v (.int .i64 (dayFault v p day))]) Tryd.func42 rfl (by kernel_rfl) rfl [6] rfl rfl ?_
  intro B w0 F0 fr
  refine AWP.seq (AWP.region ?_)
  refine AOps.step rfl rfl rfl (AOp.box rfl rfl rfl) ?_
  refine AOps.step rfl rfl rfl (AOp.box rfl rfl rfl) ?_
  refine AOps.aD rfl rfl rfl rfl rfl (.nil ?_)
  refine AWP.seq ?_
  refine AWP.seq (AWP.region ?_)
  refine AOps.step rfl rfl rfl (AOp.loadAgg rfl ag_26 rfl rfl) ?_
  refine AOps.step rfl rfl rfl (AOp.loadAgg rfl ag_28 rfl rfl) ?_
  refine AOps.step rfl rfl rfl (AOp.call rfl (.cons (ArgOk.rfl' rfl) (.cons (ArgOk.rfl' rfl) .nil)) (c_pBoth v p hs)) ?_
  refine AOps.aD rfl rfl rfl rfl rfl (.nil ?_)
  refine AWP.seq (AWP.region ?_)
  refine AOps.mD rfl rfl rfl rfl rfl ?_
  refine AOps.step rfl rfl rfl (AOp.neq rfl rfl rfl) (.nil ?_)
  refine AWP.cond rfl (fun h1 => ?_) (fun h1 => ?_)
  · replace h1 := of_decide_eq_true h1
    have HR : dayFault v p day = bothFault v p := if_pos h1
    rw [HR]
    refine AWP.seq (AWP.region ?_)
    refine AOps.mD rfl rfl rfl rfl rfl ?_
    refine AOps.aD rfl rfl rfl rfl rfl (.nil ?_)
    refine AWP.ret ?_
    refine ⟨RetD.eq rfl ?_, trivial⟩
    all_goals (rfl)
  replace h1 := of_decide_eq_false h1
  have hb := h1
  refine AWP.skip ?_
  refine AWP.seq ?_
  refine AWP.seq (AWP.region ?_)
  refine AOps.mD rfl rfl rfl rfl rfl ?_
  refine AOps.step rfl rfl rfl (AOp.call rfl (.cons (ArgOk.rfl' rfl) .nil) (c_pDay _)) ?_
  refine AOps.step rfl rfl rfl (AOp.not rfl rfl) (.nil ?_)
  refine AWP.cond rfl (fun h2 => ?_) (fun h2 => ?_)
  · replace h2 := bnot_t h2; replace h2 := of_decide_eq_false h2
    have HR : dayFault v p day = 1 := (if_neg hb).trans (if_neg h2)
    rw [HR]
    refine AWP.seq (AWP.region ?_)
    refine AOps.aD rfl rfl rfl rfl rfl (.nil ?_)
    refine AWP.ret ?_
    refine ⟨RetD.eq rfl ?_, trivial⟩
    all_goals (rfl)
  replace h2 := bnot_f h2; replace h2 := of_decide_eq_true h2
  have HR : dayFault v p day = 0 := (if_neg hb).trans (if_pos h2)
  rw [HR]
  refine AWP.skip ?_
  refine AWP.seq (AWP.region ?_)
  refine AOps.aD rfl rfl rfl rfl rfl (.nil ?_)
  refine AWP.ret ?_
  refine ⟨RetD.eq rfl ?_, trivial⟩
  all_goals (rfl)

set_option maxRecDepth 100000 in
set_option maxHeartbeats 1000000 in
theorem c_add (x : Item) (c : Cpy) (yes : Bool) (what many : Int) (E : List Lck) (hE : E.length ≤ 100000) : XCall Tryd.prog 47 [.d (.v (.bool yes)), .d (.v (.int .i64 what)), .d (.v (.int .i64 many)), .ptr 101 0, .d (.fp x.ds), .d (.fp c.ds)] [(1, .row 39 4 (E.map Lck.ds)), (101, .cells [.own 1])] [(1, .row 39 4 ((addL E yes ⟨x.name, c.carrier, what, many⟩).map Lck.ds)), (101, .cells [.own 1])] (fun i => Nat.beq i 1 || Nat.ble 1000 i) (.tup []) := by
  refine xcall_of (n := 20) (ds' := []) Tryd.func47 rfl (by kernel_rfl) rfl [] rfl rfl ?_
  intro B w0 F0 fr ρ0
  refine AWP.seq (AWP.region ?_)
  refine AOps.mD rfl rfl rfl rfl rfl (.nil ?_)
  refine AWP.cond rfl (fun h1 => ?_) (fun h1 => ?_)
  · skip
    rw [addL_t h1]
    refine AWP.region ?_
    refine AOps.step rfl rfl rfl (AOp.loadP rfl sc_34 rfl (.tail _ (.head _)) rfl) ?_
    refine AOps.step rfl rfl rfl (AOp.fieldAddr rfl fo_69_0 rfl) ?_
    refine AOps.step rfl rfl rfl (AOp.load rfl sc_9 rfl) ?_
    refine AOps.step rfl rfl rfl (AOp.fieldAddr rfl fo_77_1 rfl) ?_
    refine AOps.step rfl rfl rfl (AOp.load rfl sc_9 rfl) ?_
    refine AOps.mD rfl rfl rfl rfl rfl ?_
    refine AOps.mD rfl rfl rfl rfl rfl ?_
    refine AOps.step rfl rfl rfl (AOp.build rfl bu_39 (.cons rfl rfl (.cons rfl rfl (.cons rfl rfl (.cons rfl rfl .nil)))) rfl) ?_
    refine AOps.step rfl rfl rfl (AOp.buildSlice rfl et_34 (.cons rfl rfl rfl .nil) rfl (by decide)) ?_
    -- append 19
    refine AOps.append rfl rfl rfl rfl et_34 rfl (.head _) rfl (by simp [D.parts]) (by simp; omega) (by simp; omega) ?_
    refine AOps.storeS rfl rfl rfl sz_34 rfl (.tail _ (.head _)) rfl (.head _) (Nat.le_of_ble_eq_true rfl) (.nil ?_)
    refine ⟨trivial, ⟨mem_ob_eq (.head _) ?_, mem_ob_eq (.tail _ (.head _)) ?_, trivial⟩⟩
    all_goals (first | rfl | (rw [List.map_append]; rfl))
  rw [addL_f h1]
  refine AWP.skip ?_
  refine ⟨trivial, ⟨mem_ob_eq (.head _) ?_, mem_ob_eq (.tail _ (.head _)) ?_, trivial⟩⟩
  all_goals (first | rfl | (rw [List.map_append]; rfl))

end Go.Proofs.YtieccphckobhjaaDoor


namespace Go.Proofs.YtieccphckobhjaaDoor
open Go.RowKit
set_option linter.unusedVariables false

/-! Types. -/
namespace TyL4a
theorem ag_26 : AggT Tryd.prog 26 3 := .of (by kernel_rfl)
theorem ag_28 : AggT Tryd.prog 28 6 := .of (by kernel_rfl)
theorem ag_73 : AggT Tryd.prog 73 5 := .of (by kernel_rfl)
theorem ag_77 : AggT Tryd.prog 77 7 := .of (by kernel_rfl)
theorem et_23 : ElemTy Tryd.prog 23 73 5 64 (.agg #[(.string ⟨#[]⟩), (.string ⟨#[]⟩), (.string ⟨#[]⟩), (.int .i64 0), (.int .i64 0)]) := ⟨by kernel_rfl, by kernel_rfl, by kernel_rfl, by decide⟩
theorem et_24 : ElemTy Tryd.prog 24 77 7 96 (.agg #[(.string ⟨#[]⟩), (.string ⟨#[]⟩), (.string ⟨#[]⟩), (.int .i64 0), (.int .i64 0), (.int .i64 0), (.slice none 0 0)]) := ⟨by kernel_rfl, by kernel_rfl, by kernel_rfl, by decide⟩
theorem et_75 : ElemTy Tryd.prog 75 3 1 8 (.int .i64 0) := ⟨by kernel_rfl, by kernel_rfl, by kernel_rfl, by decide⟩
theorem fo_26_1 : fieldOff Tryd.prog 26 1 = some 1 := by kernel_rfl
theorem fo_26_2 : fieldOff Tryd.prog 26 2 = some 2 := by kernel_rfl
theorem fo_28_5 : fieldOff Tryd.prog 28 5 = some 5 := by kernel_rfl
theorem fo_77_0 : fieldOff Tryd.prog 77 0 = some 0 := by kernel_rfl
theorem fo_77_1 : fieldOff Tryd.prog 77 1 = some 1 := by kernel_rfl
theorem fo_77_5 : fieldOff Tryd.prog 77 5 = some 5 := by kernel_rfl
theorem fo_77_6 : fieldOff Tryd.prog 77 6 = some 6 := by kernel_rfl
theorem sc_23 : Scal Tryd.prog 23 := .of (by kernel_rfl)
theorem sc_24 : Scal Tryd.prog 24 := .of (by kernel_rfl)
theorem sc_3 : Scal Tryd.prog 3 := .of (by kernel_rfl)
theorem sc_75 : Scal Tryd.prog 75 := .of (by kernel_rfl)
theorem sc_9 : Scal Tryd.prog 9 := .of (by kernel_rfl)
theorem sz_73 : ∀ w, (sizeOf 73).run Tryd.prog w = .ok 5 w := SizeT.of (by kernel_rfl)
theorem sz_77 : ∀ w, (sizeOf 77).run Tryd.prog w = .ok 7 w := SizeT.of (by kernel_rfl)
theorem zt_73 : (Tryd.prog.info? 73).bind (·.zero) = some (.agg #[(.string ⟨#[]⟩), (.string ⟨#[]⟩), (.string ⟨#[]⟩), (.int .i64 0), (.int .i64 0)]) := by kernel_rfl
theorem zt_77 : (Tryd.prog.info? 77).bind (·.zero) = some (.agg #[(.string ⟨#[]⟩), (.string ⟨#[]⟩), (.string ⟨#[]⟩), (.int .i64 0), (.int .i64 0), (.int .i64 0), (.slice none 0 0)]) := by kernel_rfl
end TyL4a
open TyL4a

end Go.Proofs.YtieccphckobhjaaDoor


namespace Go.Proofs.YtieccphckobhjaaDoor
open Go.RowKit
set_option linter.unusedVariables false

/-! Types. -/
namespace TyW4

end TyW4
open TyW4


def srcNow (v : Vlt) (it : ByteArray) (b : Int) (c : Cpy) : Bool := decide (c.item = it) && (decide ((c.bad.length : Int) = 0) && (decide (b < 0) || decide (c.gen < (v.copies.getD b.toNat zC).gen)))
/-- The number of the best source among the first copies; -1: none. -/
def srcI (v : Vlt) (it : ByteArray) : Nat → Int
  | 0 => -1
  | k + 1 => match v.copies[k]? with | none => srcI v it k | some c => if srcNow v it (srcI v it k) c = true then (k : Int) else srcI v it k
theorem srcI_t {v : Vlt} {it : ByteArray} {k : Nat} (hk : k < v.copies.length) (h : srcNow v it (srcI v it k) v.copies[k] = true) : srcI v it (k + 1) = (k : Int) := by
  conv => lhs; unfold srcI
  rw [List.getElem?_eq_getElem hk]
  exact if_pos h
theorem srcI_f {v : Vlt} {it : ByteArray} {k : Nat} (hk : k < v.copies.length) (h : srcNow v it (srcI v it k) v.copies[k] = false) : srcI v it (k + 1) = srcI v it k := by
  conv => lhs; unfold srcI
  rw [List.getElem?_eq_getElem hk]
  exact if_neg (by rw [h]; simp)
theorem srcI_lt (v : Vlt) (it : ByteArray) : ∀ k : Nat, -1 ≤ srcI v it k ∧ srcI v it k < k
  | 0 => by unfold srcI; omega
  | k + 1 => by
    have ih := srcI_lt v it k
    unfold srcI
    split
    · omega
    · split <;> omega
theorem srcI_at {v : Vlt} {it : ByteArray} {k : Nat} (hk : k ≤ v.copies.length) (h : ¬ srcI v it k < 0) : ∃ b, ∃ hb : b < v.copies.length, srcI v it k = (b : Int) ∧ v.copies.getD (srcI v it k).toNat zC = v.copies[b] := by
  have h1 := srcI_lt v it k
  obtain ⟨b, hb⟩ : ∃ b : Nat, srcI v it k = (b : Int) := ⟨(srcI v it k).toNat, by omega⟩
  refine ⟨b, by omega, hb, ?_⟩
  rw [hb, Int.toNat_natCast]
  exact getD_at (by omega)


end Go.Proofs.YtieccphckobhjaaDoor


namespace Go.Proofs.YtieccphckobhjaaDoor
open Go.RowKit
set_option linter.unusedVariables false

/-! Types. -/
namespace TyW5
theorem ag_28 : AggT Tryd.prog 28 6 := .of (by kernel_rfl)
theorem ag_91 : AggT Tryd.prog 91 3 := .of (by kernel_rfl)
end TyW5
open TyW5


def enoughB (p : Pol) (l : List Carr) : Bool := decide (lackC p l = 0) && (decide (lackP p l = 0) && decide (lackK p l = 0))
theorem lack_bounds {p : Pol} (po : POk p) (l : List Carr) : (0 ≤ lackC p l ∧ lackC p l ≤ 16) ∧ (0 ≤ lackP p l ∧ lackP p l ≤ 16) ∧ 0 ≤ lackK p l ∧ lackK p l ≤ 16 := by
  have h1 := po.copies
  have h2 := po.places
  have h3 := po.kinds
  unfold lackC lackP lackK
  omega
theorem enough_sum {p : Pol} (po : POk p) (l : List Carr) : decide (lackC p l + lackP p l + lackK p l = 0) = enoughB p l := by
  obtain ⟨a, b, c⟩ := lack_bounds po l
  unfold enoughB
  rw [Bool.eq_iff_iff]
  simp only [Bool.and_eq_true, decide_eq_true_eq]
  omega


set_option maxRecDepth 100000 in
set_option maxHeartbeats 1000000 in
theorem c_enough (l : List Carr) (p : Pol) (po : POk p) (hl : l.length ≤ 1000) : ACall Tryd.prog 70 [.agg (spreadDs l), .agg p.ds] (.v (.bool (enoughB p l))) := by
  refine acall_of (n := 21) (ds' := [.v (.bool (enoughB p l))]) Tryd.func70 rfl (by kernel_rfl) rfl [4] rfl rfl ?_
  intro B w0 F0 fr
  have hlb := lack_bounds po l
  rw [← enough_sum po l]
  refine AWP.seq (AWP.region ?_)
  refine AOps.step rfl rfl rfl (AOp.box rfl rfl rfl) ?_
  refine AOps.step rfl rfl rfl (AOp.box rfl rfl rfl) ?_
  refine AOps.aD rfl rfl rfl rfl rfl (.nil ?_)
  refine AWP.seq (AWP.region ?_)
  refine AOps.step rfl rfl rfl (AOp.loadAgg rfl ag_91 rfl rfl) ?_
  refine AOps.step rfl rfl rfl (AOp.loadAgg rfl ag_28 rfl rfl) ?_
  refine AOps.step rfl rfl rfl (AOp.call rfl (.cons (ArgOk.rfl' rfl) (.cons (ArgOk.rfl' rfl) .nil)) (c_lacking l p po hl)) ?_
  refine AOps.mD rfl rfl rfl rfl rfl ?_
  refine AOps.step rfl rfl rfl (AOp.extract rfl rfl rfl) ?_
  refine AOps.step rfl rfl rfl (AOp.extract rfl rfl rfl) ?_
  refine AOps.step rfl rfl rfl (AOp.extract rfl rfl rfl) ?_
  refine AOps.aD rfl rfl rfl rfl rfl ?_
  refine AOps.aD rfl rfl rfl rfl rfl ?_
  refine AOps.aD rfl rfl rfl rfl rfl (.nil ?_)
  refine AWP.seq (AWP.region ?_)
  refine AOps.mD rfl rfl rfl rfl rfl ?_
  refine AOps.mD rfl rfl rfl rfl rfl ?_
  refine AOps.step rfl rfl rfl (AOp.add64 rfl rfl rfl (by omega) (by omega)) ?_
  refine AOps.mD rfl rfl rfl rfl rfl ?_
  refine AOps.step rfl rfl rfl (AOp.add64 rfl rfl rfl (by omega) (by omega)) ?_
  refine AOps.step rfl rfl rfl (AOp.eql rfl rfl rfl) ?_
  refine AOps.aD rfl rfl rfl rfl rfl (.nil ?_)
  refine AWP.ret ?_
  refine ⟨RetD.eq rfl ?_, trivial⟩
  all_goals (rfl)

end Go.Proofs.YtieccphckobhjaaDoor


namespace Go.Proofs.YtieccphckobhjaaDoor
open Go.RowKit
set_option linter.unusedVariables false

end Go.Proofs.YtieccphckobhjaaDoor


namespace Go.Proofs.YtieccphckobhjaaDoor
open Go.RowKit
set_option linter.unusedVariables false

/-! Types. -/
namespace TyW6

end TyW6
open TyW6


def carrN (v : Vlt) (i : Nat) : Carr := v.carrs.getD i ⟨⟨#[]⟩, ⟨#[]⟩, ⟨#[]⟩, 0, 0⟩
def candB (v : Vlt) (p : Pol) (x : Item) (room : List Int) (day : Int) (k : Nat) (c : Carr) : Bool := decide (copyIdx v x.name c.name < 0) && (!oldB p day c && decide (room.getD k 0 ≥ x.blocks))
/-- The carriers, by number, to which an item may be copied. -/
def candTo (v : Vlt) (p : Pol) (x : Item) (room : List Int) (day : Int) : Nat → List Nat
  | 0 => []
  | k + 1 => candTo v p x room day k ++ (if candB v p x room day k (carrN v k) = true then [k] else [])
def cand (v : Vlt) (p : Pol) (x : Item) (room : List Int) (day : Int) : List Nat := candTo v p x room day v.carrs.length
theorem candTo_t {v : Vlt} {p : Pol} {x : Item} {room : List Int} {day : Int} {k : Nat} (h : candB v p x room day k (carrN v k) = true) : candTo v p x room day (k + 1) = candTo v p x room day k ++ [k] := by
  show candTo v p x room day k ++ _ = _
  rw [if_pos h]
theorem candTo_f {v : Vlt} {p : Pol} {x : Item} {room : List Int} {day : Int} {k : Nat} (h : candB v p x room day k (carrN v k) = false) : candTo v p x room day (k + 1) = candTo v p x room day k := by
  show candTo v p x room day k ++ _ = _
  rw [if_neg (by rw [h]; simp), List.append_nil]
theorem candTo_len {v : Vlt} {p : Pol} {x : Item} {room : List Int} {day : Int} : ∀ k, (candTo v p x room day k).length ≤ k
  | 0 => Nat.le_refl _
  | k + 1 => by
    have := candTo_len (v := v) (p := p) (x := x) (room := room) (day := day) k
    show (candTo v p x room day k ++ _).length ≤ _
    rw [List.length_append]
    split <;> simp <;> omega
theorem candTo_lt {v : Vlt} {p : Pol} {x : Item} {room : List Int} {day : Int} : ∀ {k i : Nat}, i ∈ candTo v p x room day k → i < k
  | k + 1, i, h => by
    have h : i ∈ candTo v p x room day k ++ _ := h
    rcases List.mem_append.1 h with h | h
    · have := candTo_lt h; omega
    · split at h
      · have := List.mem_singleton.1 h; omega
      · cases h
theorem carrN_at {v : Vlt} {k : Nat} (hk : k < v.carrs.length) : carrN v k = v.carrs[k] := by unfold carrN; rw [List.getD_eq_getElem?_getD, List.getElem?_eq_getElem hk]; rfl
theorem roomAt {l : List Int} {k : Nat} (hk : k < l.length) : l.getD k 0 = l[k] := by rw [List.getD_eq_getElem?_getD, List.getElem?_eq_getElem hk]; rfl
/-- The good ones' carriers, with those of a choice. -/
def withL (v : Vlt) (good : List Carr) (l ch : List Nat) : List Carr := good ++ ch.map fun i => carrN v (l.getD i 0)
def tgtC (v : Vlt) (p : Pol) (x : Item) (room : List Int) (day : Int) : Option (List Nat) := chosenC (cand v p x room day).length fun ch => enoughB p (withL v (goodOnes v x.name p day) (cand v p x room day) ch)
def noTgt (v : Vlt) (p : Pol) (x : Item) (day : Int) : Bool := decide (srcI v x.name v.copies.length < 0) || (decide ((v.copies.getD (srcI v x.name v.copies.length).toNat zC).gen ≥ p.gens) || enoughB p (goodOnes v x.name p day))
/-- The numbers of the carriers to which an item is to be copied. -/
def tgtR (v : Vlt) (p : Pol) (x : Item) (room : List Int) (day : Int) : List Nat := if noTgt v p x day = true then [] else ((tgtC v p x room day).getD []).map fun i => (cand v p x room day).getD i 0
theorem goodOnes_len (v : Vlt) (it : ByteArray) (p : Pol) (day : Int) : (goodOnes v it p day).length ≤ v.copies.length := by rw [← rGoodTo_all]; exact rGoodTo_len v it p day _
theorem tgt_no {v : Vlt} {p : Pol} {x : Item} {room : List Int} {day : Int} (h : noTgt v p x day = true) : tgtR v p x room day = [] := if_pos h
theorem tgt_go {v : Vlt} {p : Pol} {x : Item} {room : List Int} {day : Int} (h : noTgt v p x day = false) : tgtR v p x room day = ((tgtC v p x room day).getD []).map fun i => (cand v p x room day).getD i 0 := if_neg (by rw [h]; simp)
end Go.Proofs.YtieccphckobhjaaDoor


namespace Go.Proofs.YtieccphckobhjaaDoor
open Go.RowKit
set_option linter.unusedVariables false

/-! Types. -/
namespace TyW7

end TyW7
open TyW7


theorem het_cr : ElemTy Tryd.prog 23 73 5 64 (.agg #[(.string ⟨#[]⟩), (.string ⟨#[]⟩), (.string ⟨#[]⟩), (.int .i64 0), (.int .i64 0)]) := ⟨by kernel_rfl, by kernel_rfl, by kernel_rfl, by decide⟩
theorem hag_cr : AggT Tryd.prog 73 5 := .of (by kernel_rfl)
theorem hfo_v1r : fieldOff Tryd.prog 26 1 = some 1 := by kernel_rfl
theorem take_next {l : List Nat} {j : Nat} (h : j < l.length) : l.take (j + 1) = l.take j ++ [l[j]] := by rw [List.take_add_one, List.getElem?_eq_getElem h]; rfl
/-- The search, or its end. -/
def Again (n m : Nat) (P : List Nat → Bool) (g : List Nat × Bool) : Prop := if g.2 = true then Vld n g.1 ∧ g.1.length = m ∧ srch n P (List.range m) = srch n P g.1 else srch n P (List.range m) = none
end Go.Proofs.YtieccphckobhjaaDoor


namespace Go.Proofs.YtieccphckobhjaaDoor
open Go.RowKit
set_option linter.unusedVariables false

/-! Types. -/
namespace TyW8

end TyW8
open TyW8


def IncC (l : List Nat) : Prop := ∀ i j, i < j → j < l.length → l.getD i 0 < l.getD j 0
theorem range_inc (m : Nat) : IncC (List.range m) := fun i j hij hj => by
  rw [List.length_range] at hj
  rw [numAt (by rw [List.length_range]; omega), numAt (by rw [List.length_range]; omega), List.getElem_range, List.getElem_range]
  exact hij
theorem bump_inc {l : List Nat} {k : Nat} (h : IncC l) (hk : k < l.length) : IncC (bump l k) := fun i j hij hj => by
  rw [bump_len (by omega)] at hj
  show (bumpTo l k l.length).getD i 0 < (bumpTo l k l.length).getD j 0
  rw [bumpTo_at (by omega) (Nat.le_refl _) (by omega), bumpTo_at (by omega) (Nat.le_refl _) hj]
  by_cases h1 : j < k
  · rw [if_pos (by omega), if_pos h1]; exact h i j hij hj
  · rw [if_neg h1, if_pos hj]
    by_cases h2 : i < k
    · rw [if_pos h2]
      have := h i k h2 hk
      omega
    · rw [if_neg h2, if_pos (by omega)]
      omega
theorem srchN_spec {n : Nat} {P : List Nat → Bool} : ∀ {f : Nat} {l r : List Nat}, Vld n l → IncC l → srchN n P f l = some r → P r = true ∧ Vld n r ∧ IncC r ∧ r.length = l.length
  | 0, _, _, _, _, h => by cases h
  | f + 1, l, r, hv, hi, h => by
    unfold srchN at h
    by_cases hp : P l = true
    · rw [if_pos hp] at h
      cases h
      exact ⟨hp, hv, hi, rfl⟩
    · rw [if_neg hp] at h
      unfold nextC at h
      cases hq : pivot n l l.length with
      | none => rw [hq] at h; cases h
      | some k =>
        rw [hq] at h
        have hk := (pivot_lt hq).1
        have := srchN_spec (bump_vld hv hq) (bump_inc hi hk) h
        rw [bump_len (by omega)] at this
        exact this
theorem chosenTo_spec {n : Nat} {P : List Nat → Bool} {r : List Nat} : ∀ {m : Nat}, m ≤ n + 1 → chosenTo n P m = some r → P r = true ∧ Vld n r ∧ IncC r
  | 0, _, h => by cases h
  | m + 1, hm, h => by
    have h : (chosenTo n P m).or (srch n P (List.range m)) = some r := h
    cases hc : chosenTo n P m with
    | some q =>
      rw [hc] at h
      have e : q = r := by simpa using h
      subst e
      exact chosenTo_spec (by omega) hc
    | none =>
      rw [hc] at h
      have h2 : srch n P (List.range m) = some r := by simpa using h
      obtain ⟨a, b, c, _⟩ := srchN_spec (range_vld (by omega)) (range_inc m) h2
      exact ⟨a, b, c⟩
theorem chosen_spec {n : Nat} {P : List Nat → Bool} {r : List Nat} (h : chosenC n P = some r) : P r = true ∧ Vld n r ∧ IncC r := chosenTo_spec (Nat.le_refl _) h
/-- If none is chosen, not even all are right. -/
theorem chosen_none {n : Nat} {P : List Nat → Bool} (h : chosenC n P = none) : P (List.range n) = false := by
  have h : (chosenTo n P n).or (srch n P (List.range n)) = none := h
  have h2 : srch n P (List.range n) = none := by
    cases hc : chosenTo n P n with
    | some q => rw [hc] at h; cases h
    | none => rw [hc] at h; simpa using h
  cases hp : P (List.range n) with
  | false => rfl
  | true => rw [srch_hit (range_vld (Nat.le_refl n)) hp] at h2; cases h2


end Go.Proofs.YtieccphckobhjaaDoor


namespace Go.Proofs.YtieccphckobhjaaDoor
open Go.RowKit
set_option linter.unusedVariables false

/-! Types. -/
namespace TyW9

end TyW9
open TyW9


structure Tfr where
  item : ByteArray
  frm : ByteArray
  to : ByteArray
def Tfr.ds (t : Tfr) : List D := [.v (.string t.item), .v (.string t.frm), .v (.string t.to)]
def roomR (v : Vlt) : List Int := v.carrs.map fun c => c.room - usedOn v c.name
def take1 (v : Vlt) (x : Item) (s : List Int × List Tfr) (i : Nat) : List Int × List Tfr := (s.1.set i (s.1.getD i 0 - x.blocks), s.2 ++ [⟨x.name, (v.copies.getD (srcI v x.name v.copies.length).toNat zC).carrier, (carrN v i).name⟩])
def planItem (v : Vlt) (p : Pol) (day : Int) (s : List Int × List Tfr) (x : Item) : List Int × List Tfr := (tgtR v p x s.1 day).foldl (take1 v x) s
def planTo (v : Vlt) (p : Pol) (day : Int) (k : Nat) : List Int × List Tfr := (v.items.take k).foldl (planItem v p day) (roomR v, [])
def planR (v : Vlt) (p : Pol) (day : Int) : List Tfr := if dayFault v p day = 0 then (planTo v p day v.items.length).2 else []
structure PB (v : Vlt) (s : List Int × List Tfr) (c : Nat) : Prop where
  len : s.1.length = v.carrs.length
  out : s.2.length ≤ c
  room : ∀ i, -((c : Int) * 1000) ≤ s.1.getD i 0 ∧ s.1.getD i 0 ≤ 1000000
theorem PB.next {v : Vlt} {s : List Int × List Tfr} {c : Nat} (h : PB v s c) {x : Item} (hx : 1 ≤ x.blocks ∧ x.blocks ≤ 1000) (i : Nat) : PB v (take1 v x s i) (c + 1) := by
  refine ⟨by show (s.1.set i _).length = _; rw [List.length_set]; exact h.len, by show (s.2 ++ _).length ≤ _; rw [List.length_append]; have := h.out; simp; omega, fun j => ?_⟩
  show _ ≤ (s.1.set i _).getD j 0 ∧ (s.1.set i _).getD j 0 ≤ _
  have h1 := h.room i
  have h2 := h.room j
  rw [List.getD_eq_getElem?_getD (l := s.1.set i _), List.getElem?_set]
  by_cases e : i = j
  · subst e
    rw [if_pos rfl]
    by_cases hl : i < s.1.length
    · rw [if_pos hl, Option.getD_some]; omega
    · rw [if_neg hl]; show _ ≤ (0 : Int) ∧ (0 : Int) ≤ _; omega
  · rw [if_neg e, ← List.getD_eq_getElem?_getD]; omega
theorem tgtR_len (v : Vlt) (p : Pol) (x : Item) (room : List Int) (day : Int) : (tgtR v p x room day).length ≤ v.carrs.length := by
  unfold tgtR
  split
  · exact Nat.zero_le _
  · rw [List.length_map]
    cases hc : tgtC v p x room day with
    | none => exact Nat.zero_le _
    | some r =>
      obtain ⟨_, hv, _⟩ := chosen_spec hc
      exact Nat.le_trans hv.1 (candTo_len _)
theorem PB.fold {v : Vlt} {x : Item} (hx : 1 ≤ x.blocks ∧ x.blocks ≤ 1000) : ∀ (l : List Nat) {s : List Int × List Tfr} {c : Nat}, PB v s c → PB v (l.foldl (take1 v x) s) (c + l.length)
  | [], _, _, h => h
  | i :: l, s, c, h => by
    have := PB.fold hx l (h.next hx i)
    rw [show c + 1 + l.length = c + (i :: l).length by simp; omega] at this
    exact this
theorem PB.more {v : Vlt} {s : List Int × List Tfr} {c d : Nat} (h : PB v s c) (hd : c ≤ d) : PB v s d := ⟨h.len, Nat.le_trans h.out hd, fun i => by have := h.room i; omega⟩
theorem room_PB {v : Vlt} (vo : VOk v) (hu : ∀ x ∈ v.carrs, 0 ≤ usedOn v x.name) : PB v (roomR v, []) 0 := by
  refine ⟨by unfold roomR; simp, Nat.le_refl _, fun i => ?_⟩
  show _ ≤ (roomR v).getD i 0 ∧ (roomR v).getD i 0 ≤ _
  unfold roomR
  rw [List.getD_eq_getElem?_getD, List.getElem?_map]
  cases hc : v.carrs[i]? with
  | none => show _ ≤ (0 : Int) ∧ (0 : Int) ≤ _; omega
  | some c =>
    have hm := List.mem_of_getElem? hc
    have h1 := vo.room c hm
    have h2 := (vo.carr hm).2.2
    have h3 := hu c hm
    show _ ≤ c.room - usedOn v c.name ∧ c.room - usedOn v c.name ≤ _
    omega
theorem planTo_next {v : Vlt} {p : Pol} {day : Int} {k : Nat} (hk : k < v.items.length) : planTo v p day (k + 1) = planItem v p day (planTo v p day k) v.items[k] := by
  unfold planTo
  rw [List.take_add_one, List.getElem?_eq_getElem hk, Option.toList_some, List.foldl_append]
  rfl
theorem planTo_PB {v : Vlt} {p : Pol} {day : Int} (vo : VOk v) (hi : okItems v) (hu : ∀ x ∈ v.carrs, 0 ≤ usedOn v x.name) : ∀ k, k ≤ v.items.length → PB v (planTo v p day k) (16 * k)
  | 0, _ => room_PB vo hu
  | k + 1, hk => by
    rw [planTo_next (by omega)]
    have h1 := PB.fold (hi _ (List.getElem_mem (l := v.items) (n := k) (by omega))) (tgtR v p v.items[k] (planTo v p day k).1 day) (planTo_PB (p := p) (day := day) vo hi hu k (by omega))
    have h2 := tgtR_len v p v.items[k] (planTo v p day k).1 day
    have h3 := vo.nc
    exact h1.more (by omega)


end Go.Proofs.YtieccphckobhjaaDoor


namespace Go.Proofs.YtieccphckobhjaaDoor
open Go.RowKit
set_option linter.unusedVariables false

/-! Types. -/
namespace TyW10

end TyW10
open TyW10


def roomF (v : Vlt) (k : Nat) : List (List D) := ((v.carrs.take k).map fun c => intD (c.room - usedOn v c.name)) ++ List.replicate (v.carrs.length - k) (intD 0)
theorem take1_1 {v : Vlt} {x : Item} {s : List Int × List Tfr} {i : Nat} : (take1 v x s i).1 = s.1.set i (s.1.getD i 0 - x.blocks) := rfl
theorem take1_2 {v : Vlt} {x : Item} {s : List Int × List Tfr} {i : Nat} : (take1 v x s i).2 = s.2 ++ [⟨x.name, (v.copies.getD (srcI v x.name v.copies.length).toNat zC).carrier, (carrN v i).name⟩] := rfl
theorem fold_tk {v : Vlt} {x : Item} {s : List Int × List Tfr} {l : List Nat} {j : Nat} (h : j < l.length) : (l.take (j + 1)).foldl (take1 v x) s = take1 v x ((l.take j).foldl (take1 v x) s) l[j] := by
  rw [List.take_add_one, List.getElem?_eq_getElem h, Option.toList_some, List.foldl_append]
  rfl


end Go.Proofs.YtieccphckobhjaaDoor
