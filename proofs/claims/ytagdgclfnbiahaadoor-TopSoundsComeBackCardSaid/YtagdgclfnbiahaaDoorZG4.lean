/- Walks and laws over abstract values, merged by tools/merge.py. No statement of the seat. -/
import Derived.Lib.AppendStr
import Derived.Maps.AppendAt
import Derived.Test.YtagdgclfnbiahaaDoorZG3

namespace Go.Proofs.YtagdgclfnbiahaaDoor
open Go.RowKit
set_option linter.unusedVariables false

/-- One step; sl: who reads objects, ef: who writes them. -/
def HStep (cx : Cx) (ops : Array Oper) (sl ef : Nat → Bool) (I : Obs → Prop) (k : Nat) (o : Oper) (e : Env) (σ : Obs) (e' : Env) (σ' : Obs) : Prop :=
  (GW ops o e true ∧ ∃ s, ((sl k = true ∧ AOp cx.P cx.B ops o e σ s) ∨ (I σ ∧ ∀ τ, I τ → AOp cx.P cx.B ops o e τ s)) ∧ e' = e.put o.dst s ∧ σ' = σ) ∨
  (GW ops o e false ∧ e' = e.put o.dst (.d (.v undef)) ∧ σ' = σ) ∨
  (GW ops o e true ∧ ef k = true ∧ o.dst = none ∧ EOp cx ops o e σ σ' ∧ e' = e ∧ I σ ∧ I σ')

def HRun (cx : Cx) (ops : Array Oper) (sl ef : Nat → Bool) (I : Obs → Prop) : Nat → List Oper → Env → Obs → (Env → Obs → Prop) → Prop
  | _, [], e, σ, Q => Q e σ
  | k, o :: l, e, σ, Q => DstOk cx.N o ∧ ∃ e' σ', HStep cx ops sl ef I k o e σ e' σ' ∧ HRun cx ops sl ef I (k + 1) l e' σ' Q

def anyH (cx : Cx) (ops : Array Oper) (sl ef : Nat → Bool) (I : Obs → Prop) (Q : Env → Obs → Prop) : Nat → Array Bool → Env → Obs → Prop
  | 0, listed, e, σ => Region.ready .any ops listed = [] ∧ Q e σ
  | fuel + 1, listed, e, σ => (Region.ready .any ops listed = [] → Q e σ) ∧
      ∀ i ∈ Region.ready .any ops listed, ∀ o, ops[i]? = some o → ∃ e' σ', HStep cx ops sl ef I i o e σ e' σ' ∧ anyH cx ops sl ef I Q fuel (listed.setIfInBounds i true) e' σ'

theorem anyH_first {cx : Cx} {ops : Array Oper} {sl ef : Nat → Bool} {I : Obs → Prop} (hse : ∀ k, ef k = true → sl k = true) {Q : Env → Obs → Prop} {i : Nat} {oi : Oper} (hi : ops[i]? = some oi) (late : Nat → Bool)
    (hclos : ∀ j oj, ops[j]? = some oj → late j = true → ∃ e ∈ oj.after, Region.binds .any e = true ∧ (e.on = i ∨ late e.on = true)) :
    ∀ (fuel : Nat) (listed : Array Bool) (e : Env) (σ : Obs) (e1 : Env) (σ1 : Obs), (∀ j, late j = true → listed.getD j false = false) →
      (∀ j oj, ops[j]? = some oj → j ≠ i → listed.getD j true = false → (∀ e ∈ oj.after, Region.binds .any e = true → e.on ≠ i) → oi.apart ops oj = true ∧ (late j = false → (ef i = false ∨ sl j = false) ∧ (sl i = false ∨ ef j = false))) →
      i ∈ Region.ready .any ops listed → HStep cx ops sl ef I i oi e σ e1 σ1 → anyH cx ops sl ef I Q fuel (listed.setIfInBounds i true) e1 σ1 → anyH cx ops sl ef I Q (fuel + 1) listed e σ := by
  intro fuel
  induction fuel with
  | zero =>
    intro listed e σ e1 σ1 _ _ hr hy H
    refine ⟨fun h => (by rw [h] at hr; cases hr), fun j hj o ho => ?_⟩
    by_cases hji : j = i
    · subst hji
      rw [hi] at ho; cases ho
      exact ⟨e1, σ1, hy, H⟩
    · have := ready_mono hj hji
      rw [H.1] at this
      cases this
  | succ fuel ih =>
    intro listed e σ e1 σ1 hlate hfree hr hy H
    refine ⟨fun h => (by rw [h] at hr; cases hr), fun j hj oj hoj => ?_⟩
    by_cases hji : j = i
    · subst hji
      rw [hi] at hoj; cases hoj
      exact ⟨e1, σ1, hy, H⟩
    · obtain ⟨e2, σ2, h1, h2⟩ := H.2 j (ready_mono hj hji) oj hoj
      obtain ⟨hjun, oj', hoj', hall⟩ := mem_ready.1 hj
      rw [hoj] at hoj'; cases hoj'
      have hnot : ∀ e ∈ oj.after, Region.binds .any e = true → e.on ≠ i := fun e he hb heq => by
        have h1 := hall e he hb
        have h0 := (mem_ready.1 hr).1
        rw [heq] at h1
        rcases Nat.lt_or_ge i listed.size with h' | h'
        · simp [h'] at h0 h1; rw [h0] at h1; cases h1
        · simp [Array.getElem?_eq_none h'] at h1
      have hjl : late j = false := by
        cases hl : late j with
        | false => rfl
        | true =>
          obtain ⟨e, he, hb, hh⟩ := hclos j oj hoj hl
          rcases hh with hh | hh
          · exact absurd hh (hnot e he hb)
          · have h3 := hall e he hb
            rw [hlate _ hh] at h3
            simp at h3
      obtain ⟨hap, hss⟩ := hfree j oj hoj hji hjun hnot
      obtain ⟨hs1, hs2⟩ := hss hjl
      obtain ⟨a1, a2, a3⟩ := Oper.apart_spec hap
      have fin : ∀ ej σj, HStep cx ops sl ef I j oj e σ ej σj → HStep cx ops sl ef I i oi ej σj e2 σ2 → ∃ e' σ', HStep cx ops sl ef I j oj e σ e' σ' ∧ anyH cx ops sl ef I Q (fuel + 1) (listed.setIfInBounds j true) e' σ' := fun ej σj hsj hsi => by
        refine ⟨ej, σj, hsj, ?_⟩
        refine ih (listed.setIfInBounds j true) ej σj e2 σ2 (fun k hk => ?_) (fun k ok hk hki hun hno => ?_) (ready_mono hr (Ne.symm hji)) hsi ?_
        · have hkj : j ≠ k := fun h => by rw [h, hk] at hjl; simp at hjl
          rw [getD_set_ne false hkj]
          exact hlate k hk
        · refine hfree k ok hk hki ?_ hno
          by_cases hjk : j = k
          · subst hjk; exact hjun
          · rw [getD_set_ne true hjk] at hun; exact hun
        · rw [Array.setIfInBounds_comm _ _ hji]
          exact h2
      rcases hy with ⟨hgi, s, hopi, rfl, rfl⟩ | ⟨hgi, rfl, rfl⟩ | ⟨hgi, hefi, hdi, hopi, rfl, hi1, hi2⟩
      · rcases h1 with ⟨hgj, sj, hopj, rfl, rfl⟩ | ⟨hgj, rfl, rfl⟩ | ⟨hgj, hefj, hdj, hopj, rfl, hj1, hj2⟩
        · refine fin (e.put oj.dst sj) _ (.inl ⟨hgj.same fun t ht => (put_looks a1 t ht).symm, sj, ?_, rfl, rfl⟩) (.inl ⟨hgi.same (put_looks a3), s, ?_, (Env.put_comm e oi.dst oj.dst s sj a2), rfl⟩)
          · exact hopj.imp (fun h => ⟨h.1, h.2.same fun t ht => (put_looks a1 t ht).symm⟩) (fun h => ⟨h.1, fun τ hτ => (h.2 τ hτ).same fun t ht => (put_looks a1 t ht).symm⟩)
          · exact hopi.imp (fun h => ⟨h.1, h.2.same (put_looks a3)⟩) (fun h => ⟨h.1, fun τ hτ => (h.2 τ hτ).same (put_looks a3)⟩)
        · refine fin (e.put oj.dst (.d (.v undef))) _ (.inr (.inl ⟨hgj.same fun t ht => (put_looks a1 t ht).symm, rfl, rfl⟩)) (.inl ⟨hgi.same (put_looks a3), s, ?_, (Env.put_comm e oi.dst oj.dst s _ a2), rfl⟩)
          exact hopi.imp (fun h => ⟨h.1, h.2.same (put_looks a3)⟩) (fun h => ⟨h.1, fun τ hτ => (h.2 τ hτ).same (put_looks a3)⟩)
        · have hsi : sl i = false := by
            rcases hs2 with h | h
            · exact h
            · rw [hefj] at h; simp at h
          refine fin e σ2 (.inr (.inr ⟨hgj.same fun t ht => (put_looks a1 t ht).symm, hefj, hdj, hopj.same fun t ht => (put_looks a1 t ht).symm, rfl, hj1, hj2⟩)) (.inl ⟨hgi, s, .inr ?_, rfl, rfl⟩)
          rcases hopi with h | h
          · rw [h.1] at hsi; simp at hsi
          · exact ⟨hj2, h.2⟩
      · rcases h1 with ⟨hgj, sj, hopj, rfl, rfl⟩ | ⟨hgj, rfl, rfl⟩ | ⟨hgj, hefj, hdj, hopj, rfl, hj1, hj2⟩
        · refine fin (e.put oj.dst sj) _ (.inl ⟨hgj.same fun t ht => (put_looks a1 t ht).symm, sj, ?_, rfl, rfl⟩) (.inr (.inl ⟨hgi.same (put_looks a3), (Env.put_comm e oi.dst oj.dst _ sj a2), rfl⟩))
          exact hopj.imp (fun h => ⟨h.1, h.2.same fun t ht => (put_looks a1 t ht).symm⟩) (fun h => ⟨h.1, fun τ hτ => (h.2 τ hτ).same fun t ht => (put_looks a1 t ht).symm⟩)
        · exact fin (e.put oj.dst (.d (.v undef))) _ (.inr (.inl ⟨hgj.same fun t ht => (put_looks a1 t ht).symm, rfl, rfl⟩)) (.inr (.inl ⟨hgi.same (put_looks a3), (Env.put_comm e oi.dst oj.dst _ _ a2), rfl⟩))
        · exact fin e σ2 (.inr (.inr ⟨hgj.same fun t ht => (put_looks a1 t ht).symm, hefj, hdj, hopj.same fun t ht => (put_looks a1 t ht).symm, rfl, hj1, hj2⟩)) (.inr (.inl ⟨hgi, rfl, rfl⟩))
      · have hsj : sl j = false := by
          rcases hs1 with h | h
          · rw [hefi] at h; simp at h
          · exact h
        rcases h1 with ⟨hgj, sj, hopj, rfl, rfl⟩ | ⟨hgj, rfl, rfl⟩ | ⟨hgj, hefj, hdj, hopj, rfl, hj1, hj2⟩
        · have hall : ∀ τ, I τ → AOp cx.P cx.B ops oj e1 τ sj := by
            rcases hopj with h | h
            · rw [h.1] at hsj; simp at hsj
            · exact h.2
          exact fin (e1.put oj.dst sj) σ (.inl ⟨hgj, sj, .inr ⟨hi1, hall⟩, rfl, rfl⟩) (.inr (.inr ⟨hgi.same (put_looks a3), hefi, hdi, hopi.same (put_looks a3), rfl, hi1, hi2⟩))
        · exact fin (e1.put oj.dst (.d (.v undef))) σ (.inr (.inl ⟨hgj, rfl, rfl⟩)) (.inr (.inr ⟨hgi.same (put_looks a3), hefi, hdi, hopi.same (put_looks a3), rfl, hi1, hi2⟩))
        · rw [hse j hefj] at hsj; simp at hsj

theorem anyH_lex {cx : Cx} {ops : Array Oper} {sl ef : Nat → Bool} {I : Obs → Prop} (hse : ∀ k, ef k = true → sl k = true) {Q : Env → Obs → Prop} : ∀ (l : List Oper) (k : Nat) (listed : Array Bool) (e : Env) (σ : Obs), (∀ j, l[j]? = ops[k + j]?) →
    Region.lexFrom .any ops l.length k listed = true → Region.sensFrom ops sl ef l.length k listed = true → HRun cx ops sl ef I k l e σ Q → anyH cx ops sl ef I Q l.length listed e σ
  | [], _, _, _, _, _, hB, _, h => ⟨by simpa [Region.lexFrom] using hB, h⟩
  | o :: l, k, listed, e, σ, hl, hB, hS, h => by
    have h0 : ops[k]? = some o := by simpa using (hl 0).symm
    simp only [List.length_cons, Region.lexFrom, Bool.and_eq_true] at hB
    simp only [List.length_cons, Region.sensFrom, Bool.and_eq_true] at hS
    obtain ⟨⟨hr, hf⟩, hB'⟩ := hB
    have hl' : ∀ j, l[j]? = ops[k + 1 + j]? := fun j => by have := hl (j + 1); simpa [Nat.add_assoc, Nat.add_comm 1 j] using this
    obtain ⟨_, e', σ', hs, hK⟩ := h
    have hgo := anyH_lex hse l (k + 1) _ _ _ hl' hB' hS.2 hK
    by_cases hc : (sl k || ef k) = true
    · have h1 := hS.1
      rw [if_pos hc] at h1
      obtain ⟨k1, k2, k3⟩ := Region.sensFree_spec h1 (fun j hj => by
        unfold Region.lateB at hj
        simp only [Bool.and_eq_true, Nat.blt_eq] at hj
        exact hj.1)
      exact anyH_first hse h0 _ k1 l.length listed e σ e' σ' k2 (fun j oj hj hji hun hno => ⟨Region.free_spec h0 hf j oj hj hji hun hno, fun hl => k3 j oj hj hji hun hl⟩) (by simpa using hr) hs hgo
    · have h2 : sl k = false ∧ ef k = false := by simpa using hc
      exact anyH_first hse h0 (fun _ => false) (fun _ _ _ h => by simp at h) l.length listed e σ e' σ' (fun _ h => by simp at h) (fun j oj hj hji hun hno => ⟨Region.free_spec h0 hf j oj hj hji hun hno, fun _ => ⟨.inl h2.2, .inl h2.1⟩⟩) (by simpa using hr) hs hgo

theorem HRun.dsts {cx : Cx} {ops : Array Oper} {sl ef : Nat → Bool} {I : Obs → Prop} {Q : Env → Obs → Prop} : ∀ (l : List Oper) (k : Nat) (e : Env) (σ : Obs), HRun cx ops sl ef I k l e σ Q → ∀ o ∈ l, DstOk cx.N o
  | [], _, _, _, _, o, ho => by cases ho
  | x :: l, k, e, σ, h, o, ho => by
    obtain ⟨h1, _, _, _, h2⟩ := h
    cases ho with
    | head => exact h1
    | tail _ ho => exact HRun.dsts l _ _ _ h2 o ho

theorem wpAny_of_H {cx : Cx} {ops : Array Oper} {sl ef : Nat → Bool} {I : Obs → Prop} {Q : Post} (hd : ∀ o ∈ ops.toList, DstOk cx.N o) : ∀ (fuel : Nat) (listed : Array Bool) (e : Env) (σ : Obs) (a : Act) (w : World), R cx e σ a w →
    anyH cx ops sl ef I (fun e σ => Q .normal e σ) fuel listed e σ → wpAny cx.P .any ops (lift cx Q) fuel listed a w
  | 0, _, e, σ, _, _, hr, h => ⟨h.1, e, σ, h.2, hr⟩
  | fuel + 1, listed, e, σ, a, w, hr, h => by
    refine ⟨fun h0 => ⟨e, σ, h.1 h0, hr⟩, fun i hi => ?_⟩
    obtain ⟨_, o, ho, _⟩ := mem_ready.1 hi
    obtain ⟨e', σ', hs, hk⟩ := h.2 i hi o ho
    have hdo : DstOk cx.N o := hd o (Array.mem_toList_iff.2 (Array.mem_of_getElem? ho))
    unfold wpOp
    simp only [ho]
    obtain ⟨F, ρ, hr⟩ := hr
    rcases hs with ⟨hg, s, hop, rfl, rfl⟩ | ⟨hg, rfl, rfl⟩ | ⟨hg, _, hdst, hop, rfl, _, _⟩
    · rw [if_pos (hg.wanted (fun t _ => hr.env t))]
      have hop' : AOp cx.P cx.B ops o e σ' s := by
        rcases hop with h | h
        · exact h.2
        · exact h.2 _ h.1
      refine .inl (wp_to ?_ (fun _ _ _ => False.elim) (hop' F ρ w a hr.lt (fun t _ => hr.env t) hr.obs))
      rintro a' w' ⟨v, F', rfl, hv, he⟩
      exact wpAny_of_H hd fuel _ _ _ _ _ ⟨F', ρ, hr.put he hv hdo⟩ hk
    · rw [if_neg (by rw [hg.wanted (fun t _ => hr.env t)]; simp)]
      exact wpAny_of_H hd fuel _ _ _ _ _ ⟨F, ρ, hr.put (Ext.refl hr.lt) repS_undef hdo⟩ hk
    · rw [if_pos (hg.wanted (fun t _ => hr.env t))]
      refine .inl (wp_to ?_ (fun _ _ _ => False.elim) (hop F ρ a w e' hr (fun t _ => hr.env t)))
      rintro a' w' ⟨rfl, h3⟩
      obtain ⟨F', ρ', h4⟩ := h3 e' hr
      exact wpAny_of_H hd fuel _ _ _ _ _ ⟨F', ρ', h4⟩ hk

/-- A region that draws its order and writes, walked once, in the order of the text. -/
theorem AWP.drawH {cx : Cx} {id : Nat} {l : List Oper} {e : Env} {σ : Obs} {Q : Post} (sl ef : Nat → Bool) (I : Obs → Prop) (hse : ∀ k, ef k = true → sl k = true) (hm : cx.P.follows .mixedOrders = true) (hB : Region.lexB .any l.toArray = true)
    (hS : Region.sensFrom l.toArray sl ef l.length 0 (Array.replicate l.length false) = true) (h : HRun cx l.toArray sl ef I 0 l e σ (fun e σ => Q .normal e σ)) : AWP cx (.region id l.toArray true) e σ Q := by
  intro a w ⟨F, ρ, hr⟩
  simp only [Region.lexB, Bool.and_eq_true] at hB
  have h1 := anyH_lex hse l 0 (Array.replicate l.toArray.size false) e σ (by simp) (by simpa using hB.2) (by simpa using hS) h
  exact wp_region_any hm (wpAny_of_H (by simpa using HRun.dsts l 0 e σ h) _ _ e σ a _ ⟨F, ρ, hr.drew⟩ (by simpa using h1))
section
variable {cx : Cx} {ops : Array Oper} {o : Oper} {rest : List Oper} {e : Env} {σ : Obs} {sl ef : Nat → Bool} {I : Obs → Prop} {n : Nat} {l : List Oper} {Q : Env → Obs → Prop}
theorem HRun.nil (h : Q e σ) : HRun cx ops sl ef I n [] e σ Q := h
/-- It reads no object. -/
theorem HRun.step {s : S} {t : Nat} (hg : GW ops o e true) (ht : o.dst = some t) (hd : Nat.blt t cx.N = true) (hI : I σ) (h : ∀ τ, I τ → AOp cx.P cx.B ops o e τ s) (k : HRun cx ops sl ef I (n + 1) l (e.put (some t) s) σ Q) : HRun cx ops sl ef I n (o :: l) e σ Q :=
  ⟨by unfold DstOk; rw [ht]; exact hd, _, _, .inl ⟨hg, s, .inr ⟨hI, h⟩, rfl, rfl⟩, by rw [ht]; exact k⟩
/-- It writes. -/
theorem HRun.eff {σ' : Obs} (hf : ef n = true) (hg : GW ops o e true) (ht : o.dst = none) (h : EOp cx ops o e σ σ') (h1 : I σ) (h2 : I σ') (k : HRun cx ops sl ef I (n + 1) l e σ' Q) : HRun cx ops sl ef I n (o :: l) e σ Q :=
  ⟨by unfold DstOk; rw [ht], _, _, .inr (.inr ⟨hg, hf, ht, h, rfl, h1, h2⟩), k⟩
end
end Go.Proofs.YtagdgclfnbiahaaDoor

namespace Go.Proofs.YtagdgclfnbiahaaDoor
open Go.RowKit
set_option linter.unusedVariables false

/-- What the operation gives depends on x's value alone; or it gives nothing. -/
def PureOp (P : Program) (o : Oper) (x : Operand) : Prop := ∀ u : Value, (∃ v, ∀ (a : Act) (w : World), a.eval x = u → (execOp a.eval o).run P w = .ok (.value v) w) ∨
  (∀ (a : Act) (w : World) (K : Act → World → Prop) (Q : Exit → Act → World → Prop), (∀ e a w, e ≠ .normal → ¬ Q e a w) → a.eval x = u → ¬ o.wp P a w K Q)
theorem PureOp.move {P : Program} {o : Oper} {x : Operand} (h : o.op = .move x) : PureOp P o x := fun u => .inl ⟨u, fun a w hx => by
  unfold execOp
  simp only [h, hx, Sem.run_pure]⟩
theorem PureOp.extract {P : Program} {o : Oper} {x : Operand} {i : Nat} (h : o.op = .extract x i) : PureOp P o x := fun u => by
  by_cases hu : ∃ vs v, u = .tuple vs ∧ vs[i]? = some v
  · obtain ⟨vs, v, rfl, hv⟩ := hu
    refine .inl ⟨v, fun a w hx => ?_⟩
    unfold execOp
    simp only [h, hx, Instr.extract, hv, Sem.run_bind, Sem.run_pure, Result.andThen_ok]
  · refine .inr fun a w K Q hQ hx hw => ?_
    unfold Oper.wp execOp at hw
    simp only [h, hx] at hw
    cases u with
    | tuple vs =>
      cases hv : vs[i]? with
      | some v => exact hu ⟨vs, v, rfl, hv⟩
      | none => simp only [Instr.extract, hv, Sem.run_bind] at hw; exact hw
    | _ => simp only [Instr.extract, Sem.run_bind] at hw; exact hw
/-- Such an operation, if it is ready, may be made first. -/
theorem wpAny_pure {P : Program} {ops : Array Oper} {Q : Exit → Act → World → Prop} {i d : Nat} {oi : Oper} {x : Operand} {u v : Value} (hi : ops[i]? = some oi) (hv : ∀ (a : Act) (w : World), a.eval x = u → (execOp a.eval oi).run P w = .ok (.value v) w) (hlk : ∀ t, x = .tmp t → t ∈ oi.looksAt ops) (hd : oi.dst = some d) (hg : oi.guard = none) (hsel : ∀ (j : Nat) (oj : Oper), ops[j]? = some oj → notSelect oj = true) (hQ : ∀ e a w, e ≠ .normal → ¬ Q e a w) :
    ∀ (fuel : Nat) (listed : Array Bool) (a : Act) (w : World), a.eval x = u →
      (∀ (j : Nat) (oj : Oper), ops[j]? = some oj → j ≠ i → listed.getD j true = false → (∀ e ∈ oj.after, Region.binds .any e = true → e.on ≠ i) → oi.apart ops oj = true) →
      i ∈ Region.ready .any ops listed → wpAny P .any ops Q fuel (listed.setIfInBounds i true) (a.put (some d) v) w → wpAny P .any ops Q (fuel + 1) listed a w := by
  have self : ∀ {fuel : Nat} {listed : Array Bool} {a : Act} {w : World}, a.eval x = u → wpAny P .any ops Q fuel (listed.setIfInBounds i true) (a.put (some d) v) w → wpOp P ops Q i (wpAny P .any ops Q fuel (listed.setIfInBounds i true)) a w := by
    intro fuel listed a w hx H
    unfold wpOp
    simp only [hi]
    have hw : Region.wanted oi (yielded ops a.tmps) = true := by simp [Region.wanted, hg]
    rw [if_pos hw]
    refine .inl ?_
    unfold Oper.wp
    rw [hv a w hx]
    simp only [Oper.upon, hd]
    exact H
  intro fuel
  induction fuel with
  | zero =>
    intro listed a w hx _ hr H
    refine ⟨fun h => (by rw [h] at hr; cases hr), fun j hj => ?_⟩
    by_cases hji : j = i
    · subst hji; exact self hx H
    · have := ready_mono hj hji
      rw [H.1] at this
      cases this
  | succ fuel ih =>
    intro listed a w hx hfree hr H
    refine ⟨fun h => (by rw [h] at hr; cases hr), fun j hj => ?_⟩
    by_cases hji : j = i
    · subst hji; exact self hx H
    · have H2 := H.2 j (ready_mono hj hji)
      obtain ⟨hjun, oj, hoj, hall⟩ := mem_ready.1 hj
      have hnot : ∀ e ∈ oj.after, Region.binds .any e = true → e.on ≠ i := fun e he hb heq => by
        have h1 := hall e he hb
        have h0 := (mem_ready.1 hr).1
        rw [heq] at h1
        rcases Nat.lt_or_ge i listed.size with h' | h'
        · simp [h'] at h0 h1; rw [h0] at h1; cases h1
        · simp [Array.getElem?_eq_none h'] at h1
      obtain ⟨a1, a2, a3⟩ := Oper.apart_spec (hfree j oj hoj hji hjun hnot)
      have hdl : d ∉ oj.looksAt ops := a1 d hd
      have hdd : oj.dst ≠ some d := fun he => a2 d hd he
      have hxo : ∀ t, x = .tmp t → oj.dst ≠ some t := fun t ht he => a3 t he (hlk t ht)
      have next : ∀ a' w', (∀ y : Operand, (∀ t, y = .tmp t → oj.dst ≠ some t) → a'.eval y = a.eval y) → wpAny P .any ops Q fuel ((listed.setIfInBounds i true).setIfInBounds j true) (a'.put (some d) v) w' → wpAny P .any ops Q (fuel + 1) (listed.setIfInBounds j true) a' w' := by
        intro a' w' he h
        refine ih _ _ _ ((he x hxo).trans hx) (fun k ok hk hki hun hno => ?_) (ready_mono hr (Ne.symm hji)) ?_
        · refine hfree k ok hk hki ?_ hno
          by_cases hjk : j = k
          · subst hjk; exact hjun
          · rw [getD_set_ne true hjk] at hun; exact hun
        · rw [Array.setIfInBounds_comm _ _ hji]
          exact h
      unfold wpOp at H2 ⊢
      simp only [hoj] at H2 ⊢
      rw [wanted_put (ops := ops) oj a (some d) v (fun t ht => by cases ht; exact hdl)] at H2
      by_cases hw : Region.wanted oj (yielded ops a.tmps) = true
      · rw [if_pos hw] at H2 ⊢
        rcases H2 with H2 | ⟨_, a1, w1, h1⟩
        · exact .inl (wp_put (ops := ops) (notSelect_spec (hsel j oj hoj)) hdl hdd hQ next H2)
        · exact absurd h1 (hQ _ _ _ (by simp))
      · rw [if_neg hw] at H2 ⊢
        refine next _ _ (fun y hy => eval_put_other a oj.dst undef y hy) ?_
        rw [put_swap a oj.dst (some d) undef v (fun t ht he => hdd (by rw [ht, he]))]
        exact H2
/-- From k on each one waits for all before it, but for those of L ahead of k. -/
def Region.chainLB (ops : Array Oper) (L : Nat → Bool) (k : Nat) : Bool := Region.downB ops && Nat.ble k ops.size && (List.range (ops.size - 1)).all fun j =>
  (L j && Nat.blt j k) || (List.range ops.size).any fun m => Nat.blt j m && (Nat.ble m k || Nat.ble m (j + 1)) && (!(L m) || Nat.ble k m) && Region.edge ops m j
structure ChainL (ops : Array Oper) (L : Nat → Bool) (k : Nat) : Prop where
  down : Region.downB ops = true
  le : k ≤ ops.size
  next : ∀ j, (L j = false ∨ k ≤ j) → j < ops.size - 1 → ∃ m, j < m ∧ (m ≤ k ∨ m ≤ j + 1) ∧ (L m = false ∨ k ≤ m) ∧ Region.edge ops m j = true
theorem ChainL.of {ops : Array Oper} {L : Nat → Bool} {k : Nat} (h : Region.chainLB ops L k = true) : ChainL ops L k := by
  unfold Region.chainLB at h
  simp only [Bool.and_eq_true] at h
  obtain ⟨⟨h1, h2⟩, h3⟩ := h
  refine ⟨h1, Nat.le_of_ble_eq_true h2, fun j hL hj => ?_⟩
  have h4 := List.all_eq_true.1 h3 j (List.mem_range.2 hj)
  rw [Bool.or_eq_true] at h4
  rcases h4 with h4 | h4
  · simp only [Bool.and_eq_true, Nat.blt_eq] at h4
    rcases hL with hL | hL
    · rw [hL] at h4; simp at h4
    · omega
  · obtain ⟨m, _, hm⟩ := List.any_eq_true.1 h4
    simp only [Bool.and_eq_true, Bool.or_eq_true, Nat.blt_eq, Bool.not_eq_true'] at hm
    exact ⟨m, hm.1.1.1, hm.1.1.2.imp Nat.le_of_ble_eq_true Nat.le_of_ble_eq_true, hm.1.2.imp id Nat.le_of_ble_eq_true, hm.2⟩
theorem ChainL.before {ops : Array Oper} {L : Nat → Bool} {k : Nat} (hC : ChainL ops L k) {listed : Array Bool} (hc : Closed ops listed) {i : Nat} (hi : i ∈ Region.ready .any ops listed) (hk : k ≤ i) : ∀ d j, (L j = false ∨ k ≤ j) → j + d = i → 0 < d → listed.getD j false = true := by
  obtain ⟨_, oi, hoi, hall⟩ := mem_ready.1 hi
  have hlt : i < ops.size := (Array.getElem?_eq_some_iff.1 hoi).1
  intro d
  induction d using Nat.strongRecOn with
  | ind d ih =>
    intro j hL hj hd
    obtain ⟨m, h1, h2, h4, h3⟩ := hC.next j hL (by omega)
    obtain ⟨o, ho, e, he, hb, heq⟩ := Region.edge_spec h3
    by_cases hmi : m = i
    · subst hmi
      rw [hoi] at ho; cases ho
      rw [← heq]; exact hall e he hb
    · have := ih (i - m) (by omega) m h4 (by omega) (by omega)
      rw [← heq]; exact hc m o ho this e he hb
section
variable {P : Program} {ops : Array Oper} {Q Q0 : Exit → Act → World → Prop} {k : Nat} {L : Nat → Bool}
theorem wpAny_chainL (hC : ChainL ops L k) : ∀ (l : List Oper) (i : Nat) (listed : Array Bool) (fuel : Nat) (a : Act) (w : World), (∀ j, l[j]? = ops[i + j]?) → i + l.length = ops.size → k ≤ i → listed.size = ops.size →
    (∀ j, j < i → listed.getD j false = true) → (∀ j, i ≤ j → j < ops.size → listed.getD j true = false) → Closed ops listed → l.length ≤ fuel → wpList P ops Q l a w → wpAny P .any ops Q fuel listed a w
  | [], i, listed, fuel, a, w, hl, hsz, hk, hls, h1, h2, hc, hf, h => by
    have hr : Region.ready .any ops listed = [] := by
      refine List.eq_nil_iff_forall_not_mem.2 fun m hm => ?_
      obtain ⟨hu, o, ho, _⟩ := mem_ready.1 hm
      have hlt : m < ops.size := (Array.getElem?_eq_some_iff.1 ho).1
      have := h1 m (by simp at hsz; omega)
      rw [getD_tf (by omega) false true, hu] at this
      simp at this
    cases fuel with
    | zero => exact ⟨hr, h⟩
    | succ f => exact ⟨fun _ => h, fun m hm => by rw [hr] at hm; cases hm⟩
  | o :: l, i, listed, fuel, a, w, hl, hsz, hk, hls, h1, h2, hc, hf, h => by
    have h0 : ops[i]? = some o := by simpa using (hl 0).symm
    have hlt : i < ops.size := (Array.getElem?_eq_some_iff.1 h0).1
    have hl' : ∀ j, l[j]? = ops[i + 1 + j]? := fun j => by have := hl (j + 1); simpa [Nat.add_assoc, Nat.add_comm 1 j] using this
    have hui := h2 i (Nat.le_refl _) hlt
    have hir : i ∈ Region.ready .any ops listed := mem_ready.2 ⟨hui, o, h0, fun e he hb => h1 _ ((Region.down_spec hC.down h0).1 e he hb)⟩
    have hnext : ∀ (a' : Act) (w' : World), wpList P ops Q l a' w' → wpAny P .any ops Q (fuel - 1) (listed.setIfInBounds i true) a' w' := fun a' w' h' =>
      wpAny_chainL hC l (i + 1) _ _ a' w' hl' (by simp at hsz; omega) (by omega) (by simp [hls]) (fun j hj => by
        by_cases hji : i = j
        · subst hji
          simp [Array.getD_eq_getD_getElem?, hls, hlt]
        · rw [getD_set_ne false hji]; exact h1 j (by omega)) (fun j hj hj2 => by rw [getD_set_ne true (by omega)]; exact h2 j (by omega) hj2) (hc.set hir) (by simp at hf; omega) h'
    obtain ⟨f, rfl⟩ : ∃ f, fuel = f + 1 := ⟨fuel - 1, by simp at hf; omega⟩
    refine ⟨fun hr => (by rw [hr] at hir; cases hir), fun m hm => ?_⟩
    obtain ⟨hu, o', ho', _⟩ := mem_ready.1 hm
    have hm2 : m = i := by
      have hmlt : m < ops.size := (Array.getElem?_eq_some_iff.1 ho').1
      rcases Nat.lt_trichotomy m i with hh | hh | hh
      · have := h1 m hh
        rw [getD_tf (by omega) false true, hu] at this
        simp at this
      · exact hh
      · have := hC.before hc hm (by omega) (m - i) i (.inr hk) (by omega) (by omega)
        rw [getD_tf (by omega) false true, hui] at this
        simp at this
    subst hm2
    unfold wpOp
    simp only [h0]
    unfold wpList at h
    by_cases hw : Region.wanted o (yielded ops a.tmps) = true
    · rw [if_pos hw] at h ⊢
      exact h.imp (Oper.wp_mono hnext) id
    · rw [if_neg hw] at h ⊢
      exact hnext _ _ h
/-- The operations of L: pure, unguarded, apart from whoever is not bound to come after. -/
structure LateOk (P : Program) (ops : Array Oper) (L : Nat → Bool) (k : Nat) : Prop where
  op : ∀ i, L i = true → i < k → ∃ oi x d, ops[i]? = some oi ∧ PureOp P oi x ∧ (∀ t, x = .tmp t → t ∈ oi.looksAt ops) ∧ oi.dst = some d ∧ oi.guard = none
  sel : ∀ (j : Nat) (oj : Oper), ops[j]? = some oj → notSelect oj = true
  apart : ∀ i oi, L i = true → i < k → ops[i]? = some oi → ∀ (j : Nat) (oj : Oper), ops[j]? = some oj → j ≠ i → (∀ e ∈ oj.after, Region.binds .any e = true → e.on ≠ i) → (∀ e ∈ oi.after, Region.binds .any e = true → e.on ≠ j) → oi.apart ops oj = true
theorem wpAny_splitL (hC : ChainL ops L k) (hL : LateOk P ops L k) {ops0 : Array Oper} (h0 : ops0.size = k) (hpre : ∀ j, j < k → ops0[j]? = ops[j]?) (hN : ∀ a w, Q0 .normal a w → wpList P ops Q (ops.toList.drop k) a w) (hQ0 : ∀ e a w, e ≠ .normal → ¬ Q0 e a w) (hQ : ∀ e a w, e ≠ .normal → ¬ Q e a w) :
    ∀ (fuel0 : Nat) (listed0 listed : Array Bool) (fuel : Nat) (a : Act) (w : World), listed0.size = k → listed.size = ops.size → (∀ j, j < k → ∀ d, listed0.getD j d = listed.getD j d) → (∀ j, k ≤ j → j < ops.size → listed.getD j true = false) →
      Closed ops listed → fuel0 + (ops.size - k) ≤ fuel → wpAny P .any ops0 Q0 fuel0 listed0 a w → wpAny P .any ops Q fuel listed a w := by
  have hle := hC.le
  have hE : ∀ e a w, e ≠ .normal → Q0 e a w → Q e a w := fun e a w h h2 => absurd h2 (hQ0 e a w h)
  have hd0 : Region.downB ops0 = true := by
    unfold Region.downB
    refine List.all_eq_true.2 fun i hi => ?_
    have hik := List.mem_range.1 hi
    have h1 := List.all_eq_true.1 hC.down i (List.mem_range.2 (by omega))
    rw [hpre i (by omega)]
    exact h1
  have all : ∀ (fuel0 : Nat) (listed0 listed : Array Bool) (fuel : Nat) (a : Act) (w : World), listed0.size = k → listed.size = ops.size → (∀ j, j < k → ∀ d, listed0.getD j d = listed.getD j d) → (∀ j, k ≤ j → j < ops.size → listed.getD j true = false) →
      Closed ops listed → fuel0 + (ops.size - k) ≤ fuel → wpAny P .any ops0 Q0 fuel0 listed0 a w → (∀ j, j < k → listed.getD j false = true) → wpAny P .any ops Q fuel listed a w := by
    intro fuel0 listed0 listed fuel a w hs0 hs hag hun hc hf H hall
    have hr0 : Region.ready .any ops0 listed0 = [] := by
      refine List.eq_nil_iff_forall_not_mem.2 fun m hm => ?_
      obtain ⟨hu, o, ho, _⟩ := mem_ready.1 hm
      have hlt : m < ops0.size := (Array.getElem?_eq_some_iff.1 ho).1
      have h1 := hall m (by omega)
      rw [← hag m (by omega), getD_tf (by omega) false true, hu] at h1
      simp at h1
    have hQ : Q0 .normal a w := by
      cases fuel0 with
      | zero => exact H.2
      | succ f => exact H.1 hr0
    exact wpAny_chainL hC (ops.toList.drop k) k listed fuel a w (fun j => by rw [List.getElem?_drop, Array.getElem?_toList]) (by rw [List.length_drop, Array.length_toList]; omega) (Nat.le_refl _) hs hall hun hc (by rw [List.length_drop, Array.length_toList]; omega) (hN a w hQ)
  intro fuel0
  induction fuel0 with
  | zero =>
    intro listed0 listed fuel a w hs0 hs hag hun hc hf H
    refine all 0 listed0 listed fuel a w hs0 hs hag hun hc hf H fun j hj => ?_
    cases hh : listed.getD j false with
    | true => rfl
    | false =>
      rw [← hag j hj, getD_tf (by omega) false true] at hh
      obtain ⟨m, _, hm⟩ := ready_least hd0 (by omega) j (by omega) hh
      rw [H.1] at hm; cases hm
  | succ fuel0 ih =>
    intro listed0 listed fuel a w hs0 hs hag hun hc hf H
    have hset : ∀ m, m < k → m ∈ Region.ready .any ops listed → ∀ (a' : Act) (w' : World) (f : Nat), fuel0 + (ops.size - k) ≤ f → wpAny P .any ops0 Q0 fuel0 (listed0.setIfInBounds m true) a' w' → wpAny P .any ops Q f (listed.setIfInBounds m true) a' w' := fun m hmk hm a' w' f hf' h' =>
      ih _ _ f a' w' (by simp [hs0]) (by simp [hs]) (fun j hj d => by
        by_cases hmj : m = j
        · subst hmj
          simp [Array.getD_eq_getD_getElem?, hs0, hs, hmk, show m < ops.size by omega]
        · rw [getD_set_ne d hmj, getD_set_ne d hmj]; exact hag j hj d) (fun j hj hj2 => by rw [getD_set_ne true (by omega)]; exact hun j hj hj2) (hc.set hm) hf' h'
    by_cases hall : ∀ j, j < k → listed.getD j false = true
    · exact all _ listed0 listed fuel a w hs0 hs hag hun hc hf H hall
    · obtain ⟨f, rfl⟩ : ∃ f, fuel = f + 1 := ⟨fuel - 1, by omega⟩
      have hready0 : ∀ m, m < k → m ∈ Region.ready .any ops listed → m ∈ Region.ready .any ops0 listed0 := fun m hmk hm => by
        obtain ⟨hu, o, ho, hdep⟩ := mem_ready.1 hm
        exact mem_ready.2 ⟨by rw [hag m hmk]; exact hu, o, by rw [hpre m hmk]; exact ho, fun e he hb => by
          have := (Region.down_spec hC.down ho).1 e he hb
          rw [hag _ (by omega)]; exact hdep e he hb⟩
      by_cases hlate : ∀ j, j < k → L j = false → listed.getD j false = true
      · -- only late ones are left: the least of them is made first
        simp only [Classical.not_forall] at hall
        obtain ⟨j, hj, hjn⟩ := hall
        have hju : listed.getD j true = false := by rw [getD_tf (by omega) true false]; simpa using hjn
        obtain ⟨m, hmj, hm⟩ := ready_least hC.down hs j (by omega) hju
        have hmk : m < k := by omega
        have hmL : L m = true := by
          cases hh : L m with
          | true => rfl
          | false =>
            have := hlate m hmk hh
            rw [getD_tf (by omega) false true, (mem_ready.1 hm).1] at this
            simp at this
        obtain ⟨oi, x, d, hoi, hp, hlk, hd, hg⟩ := hL.op m hmL hmk
        have H1 := H.2 m (hready0 m hmk hm)
        unfold wpOp at H1
        have ho0 : ops0[m]? = some oi := by rw [hpre m hmk]; exact hoi
        simp only [ho0] at H1
        have hw : Region.wanted oi (yielded ops0 a.tmps) = true := by simp [Region.wanted, hg]
        rw [if_pos hw] at H1
        rcases H1 with H1 | ⟨_, a1, w1, h1⟩
        · rcases hp (a.eval x) with ⟨v, hv⟩ | hno
          · unfold Oper.wp at H1
            rw [hv a w rfl] at H1
            simp only [Oper.upon, hd] at H1
            exact wpAny_pure hoi hv hlk hd hg hL.sel hQ f listed a w rfl (fun j oj hoj hji hun hno => hL.apart m oi hmL hmk hoi j oj hoj hji hno fun e he hb heq => by
              obtain ⟨_, o', ho', hdep⟩ := mem_ready.1 hm
              rw [hoi] at ho'; cases ho'
              have h5 := hdep e he hb
              have hjl : j < listed.size := by rw [hs]; exact (Array.getElem?_eq_some_iff.1 hoj).1
              rw [heq, getD_tf hjl false true, hun] at h5
              simp at h5) hm (hset m hmk hm _ _ f (by omega) H1)
          · exact absurd H1 (hno a w _ _ hQ0 rfl)
        · exact absurd h1 (hQ0 _ _ _ (by simp))
      · simp only [Classical.not_forall] at hlate
        obtain ⟨j, hj, hjL, hjn⟩ := hlate
        have hju : listed.getD j true = false := by rw [getD_tf (by omega) true false]; simpa using hjn
        refine ⟨fun hr => ?_, fun m hm => ?_⟩
        · obtain ⟨m, _, hm⟩ := ready_least hC.down hs j (by omega) hju
          rw [hr] at hm; cases hm
        · have hmk : m < k := by
            refine Nat.lt_of_not_le fun hkm => hjn ?_
            exact hC.before hc hm hkm (m - j) j (.inl hjL) (by omega) (by omega)
          have h1 := H.2 m (hready0 m hmk hm)
          obtain ⟨hu, o, ho, hdep⟩ := mem_ready.1 hm
          have ho0 : ops0[m]? = some o := by rw [hpre m hmk]; exact ho
          unfold wpOp at h1 ⊢
          simp only [ho, ho0] at h1 ⊢
          rw [wanted_same (ops := ops) fun p hp => hpre _ (by have := (Region.down_spec hC.down ho).2 p hp; omega)] at h1
          have hnext : ∀ (a' : Act) (w' : World), wpAny P .any ops0 Q0 fuel0 (listed0.setIfInBounds m true) a' w' → wpAny P .any ops Q f (listed.setIfInBounds m true) a' w' := fun a' w' h' => hset m hmk hm a' w' f (by omega) h'
          by_cases hw : Region.wanted o (yielded ops a.tmps) = true
          · rw [if_pos hw] at h1 ⊢
            exact h1.imp (wp_to2 hnext hE) fun h => ⟨h.1, h.2.imp fun _ => Exists.imp fun _ => hE _ _ _ (by simp)⟩
          · rw [if_neg hw] at h1 ⊢
            exact hnext _ _ h1
end
/-- The late ones, by a look at them. -/
def pureB (o : Oper) : Bool := (match o.op with | .move _ => true | .extract _ _ => true | _ => false) && o.guard.isNone && o.dst.isSome
theorem pureB_spec {P : Program} {ops : Array Oper} {o : Oper} (h : pureB o = true) : ∃ x d, PureOp P o x ∧ (∀ t, x = .tmp t → t ∈ o.looksAt ops) ∧ o.dst = some d ∧ o.guard = none := by
  unfold pureB at h
  simp only [Bool.and_eq_true] at h
  obtain ⟨⟨h1, h2⟩, h3⟩ := h
  obtain ⟨d, hd⟩ := Option.isSome_iff_exists.1 h3
  have hg : o.guard = none := by simpa using h2
  cases hop : o.op with
  | move x => exact ⟨x, d, .move hop, fun t ht => looks_op (by rw [hop, ht]; simp [Op.operands]), hd, hg⟩
  | extract x i => exact ⟨x, d, .extract hop, fun t ht => looks_op (by rw [hop, ht]; simp [Op.operands]), hd, hg⟩
  | _ => rw [hop] at h1; simp at h1
def lateB (ops : Array Oper) (L : List Nat) (k : Nat) : Bool := (ops.toList.all notSelect) && L.all fun i => Nat.blt i k && ((ops[i]?).map fun oi => pureB oi && (List.range ops.size).all fun j => Nat.beq j i || Region.edge ops j i || Region.edge ops i j || ((ops[j]?).map fun oj => oi.apart ops oj).getD true).getD false
theorem LateOk.of {P : Program} {ops : Array Oper} {L : List Nat} {k : Nat} (h : lateB ops L k = true) : LateOk P ops (fun i => L.contains i) k := by
  unfold lateB at h
  simp only [Bool.and_eq_true] at h
  have hL : ∀ i, L.contains i = true → ∃ oi, ops[i]? = some oi ∧ pureB oi = true ∧ ∀ j oj, ops[j]? = some oj → j ≠ i → (∀ e ∈ oj.after, Region.binds .any e = true → e.on ≠ i) → (∀ e ∈ oi.after, Region.binds .any e = true → e.on ≠ j) → oi.apart ops oj = true := fun i hi => by
    have h1 := List.all_eq_true.1 h.2 i (List.contains_iff_mem.1 hi)
    simp only [Bool.and_eq_true] at h1
    cases ho : ops[i]? with
    | none => rw [ho] at h1; simp at h1
    | some oi =>
      rw [ho] at h1
      simp only [Option.map_some, Option.getD_some, Bool.and_eq_true] at h1
      refine ⟨oi, rfl, h1.2.1, fun j oj hj hji hn hn2 => ?_⟩
      have h2 := List.all_eq_true.1 h1.2.2 j (List.mem_range.2 (Array.getElem?_eq_some_iff.1 hj).1)
      rw [hj] at h2
      simp only [Option.map_some, Option.getD_some, Bool.or_eq_true] at h2
      rcases h2 with ((h2 | h2) | h2) | h2
      · exact absurd (Nat.eq_of_beq_eq_true h2) hji
      · obtain ⟨o, ho2, e, he, hb, heq⟩ := Region.edge_spec h2
        rw [hj] at ho2; cases ho2
        exact absurd heq (hn e he hb)
      · obtain ⟨o, ho2, e, he, hb, heq⟩ := Region.edge_spec h2
        rw [ho] at ho2; cases ho2
        exact absurd heq (hn2 e he hb)
      · exact h2
  refine ⟨fun i hi _ => ?_, fun j oj hj => List.all_eq_true.1 h.1 oj (by simpa using Array.mem_of_getElem? hj), fun i oi hi _ hoi j oj hj hji hn hn2 => ?_⟩
  · obtain ⟨oi, h1, h2, _⟩ := hL i hi
    obtain ⟨x, d, h3, h4, h5, h6⟩ := pureB_spec (P := P) (ops := ops) h2
    exact ⟨oi, x, d, h1, h3, h4, h5, h6⟩
  · obtain ⟨oi', h1, _, h3⟩ := hL i hi
    rw [hoi] at h1; cases h1
    exact h3 j oj hj hji hn hn2
def QN (Q : Post) : Post := fun ex e σ => match ex with | .normal => Q .normal e σ | _ => False
/-- A region that draws its order and makes new objects, whose operations from k on come one after the other, but for the late ones. -/
theorem AWP.drawFreshL {cx : Cx} {rid : Nat} {l : List Oper} {e : Env} {σ : Obs} {Q : Post} (k : Nat) (L : List Nat) (Φ : List Fr) (ok : FrOk cx Φ σ) (hm : cx.P.follows .mixedOrders = true) (hB : Region.lexB .any (l.take k).toArray = true) (hC : Region.chainLB l.toArray (fun i => L.contains i) k = true) (hL : lateB l.toArray L k = true) (hlk : dstB Φ (l.take k) = true)
    (h : XRun cx (l.take k).toArray σ Φ (l.take k) (Env.killAll Φ e) (fun e => AOps cx l.toArray (l.drop k) e (frObs Φ ++ σ) (QN Q))) : AWP cx (.region rid l.toArray true) e σ Q := by
  intro a w ⟨F, ρ, hr⟩
  simp only [Region.lexB, Bool.and_eq_true] at hB
  have hch := ChainL.of hC
  have hkl : k ≤ l.length := by simpa using hch.le
  have h1 := anyX_lex (l.take k) 0 (Array.replicate (l.take k).toArray.size false) (Env.killAll Φ e) (by simp) (by simpa using hB.2) h
  have hone : ∀ f ∈ Φ, ∀ (i j : Nat) (o o' : Oper), (l.take k).toArray[i]? = some o → (l.take k).toArray[j]? = some o' → o.dst = some f.dst → o'.dst = some f.dst → i = j := fun f hf i j o o' hi hj ho ho' => by
    rw [List.getElem?_toArray] at hi hj
    have h3 := List.all_eq_true.1 (List.all_eq_true.1 (List.all_eq_true.1 hlk f hf) i (List.mem_range.2 (List.getElem?_eq_some_iff.1 hi).1)) j (List.mem_range.2 (List.getElem?_eq_some_iff.1 hj).1)
    rw [hi, hj] at h3
    simp only [Option.map_some, Option.getD_some, Bool.or_eq_true] at h3
    rcases h3 with (h3 | h3) | h3
    · exact Nat.eq_of_beq_eq_true h3
    · exact absurd ho (neDst_spec h3)
    · exact absurd ho' (neDst_spec h3)
  have h2 := wpAny_of_X (cx := cx) (ops := (l.take k).toArray) (Q := fun ex e σ => match ex with | .normal => AOps cx l.toArray (l.drop k) e σ (QN Q) | _ => False) (fun o ho => XRun.dsts _ _ h o (by simpa using ho)) hone ok _ _ (Env.killAll Φ e) _ _
    ⟨[], fun g hg => (nomatch hg), fun g hg => (nomatch hg), fun g hg => (nomatch hg), fun f hf _ t => killAll_all Φ _ f hf t, R.killAll Φ ⟨F, ρ, hr.drew⟩⟩ h1
  have h3 : wpAny cx.P .any l.toArray (lift cx (QN Q)) l.toArray.size (Array.replicate l.toArray.size false) a { w with drawn := w.drawn + 1 } := by
    refine wpAny_splitL hch (LateOk.of hL) (ops0 := (l.take k).toArray) (by simp; omega) (fun j hj => ?_) ?_ ?_ ?_ (l.take k).length _ _ _ _ _ (by simp; omega) (by simp) ?_ ?_ ?_ (by simp; omega) h2
    · rw [List.getElem?_toArray, List.getElem?_toArray, List.getElem?_take, if_pos hj]
    · rintro a w ⟨e, σ, h3, h4⟩
      have := h3 a w h4
      simpa using this
    · rintro ex a w hne ⟨e, σ, h3, _⟩
      cases ex <;> first | exact absurd rfl hne | exact h3.elim
    · rintro ex a w hne ⟨e, σ, h3, _⟩
      cases ex <;> first | exact absurd rfl hne | exact h3.elim
    · intro j hj d
      have h5 : j < l.length := by omega
      have h6 : j < min k l.length := by omega
      simp [Array.getD_eq_getD_getElem?, h5, h6]
    · intro j hj hj2
      have : j < l.length := by simpa using hj2
      simp [Array.getD_eq_getD_getElem?, this]
    · intro i o ho hi
      have : i < l.length := by simpa using (Array.getElem?_eq_some_iff.1 ho).1
      simp [Array.getD_eq_getD_getElem?, this] at hi
  refine wp_mono (wp_region_any hm h3) ?_
  rintro ex a w ⟨e, σ, h4, h5⟩
  cases ex with
  | normal => exact ⟨e, σ, h4, h5⟩
  | exit id => exact h4.elim
  | goto l => exact h4.elim
  | ret => exact h4.elim
  | panic c => exact h4.elim
  | outgrown => exact h4.elim
end Go.Proofs.YtagdgclfnbiahaaDoor

namespace Go.Proofs.YtagdgclfnbiahaaDoor
open Go.RowKit
set_option linter.unusedVariables false

def Env.puts (e : Env) : List (Nat × S) → Env
  | [] => e
  | p :: l => Env.puts (e.put (some p.1) p.2) l
theorem puts_other {t : Nat} : ∀ {l : List (Nat × S)} {e : Env}, t ∉ l.map Prod.fst → Env.puts e l t = e t
  | [], _, _ => rfl
  | p :: l, e, h => by
    simp only [List.map_cons, List.mem_cons, not_or] at h
    unfold Env.puts
    rw [puts_other h.2, Env.put_other _ _ _ _ h.1]
theorem puts_put {dst : Option Nat} {s : S} : ∀ {l : List (Nat × S)} {e : Env}, (∀ d, dst = some d → d ∉ l.map Prod.fst) → Env.puts (e.put dst s) l = (Env.puts e l).put dst s
  | [], _, _ => rfl
  | p :: l, e, h => by
    unfold Env.puts
    rw [Env.put_comm e dst (some p.1) s p.2 (fun d hd he => h d hd (by rw [← Option.some.inj he]; simp)), puts_put fun d hd hm => h d hd (by simp only [List.map_cons, List.mem_cons]; exact .inr hm)]
/-- An object that the region makes, and the slots that may hold it. -/
structure Fc where
  id : Nat
  slots : List Nat
def Clean (Φ : List Fc) (e : Env) : Prop := ∀ f ∈ Φ, ∀ t, f.slots.contains t = false → (e t).kill f.id = e t
def QE (e1 : Env) (σ1 : Obs) : Post := fun ex e σ => match ex with | .normal => e = e1 ∧ σ = σ1 | _ => False
/-- An operation that makes or turns objects: the slots that it sets, the objects behind it. -/
def GE (cx : Cx) (ops : Array Oper) (Φ : List Fc) (o : Oper) (e : Env) (σ : Obs) (si : List (Nat × S)) (σ' : Obs) : Prop :=
  ∀ e0 : Env, (∀ t, t ∈ o.looksAt ops → e0 t = e t) → (∀ t, t ∈ si.map Prod.fst → e0 t = e t) → Clean Φ e0 → AOps cx ops [o] e0 σ (QE (Env.puts e0 si) σ')
def LStep (cx : Cx) (ops : Array Oper) (Φ : List Fc) (ef : Nat → Bool) (K : Nat → List Nat) (I : Obs → Prop) (k : Nat) (o : Oper) (e : Env) (σ : Obs) (e' : Env) (σ' : Obs) : Prop :=
  (GW ops o e true ∧ ef k = false ∧ ∃ s, I σ ∧ (∀ τ, I τ → AOp cx.P cx.B ops o e τ s) ∧ (∀ f ∈ Φ, (∃ t, o.dst = some t ∧ f.slots.contains t = true) ∨ s.kill f.id = s) ∧ e' = e.put o.dst s ∧ σ' = σ) ∨
  (GW ops o e false ∧ ef k = false ∧ e' = e.put o.dst (.d (.v undef)) ∧ σ' = σ) ∨
  (GW ops o e true ∧ ef k = true ∧ I σ ∧ I σ' ∧ ∃ si, si.map Prod.fst = K k ∧ GE cx ops Φ o e σ si σ' ∧ (∀ p ∈ si, ∀ f ∈ Φ, f.slots.contains p.1 = true ∨ p.2.kill f.id = p.2) ∧ e' = Env.puts e si)
def LRun (cx : Cx) (ops : Array Oper) (Φ : List Fc) (ef : Nat → Bool) (K : Nat → List Nat) (I : Obs → Prop) : Nat → List Oper → Env → Obs → (Env → Obs → Prop) → Prop
  | _, [], e, σ, Q => Q e σ
  | k, o :: l, e, σ, Q => DstOk cx.N o ∧ ∃ e' σ', LStep cx ops Φ ef K I k o e σ e' σ' ∧ LRun cx ops Φ ef K I (k + 1) l e' σ' Q
def anyL (cx : Cx) (ops : Array Oper) (Φ : List Fc) (ef : Nat → Bool) (K : Nat → List Nat) (I : Obs → Prop) (Q : Env → Obs → Prop) : Nat → Array Bool → Env → Obs → Prop
  | 0, listed, e, σ => Region.ready .any ops listed = [] ∧ Q e σ
  | fuel + 1, listed, e, σ => (Region.ready .any ops listed = [] → Q e σ) ∧
      ∀ i ∈ Region.ready .any ops listed, ∀ o, ops[i]? = some o → ∃ e' σ', LStep cx ops Φ ef K I i o e σ e' σ' ∧ anyL cx ops Φ ef K I Q fuel (listed.setIfInBounds i true) e' σ'
/-- The slots of one are none of the other's. -/
def keysOkB (ops : Array Oper) (K : Nat → List Nat) (i j : Nat) (oi oj : Oper) : Bool :=
  ((K i).all fun k => !((oj.looksAt ops).contains k) && neDst oj k) && ((K j).all fun k => !((oi.looksAt ops).contains k) && neDst oi k) && (!(K i).any fun k => (K j).contains k)
theorem keysOk_l {ops : Array Oper} {K : Nat → List Nat} {i j : Nat} {oi oj : Oper} (h : keysOkB ops K i j oi oj = true) : ∀ k ∈ K i, k ∉ oj.looksAt ops ∧ oj.dst ≠ some k := fun k hk => by
  unfold keysOkB at h
  simp only [Bool.and_eq_true] at h
  have h1 := List.all_eq_true.1 h.1.1 k hk
  simp only [Bool.and_eq_true, Bool.not_eq_true', List.contains_eq_mem, decide_eq_false_iff_not] at h1
  exact ⟨h1.1, neDst_spec h1.2⟩
theorem keysOk_r {ops : Array Oper} {K : Nat → List Nat} {i j : Nat} {oi oj : Oper} (h : keysOkB ops K i j oi oj = true) : ∀ k ∈ K j, k ∉ oi.looksAt ops ∧ oi.dst ≠ some k := fun k hk => by
  unfold keysOkB at h
  simp only [Bool.and_eq_true] at h
  have h1 := List.all_eq_true.1 h.1.2 k hk
  simp only [Bool.and_eq_true, Bool.not_eq_true', List.contains_eq_mem, decide_eq_false_iff_not] at h1
  exact ⟨h1.1, neDst_spec h1.2⟩
theorem GE.same {cx : Cx} {ops : Array Oper} {Φ : List Fc} {o : Oper} {e e' : Env} {σ σ' : Obs} {si : List (Nat × S)} (h : GE cx ops Φ o e σ si σ') (h1 : ∀ t, t ∈ o.looksAt ops → e' t = e t) (h2 : ∀ t, t ∈ si.map Prod.fst → e' t = e t) : GE cx ops Φ o e' σ si σ' :=
  fun e0 k1 k2 k3 => h e0 (fun t ht => (k1 t ht).trans (h1 t ht)) (fun t ht => (k2 t ht).trans (h2 t ht)) k3
theorem anyL_first {cx : Cx} {ops : Array Oper} {Φ : List Fc} {ef : Nat → Bool} {K : Nat → List Nat} {I : Obs → Prop} (hK : ∀ k, ef k = false → K k = []) {Q : Env → Obs → Prop} {i : Nat} {oi : Oper} (hi : ops[i]? = some oi) (late : Nat → Bool)
    (hclos : ∀ j oj, ops[j]? = some oj → late j = true → ∃ e ∈ oj.after, Region.binds .any e = true ∧ (e.on = i ∨ late e.on = true)) :
    ∀ (fuel : Nat) (listed : Array Bool) (e : Env) (σ : Obs) (e1 : Env) (σ1 : Obs), (∀ j, late j = true → listed.getD j false = false) →
      (∀ j oj, ops[j]? = some oj → j ≠ i → listed.getD j true = false → (∀ e ∈ oj.after, Region.binds .any e = true → e.on ≠ i) → oi.apart ops oj = true ∧ (late j = false → (ef i = false ∨ ef j = false) ∧ keysOkB ops K i j oi oj = true)) →
      i ∈ Region.ready .any ops listed → LStep cx ops Φ ef K I i oi e σ e1 σ1 → anyL cx ops Φ ef K I Q fuel (listed.setIfInBounds i true) e1 σ1 → anyL cx ops Φ ef K I Q (fuel + 1) listed e σ := by
  intro fuel
  induction fuel with
  | zero =>
    intro listed e σ e1 σ1 _ _ hr hy H
    refine ⟨fun h => (by rw [h] at hr; cases hr), fun j hj o ho => ?_⟩
    by_cases hji : j = i
    · subst hji
      rw [hi] at ho; cases ho
      exact ⟨e1, σ1, hy, H⟩
    · have := ready_mono hj hji
      rw [H.1] at this
      cases this
  | succ fuel ih =>
    intro listed e σ e1 σ1 hlate hfree hr hy H
    refine ⟨fun h => (by rw [h] at hr; cases hr), fun j hj oj hoj => ?_⟩
    by_cases hji : j = i
    · subst hji
      rw [hi] at hoj; cases hoj
      exact ⟨e1, σ1, hy, H⟩
    · obtain ⟨e2, σ2, h1, h2⟩ := H.2 j (ready_mono hj hji) oj hoj
      obtain ⟨hjun, oj', hoj', hall⟩ := mem_ready.1 hj
      rw [hoj] at hoj'; cases hoj'
      have hnot : ∀ e ∈ oj.after, Region.binds .any e = true → e.on ≠ i := fun e he hb heq => by
        have h1 := hall e he hb
        have h0 := (mem_ready.1 hr).1
        rw [heq] at h1
        rcases Nat.lt_or_ge i listed.size with h' | h'
        · simp [h'] at h0 h1; rw [h0] at h1; cases h1
        · simp [Array.getElem?_eq_none h'] at h1
      have hjl : late j = false := by
        cases hl : late j with
        | false => rfl
        | true =>
          obtain ⟨e, he, hb, hh⟩ := hclos j oj hoj hl
          rcases hh with hh | hh
          · exact absurd hh (hnot e he hb)
          · have h3 := hall e he hb
            rw [hlate _ hh] at h3
            simp at h3
      obtain ⟨hap, hss⟩ := hfree j oj hoj hji hjun hnot
      obtain ⟨hs1, hs2⟩ := hss hjl
      obtain ⟨a1, a2, a3⟩ := Oper.apart_spec hap
      have kl := keysOk_l hs2
      have kr := keysOk_r hs2
      have fin : ∀ ej σj, LStep cx ops Φ ef K I j oj e σ ej σj → LStep cx ops Φ ef K I i oi ej σj e2 σ2 → ∃ e' σ', LStep cx ops Φ ef K I j oj e σ e' σ' ∧ anyL cx ops Φ ef K I Q (fuel + 1) (listed.setIfInBounds j true) e' σ' := fun ej σj hsj hsi => by
        refine ⟨ej, σj, hsj, ?_⟩
        refine ih (listed.setIfInBounds j true) ej σj e2 σ2 (fun k hk => ?_) (fun k ok hk hki hun hno => ?_) (ready_mono hr (Ne.symm hji)) hsi ?_
        · have hkj : j ≠ k := fun h => by rw [h, hk] at hjl; simp at hjl
          rw [getD_set_ne false hkj]
          exact hlate k hk
        · refine hfree k ok hk hki ?_ hno
          by_cases hjk : j = k
          · subst hjk; exact hjun
          · rw [getD_set_ne true hjk] at hun; exact hun
        · rw [Array.setIfInBounds_comm _ _ hji]
          exact h2
      have look1 : ∀ {s : S} t, t ∈ oj.looksAt ops → (e.put oi.dst s) t = e t := fun t ht => put_looks a1 t ht
      have look2 : ∀ {s : S} t, t ∈ oi.looksAt ops → (e.put oj.dst s) t = e t := fun t ht => put_looks a3 t ht
      rcases hy with ⟨hgi, hei, s, hI, hopi, hcl, rfl, rfl⟩ | ⟨hgi, hei, rfl, rfl⟩ | ⟨hgi, hei, hi1, hi2, si, hki, hopi, hci, rfl⟩
      · rcases h1 with ⟨hgj, hej, sj, hIj, hopj, hclj, rfl, rfl⟩ | ⟨hgj, hej, rfl, rfl⟩ | ⟨hgj, hej, hj1, hj2, sj, hkj, hopj, hcj, rfl⟩
        · exact fin (e.put oj.dst sj) _ (.inl ⟨hgj.same fun t ht => (look1 t ht).symm, hej, sj, hIj, fun τ hτ => (hopj τ hτ).same fun t ht => (look1 t ht).symm, hclj, rfl, rfl⟩) (.inl ⟨hgi.same (fun t ht => look2 t ht), hei, s, hI, fun τ hτ => (hopi τ hτ).same (fun t ht => look2 t ht), hcl, (Env.put_comm e oi.dst oj.dst s sj a2), rfl⟩)
        · exact fin (e.put oj.dst (.d (.v undef))) _ (.inr (.inl ⟨hgj.same fun t ht => (look1 t ht).symm, hej, rfl, rfl⟩)) (.inl ⟨hgi.same (fun t ht => look2 t ht), hei, s, hI, fun τ hτ => (hopi τ hτ).same (fun t ht => look2 t ht), hcl, (Env.put_comm e oi.dst oj.dst s _ a2), rfl⟩)
        · have hkd : ∀ d, oi.dst = some d → d ∉ sj.map Prod.fst := fun d hd hm => by rw [hkj] at hm; exact (kr d hm).2 hd
          have hkl : ∀ t, t ∈ oi.looksAt ops → Env.puts e sj t = e t := fun t ht => puts_other fun hm => by rw [hkj] at hm; exact (kr t hm).1 ht
          refine fin (Env.puts e sj) σ2 (.inr (.inr ⟨hgj.same fun t ht => (look1 t ht).symm, hej, hj1, hj2, sj, hkj, hopj.same (fun t ht => (look1 t ht).symm) (fun t ht => ?_), hcj, rfl⟩)) (.inl ⟨hgi.same hkl, hei, s, hj2, fun τ hτ => (hopi τ hτ).same hkl, hcl, puts_put hkd, rfl⟩)
          cases hd : oi.dst with
          | none => rfl
          | some d => exact (Env.put_other _ _ _ _ (fun (he : t = d) => hkd d hd (he ▸ ht))).symm
      · rcases h1 with ⟨hgj, hej, sj, hIj, hopj, hclj, rfl, rfl⟩ | ⟨hgj, hej, rfl, rfl⟩ | ⟨hgj, hej, hj1, hj2, sj, hkj, hopj, hcj, rfl⟩
        · exact fin (e.put oj.dst sj) _ (.inl ⟨hgj.same fun t ht => (look1 t ht).symm, hej, sj, hIj, fun τ hτ => (hopj τ hτ).same fun t ht => (look1 t ht).symm, hclj, rfl, rfl⟩) (.inr (.inl ⟨hgi.same (fun t ht => look2 t ht), hei, (Env.put_comm e oi.dst oj.dst _ sj a2), rfl⟩))
        · exact fin (e.put oj.dst (.d (.v undef))) _ (.inr (.inl ⟨hgj.same fun t ht => (look1 t ht).symm, hej, rfl, rfl⟩)) (.inr (.inl ⟨hgi.same (fun t ht => look2 t ht), hei, (Env.put_comm e oi.dst oj.dst _ _ a2), rfl⟩))
        · have hkd : ∀ d, oi.dst = some d → d ∉ sj.map Prod.fst := fun d hd hm => by rw [hkj] at hm; exact (kr d hm).2 hd
          have hkl : ∀ t, t ∈ oi.looksAt ops → Env.puts e sj t = e t := fun t ht => puts_other fun hm => by rw [hkj] at hm; exact (kr t hm).1 ht
          refine fin (Env.puts e sj) σ2 (.inr (.inr ⟨hgj.same fun t ht => (look1 t ht).symm, hej, hj1, hj2, sj, hkj, hopj.same (fun t ht => (look1 t ht).symm) (fun t ht => ?_), hcj, rfl⟩)) (.inr (.inl ⟨hgi.same hkl, hei, puts_put hkd, rfl⟩))
          cases hd : oi.dst with
          | none => rfl
          | some d => exact (Env.put_other _ _ _ _ (fun (he : t = d) => hkd d hd (he ▸ ht))).symm
      · have hkd : ∀ d, oj.dst = some d → d ∉ si.map Prod.fst := fun d hd hm => by rw [hki] at hm; exact (kl d hm).2 hd
        have hkl : ∀ t, t ∈ oj.looksAt ops → Env.puts e si t = e t := fun t ht => puts_other fun hm => by rw [hki] at hm; exact (kl t hm).1 ht
        have hke : ∀ {s : S} t, t ∈ si.map Prod.fst → (e.put oj.dst s) t = e t := fun {s} t ht => by
          cases hd : oj.dst with
          | none => rfl
          | some d => exact Env.put_other _ _ _ _ (fun he => hkd d hd (he ▸ ht))
        rcases h1 with ⟨hgj, hej, sj, hIj, hopj, hclj, rfl, rfl⟩ | ⟨hgj, hej, rfl, rfl⟩ | ⟨hgj, hej, hj1, hj2, sj, hkj, hopj, hcj, rfl⟩
        · exact fin (e.put oj.dst sj) σ (.inl ⟨hgj.same fun t ht => (hkl t ht).symm, hej, sj, hi1, fun τ hτ => (hopj τ hτ).same fun t ht => (hkl t ht).symm, hclj, rfl, rfl⟩) (.inr (.inr ⟨hgi.same (fun t ht => look2 t ht), hei, hi1, hi2, si, hki, hopi.same (fun t ht => look2 t ht) (fun t ht => hke t ht), hci, (puts_put hkd).symm⟩))
        · exact fin (e.put oj.dst (.d (.v undef))) σ (.inr (.inl ⟨hgj.same fun t ht => (hkl t ht).symm, hej, rfl, rfl⟩)) (.inr (.inr ⟨hgi.same (fun t ht => look2 t ht), hei, hi1, hi2, si, hki, hopi.same (fun t ht => look2 t ht) (fun t ht => hke t ht), hci, (puts_put hkd).symm⟩))
        · rcases hs1 with h | h
          · rw [hei] at h; simp at h
          · rw [hej] at h; simp at h
/-- The check: whoever is free to change places has nothing to do with the other. -/
def Region.keysFree (ops : Array Oper) (ef : Nat → Bool) (K : Nat → List Nat) (listed : Array Bool) (k : Nat) (late : Nat → Bool) : Bool :=
  (List.range ops.size).all fun j =>
    (!(late j) || (!(listed.getD j false) && ((ops[j]?).map fun o => o.after.any fun e => Region.binds .any e && (Nat.beq e.on k || late e.on)).getD true)) &&
    (Nat.beq j k || listed.getD j true || late j || Region.edge ops j k || ((!(ef k) || !(ef j)) && ((ops[k]?).bind fun oi => (ops[j]?).map fun oj => keysOkB ops K k j oi oj).getD false))
def Region.keysFrom (ops : Array Oper) (ef : Nat → Bool) (K : Nat → List Nat) : Nat → Nat → Array Bool → Bool
  | 0, _, _ => true
  | fuel + 1, k, listed => Region.keysFree ops ef K listed k (Region.lateB ops k) && Region.keysFrom ops ef K fuel (k + 1) (listed.setIfInBounds k true)
theorem Region.keysFree_spec {ops : Array Oper} {ef : Nat → Bool} {K : Nat → List Nat} {listed : Array Bool} {k : Nat} {oi : Oper} {late : Nat → Bool} (h : Region.keysFree ops ef K listed k late = true) (hk : ops[k]? = some oi) (hl : ∀ j, late j = true → j < ops.size) :
    (∀ j oj, ops[j]? = some oj → late j = true → ∃ e ∈ oj.after, Region.binds .any e = true ∧ (e.on = k ∨ late e.on = true)) ∧ (∀ j, late j = true → listed.getD j false = false) ∧
    ∀ j oj, ops[j]? = some oj → j ≠ k → listed.getD j true = false → (∀ e ∈ oj.after, Region.binds .any e = true → e.on ≠ k) → late j = false → (ef k = false ∨ ef j = false) ∧ keysOkB ops K k j oi oj = true := by
  have h1 : ∀ j, j < ops.size → _ := fun j hj => List.all_eq_true.1 h j (List.mem_range.2 hj)
  simp only [Bool.and_eq_true] at h1
  refine ⟨fun j oj hoj hlj => ?_, fun j hlj => ?_, fun j oj hoj hjk hun hno hlj => ?_⟩
  · have h2 := (h1 j (Array.getElem?_eq_some_iff.1 hoj).1).1
    rw [hlj, hoj] at h2
    simp only [Bool.not_true, Bool.false_or, Option.map_some, Option.getD_some, Bool.and_eq_true, Array.any_eq_true'] at h2
    obtain ⟨_, e, he, hb⟩ := h2
    simp only [Bool.or_eq_true] at hb
    exact ⟨e, he, hb.1, hb.2.imp Nat.eq_of_beq_eq_true (fun x => x)⟩
  · have h2 := (h1 j (hl j hlj)).1
    rw [hlj] at h2
    simp only [Bool.not_true, Bool.false_or, Bool.and_eq_true, Bool.not_eq_true'] at h2
    exact h2.1
  · have h2 := (h1 j (Array.getElem?_eq_some_iff.1 hoj).1).2
    have hb : Nat.beq j k = false := by rw [Bool.eq_false_iff]; exact fun hh => hjk (Nat.eq_of_beq_eq_true hh)
    rw [hb, hun, hlj, hk, hoj] at h2
    simp only [Bool.false_or, Bool.or_eq_true, Bool.and_eq_true, Bool.not_eq_true', Option.bind_some, Option.map_some, Option.getD_some] at h2
    rcases h2 with h2 | h2
    · obtain ⟨o, ho, e, he, hb2, heq⟩ := Region.edge_spec h2
      rw [hoj] at ho; cases ho
      exact absurd heq (hno e he hb2)
    · exact h2
theorem anyL_lex {cx : Cx} {ops : Array Oper} {Φ : List Fc} {ef : Nat → Bool} {K : Nat → List Nat} {I : Obs → Prop} (hK : ∀ k, ef k = false → K k = []) {Q : Env → Obs → Prop} : ∀ (l : List Oper) (k : Nat) (listed : Array Bool) (e : Env) (σ : Obs), (∀ j, l[j]? = ops[k + j]?) →
    Region.lexFrom .any ops l.length k listed = true → Region.keysFrom ops ef K l.length k listed = true → LRun cx ops Φ ef K I k l e σ Q → anyL cx ops Φ ef K I Q l.length listed e σ
  | [], _, _, _, _, _, hB, _, h => ⟨by simpa [Region.lexFrom] using hB, h⟩
  | o :: l, k, listed, e, σ, hl, hB, hS, h => by
    have h0 : ops[k]? = some o := by simpa using (hl 0).symm
    simp only [List.length_cons, Region.lexFrom, Bool.and_eq_true] at hB
    simp only [List.length_cons, Region.keysFrom, Bool.and_eq_true] at hS
    obtain ⟨⟨hr, hf⟩, hB'⟩ := hB
    have hl' : ∀ j, l[j]? = ops[k + 1 + j]? := fun j => by have := hl (j + 1); simpa [Nat.add_assoc, Nat.add_comm 1 j] using this
    obtain ⟨_, e', σ', hs, hq⟩ := h
    have hgo := anyL_lex hK l (k + 1) _ _ _ hl' hB' hS.2 hq
    obtain ⟨k1, k2, k3⟩ := Region.keysFree_spec hS.1 h0 (fun j hj => by
      unfold Region.lateB at hj
      simp only [Bool.and_eq_true, Nat.blt_eq] at hj
      exact hj.1)
    exact anyL_first hK h0 _ k1 l.length listed e σ e' σ' k2 (fun j oj hj hji hun hno => ⟨Region.free_spec h0 hf j oj hj hji hun hno, fun hl => k3 j oj hj hji hun hno hl⟩) (by simpa using hr) hs hgo
theorem LRun.dsts {cx : Cx} {ops : Array Oper} {Φ : List Fc} {ef : Nat → Bool} {K : Nat → List Nat} {I : Obs → Prop} {Q : Env → Obs → Prop} : ∀ (l : List Oper) (k : Nat) (e : Env) (σ : Obs), LRun cx ops Φ ef K I k l e σ Q → ∀ o ∈ l, DstOk cx.N o
  | [], _, _, _, _, o, ho => by cases ho
  | x :: l, k, e, σ, h, o, ho => by
    obtain ⟨h1, _, _, _, h2⟩ := h
    cases ho with
    | head => exact h1
    | tail _ ho => exact LRun.dsts l _ _ _ h2 o ho
theorem Clean.put {Φ : List Fc} {e : Env} {dst : Option Nat} {s : S} (h : Clean Φ e) (hs : ∀ f ∈ Φ, (∃ t, dst = some t ∧ f.slots.contains t = true) ∨ s.kill f.id = s) : Clean Φ (e.put dst s) := fun f hf t ht => by
  cases dst with
  | none => exact h f hf t ht
  | some d =>
    by_cases hd : t = d
    · subst hd
      rw [Env.put_same]
      rcases hs f hf with ⟨t', h1, h2⟩ | h1
      · cases h1; rw [ht] at h2; simp at h2
      · exact h1
    · rw [Env.put_other _ _ _ _ hd]; exact h f hf t ht
theorem Clean.puts {Φ : List Fc} : ∀ {l : List (Nat × S)} {e : Env}, Clean Φ e → (∀ p ∈ l, ∀ f ∈ Φ, f.slots.contains p.1 = true ∨ p.2.kill f.id = p.2) → Clean Φ (Env.puts e l)
  | [], _, h, _ => h
  | p :: l, e, h, hs => by
    unfold Env.puts
    refine Clean.puts (fun f hf t ht => ?_) fun q hq => hs q (List.mem_cons_of_mem _ hq)
    by_cases hd : t = p.1
    · subst hd
      rw [Env.put_same]
      rcases hs p (by simp) f hf with h1 | h1
      · rw [ht] at h1; simp at h1
      · exact h1
    · rw [Env.put_other _ _ _ _ hd]; exact h f hf t ht
theorem wpAny_of_L {cx : Cx} {ops : Array Oper} {Φ : List Fc} {ef : Nat → Bool} {K : Nat → List Nat} {I : Obs → Prop} {Q : Post} (hQ : ∀ ex e σ, ex ≠ .normal → ¬ Q ex e σ) (hd : ∀ o ∈ ops.toList, DstOk cx.N o) : ∀ (fuel : Nat) (listed : Array Bool) (e : Env) (σ : Obs) (a : Act) (w : World), R cx e σ a w → Clean Φ e →
    anyL cx ops Φ ef K I (fun e σ => Q .normal e σ) fuel listed e σ → wpAny cx.P .any ops (lift cx Q) fuel listed a w
  | 0, _, e, σ, _, _, hr, _, h => ⟨h.1, e, σ, h.2, hr⟩
  | fuel + 1, listed, e, σ, a, w, hr, hc, h => by
    refine ⟨fun h0 => ⟨e, σ, h.1 h0, hr⟩, fun i hi => ?_⟩
    obtain ⟨_, o, ho, _⟩ := mem_ready.1 hi
    obtain ⟨e', σ', hs, hk⟩ := h.2 i hi o ho
    have hdo : DstOk cx.N o := hd o (Array.mem_toList_iff.2 (Array.mem_of_getElem? ho))
    unfold wpOp
    simp only [ho]
    have hR := hr
    obtain ⟨F, ρ, hr⟩ := hr
    rcases hs with ⟨hg, _, s, hI, hop, hcl, rfl, rfl⟩ | ⟨hg, _, rfl, rfl⟩ | ⟨hg, _, _, _, si, _, hop, hci, rfl⟩
    · rw [if_pos (hg.wanted (fun t _ => hr.env t))]
      refine .inl (wp_to ?_ (fun _ _ _ => False.elim) (hop _ hI F ρ w a hr.lt (fun t _ => hr.env t) hr.obs))
      rintro a' w' ⟨v, F', rfl, hv, he⟩
      exact wpAny_of_L hQ hd fuel _ _ _ _ _ ⟨F', ρ, hr.put he hv hdo⟩ (hc.put hcl) hk
    · rw [if_neg (by rw [hg.wanted (fun t _ => hr.env t)]; simp)]
      exact wpAny_of_L hQ hd fuel _ _ _ _ _ ⟨F, ρ, hr.put (Ext.refl hr.lt) repS_undef hdo⟩ (hc.put fun _ _ => .inr rfl) hk
    · have hw : Region.wanted o (yielded ops a.tmps) = true := hg.wanted (fun t _ => hr.env t)
      rw [if_pos hw]
      have h4 := hop e (fun _ _ => rfl) (fun _ _ => rfl) hc a w hR
      unfold wpList at h4
      rw [if_pos hw] at h4
      refine h4.imp (wp_to2 ?_ ?_) fun h => ⟨h.1, ?_⟩
      · rintro a' w' ⟨e', σ'', ⟨rfl, rfl⟩, hr'⟩
        exact wpAny_of_L hQ hd fuel _ _ _ _ _ hr' (hc.puts hci) hk
      · rintro ex a' w' hne ⟨e', σ'', hq, _⟩
        cases ex <;> first | exact absurd rfl hne | exact hq.elim
      · obtain ⟨a', w', e', σ'', hq, _⟩ := h.2
        exact hq.elim
/-- Before the region: no slot but those told holds what it makes or turns. -/
def Env.killOut (f : Fc) (e : Env) : Env := fun t => match f.slots.contains t with | true => e t | false => (e t).kill f.id
def Env.killIds : List Fc → Env → Env
  | [], e => e
  | f :: l, e => Env.killIds l (e.killOut f)
theorem killOut_keep {f : Fc} {g : Fc} {e : Env} (h : Clean [g] e) : Clean [g] (e.killOut f) := fun g' hg t ht => by
  have h1 := h g' hg t ht
  unfold Env.killOut
  cases f.slots.contains t with
  | true => exact h1
  | false => show S.kill g'.id (S.kill f.id (e t)) = S.kill f.id (e t); rw [kill_comm, h1]
theorem killIds_keep {g : Fc} : ∀ {Φ : List Fc} {e : Env}, Clean [g] e → Clean [g] (Env.killIds Φ e)
  | [], _, h => h
  | _ :: l, _, h => killIds_keep (Φ := l) (killOut_keep h)
theorem killOut_clean (f : Fc) (e : Env) : Clean [f] (e.killOut f) := fun g hg t ht => by
  obtain rfl := List.mem_singleton.1 hg
  unfold Env.killOut
  rw [ht]
  exact S.kill_kill g.id (e t)
theorem killIds_clean : ∀ (Φ : List Fc) (e : Env), Clean Φ (Env.killIds Φ e)
  | g :: l, e, f, hf, t, ht => by
    rcases List.mem_cons.1 hf with rfl | hf
    · exact killIds_keep (Φ := l) (killOut_clean f e) f (by simp) t ht
    · exact killIds_clean l (e.killOut g) f hf t ht
theorem R.killOut {cx : Cx} {σ : Obs} {a : Act} {w : World} {e : Env} (f : Fc) : R cx e σ a w → R cx (e.killOut f) σ a w
  | ⟨F, ρ, h⟩ => by
    have henv : ∀ t, RepS F ρ w (a.tmps.getD t undef) (e.killOut f t) := fun t => by
      unfold Env.killOut
      cases f.slots.contains t with
      | true => exact h.env t
      | false => exact (h.killEnv f.id).env t
    exact ⟨F, ρ, h.size, h.defers, h.lt, h.base, h.new, h.below, h.hB, henv, h.obs, h.up, h.kown, h.fixed⟩
theorem R.killIds {cx : Cx} {σ : Obs} {a : Act} {w : World} : ∀ (Φ : List Fc) {e : Env}, R cx e σ a w → R cx (Env.killIds Φ e) σ a w
  | [], _, h => h
  | f :: l, _, h => R.killIds l (R.killOut f h)
/-- The same, with a tail that waits for all before it. -/
theorem AWP.drawLTail {cx : Cx} {id : Nat} {l : List Oper} {e : Env} {σ : Obs} {Q : Post} (k : Nat) (Φ : List Fc) (E : List (Nat × List Nat)) (I : Obs → Prop) (hm : cx.P.follows .mixedOrders = true) (hB : Region.lexB .any (l.take k).toArray = true)
    (hS : Region.keysFrom (l.take k).toArray (fun k => E.any fun p => Nat.beq p.1 k) (fun k => ((E.find? fun p => Nat.beq p.1 k).map Prod.snd).getD []) (l.take k).length 0 (Array.replicate (l.take k).length false) = true) (hC : Region.chainB l.toArray k = true)
    (h : LRun cx (l.take k).toArray Φ (fun k => E.any fun p => Nat.beq p.1 k) (fun k => ((E.find? fun p => Nat.beq p.1 k).map Prod.snd).getD []) I 0 (l.take k) (Env.killIds Φ e) σ (fun e σ => AOps cx l.toArray (l.drop k) e σ Q)) : AWP cx (.region id l.toArray true) e σ Q := by
  intro a w ⟨F, ρ, hr⟩
  simp only [Region.lexB, Bool.and_eq_true] at hB
  have hch := Chain.of hC
  have hkl : k ≤ l.length := by simpa using hch.le
  have hK : ∀ k, (E.any fun p => Nat.beq p.1 k) = false → ((E.find? fun p => Nat.beq p.1 k).map Prod.snd).getD [] = [] := fun k hk => by
    have : E.find? (fun p => Nat.beq p.1 k) = none := List.find?_eq_none.2 fun p hp hh => by
      have : (E.any fun p => Nat.beq p.1 k) = true := List.any_eq_true.2 ⟨p, hp, hh⟩
      rw [hk] at this
      simp at this
    rw [this]; rfl
  have h1 := anyL_lex hK (l.take k) 0 (Array.replicate (l.take k).toArray.size false) _ σ (by simp) (by simpa using hB.2) (by simpa using hS) h
  have h2 := wpAny_of_L (cx := cx) (ops := (l.take k).toArray) (Q := fun ex e σ => match ex with | .normal => AOps cx l.toArray (l.drop k) e σ Q | _ => False) (fun ex e σ hne hq => by cases ex <;> first | exact absurd rfl hne | exact hq.elim) (by simpa using LRun.dsts _ 0 _ σ h) _ _ _ σ a _ (R.killIds Φ ⟨F, ρ, hr.drew⟩) (killIds_clean Φ e) h1
  refine wp_region_any hm (wpAny_split hch (ops0 := (l.take k).toArray) (by simp; omega) (fun j hj => by simp [hj]) ?_ ?_ (l.take k).length _ _ _ _ _ (by simp; omega) (by simp) ?_ ?_ ?_ (by simp; omega) h2)
  · rintro a w ⟨e, σ, h3, h4⟩
    have := h3 a w h4
    simpa using this
  · rintro ex a w hne ⟨e, σ, h3, _⟩
    cases ex <;> first | exact absurd rfl hne | exact h3.elim
  · intro j hj d
    have h5 : j < l.length := by omega
    have h6 : j < min k l.length := by omega
    simp [Array.getD_eq_getD_getElem?, h5, h6]
  · intro j hj hj2
    have : j < l.length := by simpa using hj2
    simp [Array.getD_eq_getD_getElem?, this]
  · intro i o ho hi
    have : i < l.length := by simpa using (Array.getElem?_eq_some_iff.1 ho).1
    simp [Array.getD_eq_getD_getElem?, this] at hi
section
variable {cx : Cx} {ops : Array Oper} {Φ : List Fc} {ef : Nat → Bool} {K : Nat → List Nat} {I : Obs → Prop} {n : Nat} {o : Oper} {l : List Oper} {e : Env} {σ : Obs} {Q : Env → Obs → Prop}
def cleanS (t : Nat) (s : S) : List Fc → Prop
  | [] => True
  | f :: l => (f.slots.contains t = true ∨ s.kill f.id = s) ∧ cleanS t s l
theorem cleanS.all {t : Nat} {s : S} : ∀ {l : List Fc}, cleanS t s l → ∀ f ∈ l, f.slots.contains t = true ∨ s.kill f.id = s
  | [], _, f, hf => by cases hf
  | g :: l, h, f, hf => by
    cases hf with
    | head => exact h.1
    | tail _ hf => exact cleanS.all h.2 f hf
theorem LRun.nil (h : Q e σ) : LRun cx ops Φ ef K I n [] e σ Q := h
theorem LRun.step {s : S} {t : Nat} (hg : GW ops o e true) (ht : o.dst = some t) (hd : Nat.blt t cx.N = true) (hI : I σ) (h : ∀ τ, I τ → AOp cx.P cx.B ops o e τ s) (k : LRun cx ops Φ ef K I (n + 1) l (e.put (some t) s) σ Q) (he : ef n = false := by rfl) (hc : cleanS t s Φ := by first | exact ⟨.inr rfl, trivial⟩ | exact ⟨.inl rfl, trivial⟩) : LRun cx ops Φ ef K I n (o :: l) e σ Q :=
  ⟨by unfold DstOk; rw [ht]; exact hd, _, _, .inl ⟨hg, he, s, hI, h, fun f hf => (hc.all f hf).imp (fun h => ⟨t, ht, h⟩) id, rfl, rfl⟩, by rw [ht]; exact k⟩
def cleanL (Φ : List Fc) : List (Nat × S) → Prop
  | [] => True
  | p :: l => (∀ f ∈ Φ, f.slots.contains p.1 = true ∨ p.2.kill f.id = p.2) ∧ cleanL Φ l
theorem LRun.eff {si : List (Nat × S)} {σ' : Obs} (hg : GW ops o e true) (hd : DstOk cx.N o) (h1 : I σ) (h2 : I σ') (h : GE cx ops Φ o e σ si σ') (k : LRun cx ops Φ ef K I (n + 1) l (Env.puts e si) σ' Q) (hc : ∀ p ∈ si, ∀ f ∈ Φ, f.slots.contains p.1 = true ∨ p.2.kill f.id = p.2) (he : ef n = true := by rfl) (hk : si.map Prod.fst = K n := by rfl) : LRun cx ops Φ ef K I n (o :: l) e σ Q :=
  ⟨hd, _, _, .inr (.inr ⟨hg, he, h1, h2, si, hk, h, hc, rfl⟩), k⟩
end
/-- Data, stored into own cells. -/
theorem EOp.store {cx : Cx} {ops : Array Oper} {o : Oper} {e : Env} {σ : Obs} {t id off size : Nat} {x y : Operand} {d : D} {ss : List S} (ht : o.dst = none) (ho : o.op = .store t x y) (hs : ∀ w, (sizeOf t).run cx.P w = .ok size w) (hx : e.ev x = .ptr id off) (hm : (id, Ob.cells ss) ∈ σ) (hy : e.ev y = .d d) (h1 : d.one = true) (hl : d.parts.length = size)
    (hle : off + size ≤ ss.length) : EOp cx ops o e σ (Obs.upd id (.cells (ss.take off ++ d.parts.map S.d ++ ss.drop (off + size))) σ) := by
  intro F ρ a w e0 hr ha
  have hop : ∀ y ∈ o.op.operands.toList, RepS F ρ w (a.eval y) (e.ev y) := fun y hy => ev_rep fun t ht => ha t (looks_op (by rw [← ht]; exact hy))
  have r1 := hop x (by rw [ho]; simp [Op.operands])
  have r2 := hop y (by rw [ho]; simp [Op.operands])
  rw [hx] at r1
  rw [hy] at r2
  obtain ⟨h3, h4⟩ := parts_rep (repS_d r2) h1
  obtain ⟨g, ty, cs, hρ, hB, hF, hh, hcl, hcs⟩ := hr.obs.ok _ hm
  dsimp only at hρ
  have hxv := ptr_at r1 (g := g) (by rw [hρ]; rfl)
  have hsz : (a.eval y).cells.size = size := by have := h3.1; rw [Array.length_toList] at this; omega
  obtain ⟨w', h5, h6, h7⟩ := storeVar_run (P := cx.P) (off := off) hs hsz hh (by omega) h4
  unfold Oper.wp execOp
  simp only [ho, Instr.storeAt, hxv, Instr.sureAddr, Sem.run_bind, Sem.run_pure, Result.andThen_ok, h5]
  refine ⟨by rw [ht]; rfl, fun e2 hr2 => ⟨F, ρ, ?_⟩⟩
  refine hr2.write hρ hm hB hF h6 h7 (by simp; omega) (fun j hj hj' => by
    have hlen : (a.eval y).cells.toList.length = size := by rw [Array.length_toList]; exact hsz
    by_cases j1 : j < off
    · rw [List.getElem_append_left (by simp; omega), List.getElem_append_left (by simp; omega), List.getElem_append_left (by simp; omega), List.getElem_append_left (by simp; omega), List.getElem_take, List.getElem_take]
      exact hcs j (by omega) (by omega)
    · by_cases j2 : j < off + size
      · rw [List.getElem_append_left (by simp; omega), List.getElem_append_right (by simp; omega), List.getElem_append_left (by simp; omega), List.getElem_append_right (by simp; omega), List.getElem_map]
        have e1 : (List.take off cs).length = off := by simp; omega
        have e2 : (List.take off ss).length = off := by simp; omega
        simp only [e1, e2]
        exact ⟨h4 _ (List.getElem_mem _), .d (h3.2 _ _ _)⟩
      · rw [List.getElem_append_right (by simp; omega), List.getElem_append_right (by simp; omega), List.getElem_drop, List.getElem_drop]
        have e1 : (List.take off cs ++ (a.eval y).cells.toList).length = off + size := by simp; omega
        have e2 : (List.take off ss ++ d.parts.map S.d).length = off + size := by simp; omega
        simp only [e1, e2]
        exact hcs _ _ _)
end Go.Proofs.YtagdgclfnbiahaaDoor

namespace Go.Proofs.YtagdgclfnbiahaaDoor
open Go.RowKit
set_option linter.unusedVariables false

theorem killOne (id : Nat) (s : S) : s.killP (fun i => Nat.beq i id) = s.kill id := by cases s <;> rfl
theorem killEOne (id : Nat) (e : Env) : e.killP (fun i => Nat.beq i id) = e.kill id := by funext t; exact killOne id (e t)
theorem puts_out {e0 : Env} {g : Nat → S} {t : Nat} : ∀ (L : List Nat) (l : List (Nat × S)), t ∉ L → (∀ e1 : Env, e1 t = e0 t → Env.puts e1 l t = Env.puts e0 l t) → Env.puts e0 (L.map (fun t => (t, g t)) ++ l) t = Env.puts e0 l t := fun L => by
  suffices H : ∀ (L : List Nat) (e1 : Env) (l : List (Nat × S)), e1 t = e0 t → t ∉ L → (∀ e1 : Env, e1 t = e0 t → Env.puts e1 l t = Env.puts e0 l t) → Env.puts e1 (L.map (fun t => (t, g t)) ++ l) t = Env.puts e0 l t from fun l h1 h2 => H L e0 l rfl h1 h2
  intro L
  induction L with
  | nil => intro e1 l h1 _ h3; exact h3 e1 h1
  | cons a L ih =>
    intro e1 l h1 h2 h3
    have ha : t ≠ a := fun h => h2 (by rw [h]; exact List.mem_cons_self)
    show Env.puts (e1.put (some a) (g a)) (L.map (fun t => (t, g t)) ++ l) t = _
    exact ih _ l (by rw [Env.put_other _ _ _ _ ha]; exact h1) (fun h => h2 (List.mem_cons_of_mem _ h)) h3
theorem puts_in {g : Nat → S} {t : Nat} : ∀ (L : List Nat) (e1 : Env) (dst : Nat) (s : S), t ≠ dst → t ∈ L ∨ e1 t = g t → Env.puts e1 (L.map (fun t => (t, g t)) ++ [(dst, s)]) t = g t
  | [], e1, dst, s, hd, h => by
    show (e1.put (some dst) s) t = _
    rw [Env.put_other _ _ _ _ hd]
    exact h.resolve_left (by simp)
  | a :: L, e1, dst, s, hd, h => by
    show Env.puts (e1.put (some a) (g a)) (L.map (fun t => (t, g t)) ++ [(dst, s)]) t = _
    refine puts_in L _ dst s hd ?_
    by_cases ha : t = a
    · subst ha; exact .inr (Env.put_same _ _ _)
    · rcases h with h | h
      · rcases List.mem_cons.1 h with h | h
        · exact absurd h ha
        · exact .inl h
      · exact .inr (by rw [Env.put_other _ _ _ _ ha]; exact h)
theorem puts_dst {g : Nat → S} {dst : Nat} {s : S} : ∀ (L : List Nat) (e1 : Env), Env.puts e1 (L.map (fun t => (t, g t)) ++ [(dst, s)]) dst = s
  | [], e1 => Env.put_same _ _ _
  | a :: L, e1 => puts_dst L (e1.put (some a) (g a))
/-- Only the slots of L may hold it. -/
theorem many_eq {id a : Nat} {L : List Nat} {e0 e : Env} (hb : ∀ t ∈ L, e0 t = e t) (hc : ∀ t, t ≠ a → t ∉ L → (e0 t).kill id = e0 t) : (e0.kill id).put (some a) (.own id) = Env.puts e0 (L.map (fun t => (t, (e t).kill id)) ++ [(a, .own id)]) := by
  funext t
  by_cases h1 : t = a
  · subst h1; rw [Env.put_same, puts_dst]
  · rw [Env.put_other _ _ _ _ h1]
    by_cases h2 : t ∈ L
    · rw [puts_in L e0 a _ h1 (.inl h2), ← hb t h2]; rfl
    · rw [puts_out L _ h2 (fun e1 h => by show (e1.put (some a) _) t = (e0.put (some a) _) t; rw [Env.put_other _ _ _ _ h1, Env.put_other _ _ _ _ h1, h])]
      show _ = (e0.put (some a) _) t
      rw [Env.put_other _ _ _ _ h1]
      exact hc t h1 h2
section
variable {cx : Cx} {ops : Array Oper} {Φ : List Fc} {o : Oper} {e : Env} {σ : Obs}
/-- A call that makes it. -/
theorem GE.callOL {f : FuncId} {xs : List Operand} {ts : Array TypeId} {ds : List D} {ee size dst : Nat} {els : List (List D)} {σ' : Obs} (id : Nat) (L : List Nat) {sl : List Nat} (hΦ : ⟨id, sl⟩ ∈ Φ) (hsl : ∀ t, t ≠ dst → t ∉ L → sl.contains t = false) (hg : o.guard = none) (ht : o.dst = some dst) (hdn : Nat.blt dst cx.N = true)
    (ho : o.op = .call { callee := .value (.func f), args := xs.toArray, argTypes := ts }) (ha : ArgsOk e xs ds) (h : OCall cx.P f ds ee size els) (hid : Obs.fresh id σ = true) (hσ : (id, .row ee size els) :: Obs.kill id σ = σ') (hfx : cx.free id = true := by rfl) :
    GE cx ops Φ o e σ (L.map (fun t => (t, (e t).kill id)) ++ [(dst, .own id)]) σ' := fun e0 h1 h2 h3 => by
  have hev : ∀ x ∈ xs, e0.ev x = e.ev x := fun x hx => ev_same fun t hxt => h1 t (looks_op (by rw [ho, ← hxt]; simp [Op.operands, Call.operands, hx]))
  have ha0 : ArgsOk e0 xs ds := by
    have key : ∀ (xs : List Operand) (ds : List D), (∀ x ∈ xs, e0.ev x = e.ev x) → ArgsOk e xs ds → ArgsOk e0 xs ds := by
      intro xs
      induction xs with
      | nil => intro ds _ h; cases ds <;> exact h
      | cons x xs ih =>
        intro ds hx h
        cases ds with
        | nil => exact h
        | cons d ds =>
          obtain ⟨⟨d0, h1, h2⟩, h3⟩ := h
          exact ⟨⟨d0, (hx x (by simp)).trans h1, h2⟩, ih ds (fun y hy => hx y (by simp [hy])) h3⟩
    exact key xs ds hev ha
  have hp := many_eq (id := id) (a := dst) (L := L) (e0 := e0) (e := e) (fun t ht => h2 t (by simp [ht])) fun t ht1 ht2 => h3 _ hΦ t (hsl t ht1 ht2)
  exact AOps.callO id hg ht hdn ho ha0 h hid (.nil ⟨hp, hσ⟩) hfx
/-- A call that turns it and gives it back. -/
theorem GE.turn {f : FuncId} {xs : List Operand} {ts : Array TypeId} {ss : List S} {σc σ1 σ' : Obs} {dst : Nat} (id : Nat) (L : List Nat) {sl : List Nat} (hΦ : ⟨id, sl⟩ ∈ Φ) (hsl : ∀ t, t ≠ dst → t ∉ L → sl.contains t = false) (hg : o.guard = none) (ht : o.dst = some dst) (hd : Nat.blt dst cx.N = true)
    (ho : o.op = .call { callee := .value (.func f), args := xs.toArray, argTypes := ts }) (ha : ArgsS e xs ss) (h : XSCall cx.P f ss σc σ1 (fun i => Nat.beq i id) (.own id)) (hin : AllIn σ σc)
    (h1 : Obs.allIds (fun i => !(Nat.beq i id)) (Obs.dels σc σ) = true) (h2 : Obs.allIds (fun i => Obs.allIds (fun j => !(Nat.beq i j)) (Obs.dels σc σ)) σ1 = true) (h3 : cx.fixp id = false)
    (hσ : Obs.join σ1 (Obs.killP (fun i => Nat.beq i id) (Obs.dels σc σ)) = σ') : GE cx ops Φ o e σ (L.map (fun t => (t, (e t).kill id)) ++ [(dst, .own id)]) σ' := fun e0 k1 k2 k3 => by
  have hev : ∀ x ∈ xs, e0.ev x = e.ev x := fun x hx => ev_same fun t hxt => k1 t (looks_op (by rw [ho, ← hxt]; simp [Op.operands, Call.operands, hx]))
  have ha0 : ArgsS e0 xs ss := by
    have key : ∀ (xs : List Operand) (ss : List S), (∀ x ∈ xs, e0.ev x = e.ev x) → ArgsS e xs ss → ArgsS e0 xs ss := by
      intro xs
      induction xs with
      | nil => intro ss _ h; cases ss <;> exact h
      | cons x xs ih =>
        intro ss hx h
        cases ss with
        | nil => exact h
        | cons s ss => exact ⟨by rw [hx x List.mem_cons_self]; exact h.1, ih ss (fun y hy => hx y (List.mem_cons_of_mem _ hy)) h.2⟩
    exact key xs ss hev ha
  have hp := many_eq (id := id) (a := dst) (L := L) (e0 := e0) (e := e) (fun t ht => k2 t (by simp [ht])) fun t ht1 ht2 => k3 _ hΦ t (hsl t ht1 ht2)
  refine AOps.callXS hg (by unfold DstOk; rw [ht]; exact hd) ho ha0 h hin h1 h2 (fun i hi => by rw [Nat.eq_of_beq_eq_true hi]; exact h3) (.nil ⟨?_, hσ⟩)
  rw [killEOne, ht]; exact hp
end
end Go.Proofs.YtagdgclfnbiahaaDoor

namespace Go.Proofs.YtagdgclfnbiahaaDoor
open Go.RowKit
set_option linter.unusedVariables false

/-! Types. -/
namespace TySBD
theorem ag_63 : AggT Tryd.prog 63 2 := .of (by kernel_rfl)
theorem bu_63 : StructT Tryd.prog 63 (fun i => (#[(0, 1), (1, 1)] : Array (Nat × Nat))[i]?) [(.string ⟨#[]⟩), (.slice none 0 0)] := .of (by kernel_rfl) (by kernel_rfl) (by decide)
theorem sz_63 : ∀ w, (sizeOf 63).run Tryd.prog w = .ok 2 w := SizeT.of (by kernel_rfl)
theorem zt_63 : (Tryd.prog.info? 63).bind (·.zero) = some (.agg #[(.string ⟨#[]⟩), (.slice none 0 0)]) := by kernel_rfl
end TySBD
open TyXA TyXB TySBA TySBB TySBC TySBD

set_option linter.unusedSimpArgs false
theorem cl_m {L : List (Nat × S)} {id : Nat} {sl : List Nat} (h : L.all (fun p => sl.contains p.1) = true) : ∀ p ∈ L, ∀ f ∈ [(⟨id, sl⟩ : Fc)], f.slots.contains p.1 = true ∨ p.2.kill f.id = p.2 := fun p hp f hf => by
  obtain rfl := List.mem_singleton.1 hf
  exact .inl (List.all_eq_true.1 h p hp)

set_option maxRecDepth 100000 in
set_option maxHeartbeats 1000000 in
theorem c_form (s : Snd) (h : 0 < s.tracks.length) : ACall Tryd.prog 19 [.agg s.ds, .v (.int .i64 24)] (.agg (formC s).ds) := by
  refine acall_ofR (n := 18) (ds' := [.agg (formC s).ds]) Tryd.func19 rfl (by kernel_rfl) rfl [.cell 4 63] rfl rfl ?_
  intro B w0 F0 fr
  refine .sr ?_
  refine .sA (.box rfl rfl rfl) ?_
  refine .alloc 101 rfl rfl rfl rfl zt_63 rfl rfl rfl (.nil ?_)
  refine .seq ?_
  refine .drawLTail 12 [⟨901, [7, 11, 13, 16]⟩] [(2, [11, 13, 16, 7]), (6, [7, 13, 16, 11]), (8, [7, 11, 16, 13]), (11, [7, 11, 13, 16])] (fun _ => True) (by kernel_rfl) (by kernel_rfl) (by kernel_rfl) (by kernel_rfl) ?_
  refine .step rfl rfl rfl trivial (fun τ _ => AOp.fieldAddr rfl fo_24_0 rfl) ?_
  refine .step rfl rfl rfl trivial (fun τ _ => AOp.load rfl sc_3 rfl) ?_
  refine .eff (σ' := [(901, .row 5 1 ((putB s.rate 4).map u8D)), (101, .cells [.d (.v (.string ⟨#[]⟩)), .d (.v (.slice none 0 0))])]) rfl rfl trivial trivial (GE.callOL 901 [11, 13, 16] (.head _) (fun t h1 h2 => by simp only [List.mem_cons, List.not_mem_nil, or_false, not_or] at h2; simp [h1, h2]) rfl rfl rfl rfl (.cons (.rfl' rfl) (.cons (.rfl' rfl) (.cons (.rfl' rfl) .nil))) (c_put0 s.rate 4 (by decide)) rfl rfl) ?_ (cl_m rfl)
  refine .step rfl rfl rfl trivial (fun τ _ => AOp.fieldAddr rfl fo_24_1 rfl) ?_
  refine .step rfl rfl rfl trivial (fun τ _ => AOp.load rfl sc_22 rfl) ?_
  refine .step rfl rfl rfl trivial (fun τ _ => AOp.lenSl rfl et_22.ht rfl) ?_
  rw [List.length_map]
  refine .eff (σ' := [(901, .row 5 1 ((putB s.rate 4 ++ putB (s.tracks.length : Int) 2).map u8D)), (101, .cells [.d (.v (.string ⟨#[]⟩)), .d (.v (.slice none 0 0))])]) rfl rfl trivial trivial (GE.turn 901 [7, 13, 16] (.head _) (fun t h1 h2 => by simp only [List.mem_cons, List.not_mem_nil, or_false, not_or] at h2; simp [h1, h2]) rfl rfl rfl rfl (ArgsS.cons (SLe.refl _) (ArgsS.cons (SLe.refl _) (ArgsS.cons (SLe.refl _) ArgsS.nil))) (c_put (putB s.rate 4) (s.tracks.length : Int) 2 (by decide) (by simp only [List.length_append, putB_len]; omega)) ⟨.head _, trivial⟩ rfl rfl rfl rfl) ?_ (cl_m rfl)
  refine .step rfl rfl rfl trivial (fun τ _ => AOp.moveD rfl rfl) ?_
  refine .eff (σ' := [(901, .row 5 1 ((putB s.rate 4 ++ putB (s.tracks.length : Int) 2 ++ putB 24 2).map u8D)), (101, .cells [.d (.v (.string ⟨#[]⟩)), .d (.v (.slice none 0 0))])]) rfl rfl trivial trivial (GE.turn 901 [7, 11, 16] (.head _) (fun t h1 h2 => by simp only [List.mem_cons, List.not_mem_nil, or_false, not_or] at h2; simp [h1, h2]) rfl rfl rfl rfl (ArgsS.cons (SLe.refl _) (ArgsS.cons (SLe.refl _) (ArgsS.cons (SLe.refl _) ArgsS.nil))) (c_put (putB s.rate 4 ++ putB (s.tracks.length : Int) 2) 24 2 (by decide) (by simp only [List.length_append, putB_len]; omega)) ⟨.head _, trivial⟩ rfl rfl rfl rfl) ?_ (cl_m rfl)
  refine .step rfl rfl rfl trivial (fun τ _ => AOp.loadAgg rfl ag_24 rfl rfl) ?_
  refine .step rfl rfl rfl trivial (fun τ _ => AOp.call rfl (.cons (.rfl' rfl) .nil) (c_len s h)) ?_
  refine .eff (σ' := [(901, .row 5 1 (((formC s).data).map u8D)), (101, .cells [.d (.v (.string ⟨#[]⟩)), .d (.v (.slice none 0 0))])]) rfl rfl trivial trivial (GE.turn 901 [7, 11, 13] (.head _) (fun t h1 h2 => by simp only [List.mem_cons, List.not_mem_nil, or_false, not_or] at h2; simp [h1, h2]) rfl rfl rfl rfl (ArgsS.cons (SLe.refl _) (ArgsS.cons (SLe.refl _) (ArgsS.cons (SLe.refl _) ArgsS.nil))) (c_put (putB s.rate 4 ++ putB (s.tracks.length : Int) 2 ++ putB 24 2) (s.len : Int) 4 (by decide) (by simp only [List.length_append, putB_len]; omega)) ⟨.head _, trivial⟩ rfl rfl rfl rfl) ?_ (cl_m rfl)
  refine .nil ?_
  refine .freeze 16 rfl (.head _) ?_
  refine .sA (.build rfl bu_63 (.cons rfl rfl (.cons rfl rfl .nil)) rfl) ?_
  refine .store rfl rfl rfl sz_63 rfl (.head _) rfl rfl rfl (Nat.le_of_ble_eq_true rfl) (.nil ?_)
  refine .ret ?_
  refine ⟨RetR.agg rfl (.head _) ag_63 rfl (.cons (by first | exact CellD.nil | exact CellD.d | exact CellD.eq (by simp) | (refine CellD.own (by first | exact .head _ | exact .tail _ (.head _)) ?_; rfl)) (.cons (by first | exact CellD.nil | exact CellD.d | exact CellD.eq (by simp) | (refine CellD.own (by first | exact .head _ | exact .tail _ (.head _)) ?_; rfl)) .nil)), trivial⟩
  all_goals (first | rfl | (rw [List.length_map]; rfl))

end Go.Proofs.YtagdgclfnbiahaaDoor

namespace Go.Proofs.YtagdgclfnbiahaaDoor
open Go.RowKit
set_option linter.unusedVariables false

/-- Which block the row is in behind it. -/
theorem run_append_str_at {P : Program} (w : World) (base : Nat) (t u ty e : TypeId) (i : TypeInfo) (ht : P.underlying t = some (.slice e)) (hu : P.underlying u = some .string) (hi : P.info? e = some i) (hz : i.zero = some (.int .u8 0))
    (hsize : i.size = 1) (hby : i.bytes = 1) (v : Value) (n : Nat) (xs : List Value) (hown : w.ownsRow base e 1 v n xs) (s : ByteArray) (hb : n + s.size ≤ 140737488355328) (hbase : base ≤ w.heap.size) :
    ∃ v' w', (Builtin.append_ #[t, u] ty #[v, .string s]).run P w = .ok v' w' ∧ w'.ownsRow base e 1 v' (n + s.size) (xs ++ Lib.strCells s) ∧ w.grownBy w' v.ownBlock ∧ (v'.ownBlock = v.ownBlock ∨ v'.ownBlock = some w.heap.size) := by
  have hml : n + s.size ≤ maxLen := by unfold maxLen; omega
  obtain ⟨v', w', hr, h2, h3, h4⟩ := Lib.run_append_own_string (P := P) w base t u ty e i ht hu hi hz hsize hby v n xs hown s hml hb hbase
  refine ⟨v', w', hr, h2, h3, ?_⟩
  have hxl : xs.length = n := by simpa using hown.1
  rcases hown.2 with ⟨rfl, rfl⟩ | ⟨g, cap, cur, rfl, hbg, hg, hnc, hcm, hcs, htake⟩
  · by_cases hm : s.size = 0
    · exact .inl (by rw [h4.2 ⟨rfl, hm⟩])
    · have hr2 := run_append_nil_string (P := P) w t u ty e i (.int .u8 0) ht hu hi hz s (by omega) (by omega) (by rw [hby]; omega)
      rw [hr] at hr2
      injection hr2 with e1 _
      exact .inr (by rw [e1]; rfl)
  · by_cases hroom : n + s.size ≤ cap
    · have hcs' : cur.size = cap := by simpa using hcs
      have hr2 := Lib.run_append_room_string (P := P) w t u ty e i ht hu hi hsize g n cap cur hg s hroom (by omega)
      rw [hr] at hr2
      injection hr2 with e1 _
      exact .inl (by rw [e1]; rfl)
    · have holds : ∀ j u, xs[j]? = some u → w.cell? ((⟨g, 0, none⟩ : Addr).add j) = some u := hown.cells (g := g) rfl
      have hr2 := Lib.run_append_grow_string (P := P) w t u ty e i (.int .u8 0) ht hu hi hz ⟨g, 0, none⟩ n cap xs (by rw [hsize]; simpa using hxl) holds s (by omega) (by omega) (by rw [hby]; exact growslice_fits (by omega) (by omega))
      rw [hr] at hr2
      injection hr2 with e1 _
      exact .inr (by rw [e1]; rfl)
theorem flat_str (b : ByteArray) : flat (fun i _ => (Lib.strCells b).getD i undef) (b.data.toList.map u8D).length 1 = Lib.strCells b := by
  have hl : (Lib.strCells b).length = b.data.toList.length := by rw [Lib.strCells_length, Array.length_toList]; rfl
  refine List.ext_getElem (by rw [flat_length, List.length_map, hl, Nat.mul_one]) fun q h1 h2 => ?_
  rw [flat_length, List.length_map] at h1
  have h3 := flatten_get (fun i _ => (Lib.strCells b).getD i undef) 1 (b.data.toList.map u8D).length q 0 (by rw [List.length_map]; omega) (by decide)
  have h4 : (flat (fun i _ => (Lib.strCells b).getD i undef) (b.data.toList.map u8D).length 1)[q]? = some ((Lib.strCells b).getD q undef) := by
    have e1 : q * 1 + 0 = q := by omega
    rw [e1] at h3
    exact h3
  rw [List.getElem?_eq_getElem (by rw [flat_length, List.length_map]; exact h1)] at h4
  rw [Option.some.inj h4, List.getD_eq_getElem?_getD, List.getElem?_eq_getElem h2]
  rfl
/-- append(own, s...). -/
theorem AOps.appendS {cx : Cx} {ops : Array Oper} {o : Oper} {rest : List Oper} {e : Env} {σ : Obs} {Q : Post} {s x : Operand} {t u ee id dst : Nat} {els : List (List D)} {b : ByteArray} (hg : o.guard = none)
    (ho : o.op = .call { callee := .builtin .append, args := #[s, x], argTypes := #[t, u] }) (hd : o.dst = some dst) (hdn' : Nat.blt dst cx.N = true) (T : ElemTy cx.P t ee 1 1 (.int .u8 0)) (hu : cx.P.underlying u = some .string) (hs : e.ev s = .own id) (hm : (id, Ob.row ee 1 els) ∈ σ)
    (hx : e.ev x = .d (.v (.string b))) (hn : els.length + b.size ≤ 140737488355328)
    (k : AOps cx ops rest ((e.kill id).put (some dst) (.own id)) (Obs.upd id (.row ee 1 (els ++ b.data.toList.map u8D)) (Obs.kill id σ)) Q) (hfx : cx.free id = true := by rfl) : AOps cx ops (o :: rest) e σ Q := by
  intro a w ⟨F, ρ, hr⟩
  have hdn : dst < cx.N := by simpa [Nat.blt_eq] using hdn'
  have h1 := ev_rep (e := e) (x := s) (a := a) (fun t _ => hr.env t)
  have h2 := ev_rep (e := e) (x := x) (a := a) (fun t _ => hr.env t)
  rw [hs] at h1
  rw [hx] at h2
  obtain ⟨xs, hown, hlen, hrep, hnF⟩ := hr.obs.ok _ hm
  dsimp only at hown hnF
  have hv : a.eval s = ρ id := by generalize a.eval s = v at h1; cases h1; rfl
  have hxb : a.eval x = .string b := by
    have h3 := repS_d h2
    generalize a.eval x = v at h3
    cases h3; rfl
  obtain ⟨i, hi, hz0, hz1, hz2⟩ := info_parts T.hi
  obtain ⟨v', w', hr2, hown', hgr, hat0⟩ := run_append_str_at (P := cx.P) w cx.B t u o.type ee i T.ht hu hi hz0 hz1 hz2 (ρ id) els.length _ hown b hn hr.hB
  have hat : v'.ownBlock = (ρ id).ownBlock ∨ ∃ g, v'.ownBlock = some g ∧ w.heap.size ≤ g := hat0.imp (fun h => h) fun h => ⟨_, h, Nat.le_refl _⟩
  refine wpList_plain hg fun K hK => ?_
  unfold Oper.wp execOp
  simp only [ho, resolve, invoke, builtin, Sem.run_bind, Sem.run_pure, Result.andThen_ok, List.map_toArray, List.map_cons, List.map_nil, hv, hxb, hr2]
  refine hK _ _ ?_
  have hbl : b.size = (b.data.toList.map u8D).length := by rw [List.length_map, Array.length_toList]; rfl
  have hsz : ∀ y ∈ b.data.toList.map u8D, y.length = 1 := fun y hy => by obtain ⟨c, _, rfl⟩ := List.mem_map.1 hy; rfl
  have hys : ∀ i (h : i < (b.data.toList.map u8D).length) j (h' : j < (b.data.toList.map u8D)[i].length), ((fun i (_ : Nat) => (Lib.strCells b).getD i undef) i j).oneCell' = true ∧ Rep F w ((fun i (_ : Nat) => (Lib.strCells b).getD i undef) i j) (b.data.toList.map u8D)[i][j] := fun i h j h' => by
    have hi2 : i < b.data.toList.length := by simpa using h
    have e1 : (Lib.strCells b).getD i undef = .int .u8 ((b.data.toList[i].toNat : Nat) : Int) := by
      unfold Lib.strCells
      rw [List.getD_eq_getElem?_getD, List.getElem?_map, List.getElem?_eq_getElem hi2]; rfl
    dsimp only
    rw [e1]
    have hj : j = 0 := by
      have : j < 1 := by have h3 := hsz _ (List.getElem_mem h); rw [h3] at h'; exact h'
      omega
    subst hj
    have e2 : (b.data.toList.map u8D)[i][0] = D.v (.int .u8 ((b.data.toList[i].toNat : Nat) : Int)) := by simp [u8D]
    rw [e2]
    exact ⟨rfl, .v _⟩
  rw [← flat_str b, hbl] at hown'
  generalize hE : b.data.toList.map u8D = els2 at *
  generalize hY : (fun i (_ : Nat) => (Lib.strCells b).getD i undef) = ys at *
  rw [hd]
  refine k _ _ ⟨F, fun j => if j = id then v' else ρ j, ?_⟩
  have hnewb : ∀ g, blk v' = some g → (ρ id).ownBlock = some g ∨ w.heap.size ≤ g := by
    intro g hg
    have hg' : v'.ownBlock = some g := by
      rcases hown'.2 with ⟨h3, _⟩ | ⟨g', cap, cur, h3, _⟩
      · rw [h3] at hg; simp [blk] at hg
      · rw [h3] at hg ⊢; simpa [Value.ownBlock, blk] using hg
    rcases hat with h3 | ⟨g2, h3, h4⟩
    · exact .inl (by rw [← h3]; exact hg')
    · rw [h3] at hg'
      exact .inr (by have := Option.some.inj hg'; omega)
  have hob' : ∀ g, (ρ id).ownBlock = some g → blk (ρ id) = some g := by
    intro g hg
    rcases hown.2 with ⟨h3, _⟩ | ⟨g', cap, cur, h3, _⟩
    · rw [h3] at hg; simp [Value.ownBlock] at hg
    · rw [h3] at hg ⊢; simpa [Value.ownBlock, blk] using hg
  have hturn : Turn w w' (ρ id).ownBlock := ⟨hgr.os, hgr.tape, hgr.output, hgr.size, hgr.block⟩
  have h9 := hr.turn (ρ' := fun j => if j = id then v' else ρ j) (id := id) (ob := .row ee 1 (els ++ els2)) (row := (ρ id).ownBlock) (w' := w') (F' := F) (fun j hj => by simp [hj]) hturn hfx
    (fun g hg => ⟨hr.kown _ hm g (hob' g hg), hnF g (hob' g hg), fun p hp hpi => fun he => hr.obs.apart p hp _ hm hpi g he (hob' g hg)⟩) (fun b hb => hb) (fun b hb => .inl hb)
    (fun b hb => Nat.lt_of_lt_of_le (hr.lt b hb) hgr.size)
    (by
      refine ⟨fun i j => if i < els.length then xs i j else ys (i - els.length) j, ?_, fun i hi => ?_, fun i hi j hj => ?_, fun g hg hf => ?_⟩
      · dsimp only; rw [if_pos rfl, List.length_append]
        have h3 := flat_append xs ys els.length els2.length 1
        unfold flat at h3
        rw [← h3]
        exact hown'
      · by_cases hi' : i < els.length
        · rw [List.getElem_append_left hi']; exact hlen i hi'
        · rw [List.getElem_append_right (by omega)]
          exact hsz _ (List.getElem_mem _)
      · have keep : ∀ {u : Value} {d : D}, Rep F w u d → Rep F w' u d := fun h => h.mono (fun b hb => hb) fun b hb => hgr.block b (hr.lt b hb) (fun he => hnF b (hob' b he.symm) hb)
        by_cases hi' : i < els.length
        · simp only [if_pos hi', List.getElem_append_left hi'] at hj ⊢
          exact ⟨(hrep i hi' j hj).1, keep (hrep i hi' j hj).2⟩
        · simp only [if_neg hi', List.getElem_append_right (show els.length ≤ i by omega)] at hj ⊢
          have := hys (i - els.length) (by simp at hi; omega) j hj
          exact ⟨this.1, keep this.2⟩
      · dsimp only at hg; rw [if_pos rfl] at hg
        rcases hnewb g hg with h3 | h3
        · exact hnF g (hob' g h3) hf
        · have := hr.lt g hf; omega)
    (fun g hg => by
      rw [if_pos rfl] at hg
      exact hnewb g hg)
    (Obs.upd id (.row ee 1 (els ++ els2)) (Obs.kill id σ)) (fun p hp => by
      rcases Obs.mem_upd hp with ⟨h3, _⟩ | ⟨h3, h4⟩
      · exact .inl h3
      · obtain ⟨q, hq, rfl⟩ := Obs.mem_kill h3
        exact .inr ⟨q, hq, h4, rfl⟩)
  have h10 := h9.put (o := ⟨some dst, .ready 0, 0, "", #[], none⟩) (v := v') (s := .own id) (Ext.refl h9.lt) (by
    have := RepS.own (F := F) (ρ := fun j => if j = id then v' else ρ j) (w := w') id
    simpa using this) (by simpa [DstOk, Nat.blt_eq] using hdn)
  exact h10

end Go.Proofs.YtagdgclfnbiahaaDoor

namespace Go.Proofs.YtagdgclfnbiahaaDoor
open Go.RowKit
set_option linter.unusedVariables false

/-! Types. -/
namespace TySBE
theorem et_65 : ElemTy Tryd.prog 65 63 2 40 (.agg #[(.string ⟨#[]⟩), (.slice none 0 0)]) := ⟨by kernel_rfl, by kernel_rfl, by kernel_rfl, by decide⟩
theorem fo_63_0 : fieldOff Tryd.prog 63 0 = some 0 := by kernel_rfl
theorem fo_63_1 : fieldOff Tryd.prog 63 1 = some 1 := by kernel_rfl
theorem sc_28 : Scal Tryd.prog 28 := .of (by kernel_rfl)
end TySBE
open TyXA TyXB TySBA TySBB TySBC TySBD TySBE

set_option linter.unusedSimpArgs false
theorem cn_size {s : ByteArray} (h : cnOk s = true) : s.size = 4 := by
  unfold cnOk at h
  rw [Bool.and_eq_true] at h
  exact of_decide_eq_true h.1
theorem packB_take {l : List Chk} {k : Nat} (h : k < l.length) : packB (l.take (k + 1)) = packB (l.take k) ++ chkB l[k] := by
  rw [takeS h, packB_append]; simp [packB]
theorem pack_len {l : List Chk} {k : Nat} (h : k < l.length) (h4 : l[k].name.size = 4) : (packB (l.take (k + 1))).length = (packB (l.take k)).length + (8 + l[k].data.length + l[k].data.length % 2) := by
  rw [packB_take h, List.length_append, chkB_len h4]
theorem pack_le (l : List Chk) (k : Nat) : (packB (l.take k)).length ≤ (packB l).length := by
  conv => rhs; rw [← List.take_append_drop k l, packB_append, List.length_append]
  omega
def U8R (l : List UInt8) : List (List D) := l.map u8D

set_option maxRecDepth 100000 in
set_option maxHeartbeats 4000000 in
theorem c_pack (l : List Chk) (hl : l.length ≤ 1000) (hn : ∀ c ∈ l, cnOk c.name = true) (hs : (packB l).length ≤ 8000000) : ACall Tryd.prog 23 [.sl (l.map Chk.ds)] (.tup [.sl ((packB l).map u8D), .v (.int .i64 0)]) := by
  refine acall_of (n := 68) (ds' := [.sl ((packB l).map u8D), .v (.int .i64 0)]) Tryd.func23 rfl (by kernel_rfl) rfl [2, 3] rfl rfl ?_
  intro B w0 F0 fr
  refine .sr ?_
  refine .aA ?_
  refine .aA (.nil ?_)
  refine .seq ?_
  refine .sr ?_
  refine .mA ?_
  refine .sA (.lenSl rfl et_65.ht rfl) ?_
  refine .sA (.gtr rfl rfl rfl) (.nil ?_)
  refine .cond rfl (fun h1 => ?_) (fun h1 => ?_)
  · replace h1 := of_decide_eq_true h1
    rw [List.length_map] at h1; omega
  replace h1 := of_decide_eq_false h1
  refine .skip ?_
  refine .sr ?_
  refine .aA (.nil ?_)
  refine .seq ?_
  refine .sr ?_
  refine .mA ?_
  refine .sA (.lenSl rfl et_65.ht rfl) ?_
  refine .mA (.nil ?_)
  refine .block ?_
  refine .loop (G := Nat) (fun k => Env.of [(15, .d (.v (.int .i64 (k : Int)))), (4, .d (.v (.int .i64 ((packB (l.take k)).length : Int)))), (13, .d (.sl (l.map Chk.ds))), (14, .d (.v (.int .i64 ((l.map Chk.ds).length : Int)))), (0, .d (.sl (l.map Chk.ds)))]) (fun k => []) (fun k => k ≤ l.length) (fun k => l.length - k) 0 (Nat.zero_le _) (Sub.less ⟨(SLe.of_eq rfl), (SLe.of_eq rfl), SLe.refl _, SLe.refl _, SLe.refl _, trivial⟩ (fun _ h => h)) ?_
  intro k hk
  refine .sr ?_
  refine .sA (.lss rfl rfl rfl) (.nil ?_)
  refine .seq ?_
  refine .cond rfl (fun h2 => ?_) (fun h2 => ?_)
  · replace h2 := of_decide_eq_true h2
    rw [List.length_map] at h2
    have hlt : k < l.length := by omega
    have hC := hn _ (List.getElem_mem hlt)
    have h4 := cn_size hC
    have hP := pack_len hlt h4
    have hQ := pack_le l (k + 1)
    have hD : l[k].data.length ≤ 8000000 := by omega
    have h5 : l[k].name.data.toList.length = 4 := (Array.length_toList).trans h4
    refine .skip ?_
    refine .seq ?_
    refine .block ?_
    refine .sr ?_
    refine .sA (.indexAddr rfl et_65 rfl rfl k rfl (at_lst hlt) rfl) ?_
    refine .sA (.loadAgg rfl ag_63 rfl rfl) ?_
    refine .alloc 102 rfl rfl rfl rfl zt_63 rfl rfl rfl ?_
    refine .store rfl rfl rfl sz_63 rfl (.head _) rfl rfl rfl (Nat.le_of_ble_eq_true rfl) ?_
    refine .freezeCells 6 (ds := l[k].ds) rfl (.head _) (.nil ?_)
    refine .seq ?_
    refine .sr ?_
    refine .sA (.fieldAddr rfl fo_63_0 rfl) ?_
    refine .sA (.load rfl sc_9 rfl) ?_
    refine .sA (.call rfl (.cons (.rfl' rfl) .nil) (c_cn l[k].name (by omega))) ?_
    refine .sA (.not rfl rfl) (.nil ?_)
    refine .cond rfl (fun h3 => ?_) (fun h3 => ?_)
    · replace h3 := bnot_t h3
      exact absurd (hC.symm.trans h3) (by decide)
    replace h3 := bnot_f h3
    refine .skip ?_
    refine .region ?_
    refine .mA ?_
    refine .sA (.fieldAddr rfl fo_63_1 rfl) ?_
    refine .sA (.load rfl sc_28 rfl) ?_
    refine .sA (.lenSl rfl et_28.ht rfl) ?_
    rw [show (l[k].data.map u8D).length = l[k].data.length from List.length_map _]
    refine .sA (.add64 rfl rfl rfl (by omega) (by omega)) ?_
    refine .sA (.fieldAddr rfl fo_63_1 rfl) ?_
    refine .sA (.load rfl sc_28 rfl) ?_
    refine .sA (.lenSl rfl et_28.ht rfl) ?_
    rw [show (l[k].data.map u8D).length = l[k].data.length from List.length_map _]
    refine .sA (.rem64 rfl rfl rfl (by omega) (by omega)) ?_
    refine .sA (.add64 rfl rfl rfl (by omega) (by omega)) ?_
    refine .sA (.add64 rfl rfl rfl (by omega) (by omega)) ?_
    refine .aA (.nil ?_)
    refine .region ?_
    refine .sA (.add64 rfl rfl rfl (by omega) (by omega)) ?_
    refine .mA (.nil ?_)
    refine ⟨k + 1, (by omega), (by dsimp only; omega), Sub.less ⟨(SLe.of_eq rfl), (SLe.i64 (by omega)), SLe.refl _, SLe.refl _, SLe.refl _, trivial⟩ (fun _ h => h)⟩
  replace h2 := of_decide_eq_false h2
  rw [List.length_map] at h2
  obtain rfl : k = l.length := by omega
  refine .exit ?_
  refine .seq ?_
  refine .sr ?_
  refine .mA ?_
  refine .sA (.gtr rfl rfl rfl) (.nil ?_)
  refine .cond rfl (fun h4 => ?_) (fun h4 => ?_)
  · replace h4 := of_decide_eq_true h4
    rw [List.take_length] at h4; omega
  replace h4 := of_decide_eq_false h4
  refine .skip ?_
  refine .sr ?_
  refine .mA ?_
  refine .make0 901 rfl rfl rfl rfl et_28 rfl rfl (by omega) (by omega) (by omega) rfl ?_
  refine .sA (.assignO rfl rfl) (.nil ?_)
  refine .seq ?_
  refine .sr ?_
  refine .mA ?_
  refine .sA (.lenSl rfl et_65.ht rfl) ?_
  refine .mA (.nil ?_)
  refine .block ?_
  refine .loop (G := Nat) (fun k => Env.of [(41, .d (.v (.int .i64 (k : Int)))), (7, .own 901), (39, .d (.sl (l.map Chk.ds))), (40, .d (.v (.int .i64 ((l.map Chk.ds).length : Int))))]) (fun k => [(901, .row 5 1 (((packB (l.take k))).map u8D))]) (fun k => k ≤ l.length) (fun k => l.length - k) 0 (Nat.zero_le _) (Sub.less ⟨(SLe.of_eq rfl), SLe.refl _, SLe.refl _, SLe.refl _, trivial⟩ (fun _ h => h)) ?_
  intro k hk
  refine .sr ?_
  refine .sA (.lss rfl rfl rfl) (.nil ?_)
  refine .seq ?_
  refine .cond rfl (fun h5 => ?_) (fun h5 => ?_)
  · replace h5 := of_decide_eq_true h5
    rw [List.length_map] at h5
    have hlt : k < l.length := by omega
    have hC := hn _ (List.getElem_mem hlt)
    have h4 := cn_size hC
    have hP := pack_len hlt h4
    have hQ := pack_le l (k + 1)
    have hD : l[k].data.length ≤ 8000000 := by omega
    have h5 : l[k].name.data.toList.length = 4 := (Array.length_toList).trans h4
    refine .skip ?_
    refine .seq ?_
    refine .block ?_
    refine .sr ?_
    refine .sA (.indexAddr rfl et_65 rfl rfl k rfl (at_lst hlt) rfl) ?_
    refine .sA (.loadAgg rfl ag_63 rfl rfl) ?_
    refine .alloc 103 rfl rfl rfl rfl zt_63 rfl rfl rfl ?_
    refine .store rfl rfl rfl sz_63 rfl (.head _) rfl rfl rfl (Nat.le_of_ble_eq_true rfl) ?_
    refine .freezeCells 9 (ds := l[k].ds) rfl (.head _) (.nil ?_)
    refine .sr ?_
    refine .sA (.moveO rfl rfl) ?_
    refine .sA (.fieldAddr rfl fo_63_0 rfl) ?_
    refine .sA (.load rfl sc_9 rfl) ?_
    refine .appendS rfl rfl rfl rfl et_28 (by kernel_rfl) rfl (.head _) rfl (by rw [List.length_map]; omega) ?_
    refine .sA (.assignO rfl rfl) (.nil ?_)
    refine .sr ?_
    refine .sA (.moveO rfl rfl) ?_
    refine .sA (.fieldAddr rfl fo_63_1 rfl) ?_
    refine .sA (.load rfl sc_28 rfl) ?_
    refine .sA (.lenSl rfl et_28.ht rfl) ?_
    rw [show (l[k].data.map u8D).length = l[k].data.length from List.length_map _]
    rw [show (packB (l.take k)).map u8D ++ l[k].name.data.toList.map u8D = ((packB (l.take k)) ++ l[k].name.data.toList).map u8D by rw [List.map_append]]
    refine .callXS rfl rfl rfl (ArgsS.cons (SLe.refl _) (ArgsS.cons (SLe.refl _) (ArgsS.cons (SLe.refl _) ArgsS.nil))) (c_put ((packB (l.take k)) ++ l[k].name.data.toList) (l[k].data.length : Int) 4 (by decide) (by rw [List.length_append]; omega)) ⟨(.head _), trivial⟩ rfl rfl (fun i hi => by rw [Nat.eq_of_beq_eq_true hi]) ?_
    refine .sA (.assignO rfl rfl) (.nil ?_)
    refine .sr ?_
    refine .sA (.moveO rfl rfl) ?_
    refine .sA (.fieldAddr rfl fo_63_1 rfl) ?_
    refine .sA (.load rfl sc_28 rfl) ?_
    -- append 57
    refine .append rfl rfl rfl rfl et_28 rfl (.head _) rfl (by simp [D.parts, u8D]) (by simp only [List.length_append, List.length_map, putB_len, List.length_cons, List.length_nil]; omega) (by simp only [List.length_append, List.length_map, putB_len, List.length_cons, List.length_nil]; omega) ?_
    refine .sA (.assignO rfl rfl) (.nil ?_)
    refine .sr ?_
    refine .sA (.fieldAddr rfl fo_63_1 rfl) ?_
    refine .sA (.load rfl sc_28 rfl) ?_
    refine .sA (.lenSl rfl et_28.ht rfl) ?_
    rw [show (l[k].data.map u8D).length = l[k].data.length from List.length_map _]
    refine .sA (.rem64 rfl rfl rfl (by omega) (by omega)) ?_
    refine .sA (.gtr rfl rfl rfl) (.nil ?_)
    refine .cond rfl (fun h6 => ?_) (fun h6 => ?_)
    · replace h6 := of_decide_eq_true h6
      have hp : padB l[k].data = [0] := by unfold padB; rw [if_neg (by omega)]
      refine .region ?_
      refine .sA (.moveO rfl rfl) ?_
      refine .sA (.buildSlice rfl et_28 (.cons rfl rfl rfl .nil) rfl (by decide)) ?_
      -- append 65
      refine .append rfl rfl rfl rfl et_28 rfl (.head _) rfl (by simp [D.parts, u8D]) (by simp only [List.length_append, List.length_map, putB_len, List.length_cons, List.length_nil]; omega) (by simp only [List.length_append, List.length_map, putB_len, List.length_cons, List.length_nil]; omega) ?_
      refine .sA (.assignO rfl rfl) (.nil ?_)
      refine .region ?_
      refine .sA (.add64 rfl rfl rfl (by omega) (by omega)) ?_
      refine .mA (.nil ?_)
      refine ⟨k + 1, (by omega), (by dsimp only; omega), Sub.less ⟨(SLe.of_eq rfl), SLe.refl _, SLe.refl _, SLe.refl _, trivial⟩ (by dsimp only; rw [packB_take hlt]; unfold chkB; rw [hp]; simp only [List.map_append, List.append_assoc, List.map_nil, List.append_nil]; exact fun _ h => h)⟩
    replace h6 := of_decide_eq_false h6
    have hp : padB l[k].data = [] := by unfold padB; rw [if_pos (by omega)]
    refine .skip ?_
    refine .region ?_
    refine .sA (.add64 rfl rfl rfl (by omega) (by omega)) ?_
    refine .mA (.nil ?_)
    refine ⟨k + 1, (by omega), (by dsimp only; omega), Sub.less ⟨(SLe.of_eq rfl), SLe.refl _, SLe.refl _, SLe.refl _, trivial⟩ (by dsimp only; rw [packB_take hlt]; unfold chkB; rw [hp]; simp only [List.map_append, List.append_assoc, List.map_nil, List.append_nil]; exact fun _ h => h)⟩
  replace h5 := of_decide_eq_false h5
  rw [List.length_map] at h5
  obtain rfl : k = l.length := by omega
  refine .exit ?_
  refine .sr ?_
  refine .sA (.moveO rfl rfl) ?_
  refine .sA (.assignO rfl rfl) ?_
  refine .aA (.nil ?_)
  refine .ret ?_
  refine ⟨RetD.own rfl (.head _) ?_, RetD.eq rfl ?_, trivial⟩
  all_goals (first | rfl | rw [List.take_length])

end Go.Proofs.YtagdgclfnbiahaaDoor

namespace Go.Proofs.YtagdgclfnbiahaaDoor
open Go.RowKit
set_option linter.unusedVariables false

end Go.Proofs.YtagdgclfnbiahaaDoor

namespace Go.Proofs.YtagdgclfnbiahaaDoor
open Go.RowKit
set_option linter.unusedVariables false

end Go.Proofs.YtagdgclfnbiahaaDoor

namespace Go.Proofs.YtagdgclfnbiahaaDoor
open Go.RowKit Go.Shelf
set_option linter.unusedVariables false

section
variable {cx : Cx} {e : Env} {σ : Obs} {Q : Post}
end

section
variable {cx : Cx} {ops : Array Oper} {o : Oper} {rest : List Oper} {e : Env} {σ : Obs} {Q : Post}
/-- []T{x}: an own row of one element. -/
theorem AOps.buildS {t el size bytes dst : Nat} {z : Value} {x : Operand} {d : D} (id : Nat) (hg : o.guard = none) (ht : o.dst = some dst) (hdn : Nat.blt dst cx.N = true) (ho : o.op = .buildSlice t 1 #[(0, x)]) (T : ElemTy cx.P t el size bytes z) (hsz : Nat.ble size 1000 = true) (hx : e.ev x = .d d) (h1 : d.one = true) (h2 : d.parts.length = size) (hid : Obs.fresh id σ = true)
    (k : AOps cx ops rest ((e.kill id).put (some dst) (.own id)) ((id, .row el size [d.parts]) :: Obs.kill id σ) Q) (hfx : cx.free id = true := by rfl) : AOps cx ops (o :: rest) e σ Q := by
  intro a w ⟨F, ρ, hr⟩
  have hsz' : size ≤ 1000 := by simpa [Nat.ble_eq] using hsz
  have hdn' : dst < cx.N := by simpa [Nat.blt_eq] using hdn
  have r1 := ev_rep (e := e) (x := x) (a := a) (fun t _ => hr.env t)
  rw [hx] at r1
  obtain ⟨h3, h4⟩ := parts_rep (repS_d r1) h1
  have hcl : (a.eval x).cells.toList.length = size := by rw [h3.1]; exact h2
  obtain ⟨c, hc⟩ : ∃ c, c = (a.eval x).cells.toList := ⟨_, rfl⟩
  have hcl' : c.length = size := by rw [hc]; exact hcl
  obtain ⟨i, hi, hz0, hz1, hz2⟩ := info_parts T.hi
  have hzc : z.cells.size = size := T.hz
  have hs0 : 0 < size := T.hs
  obtain ⟨cs', h5, h6⟩ := fill_inorder (size := size) 0 [(0, a.eval x)] ((Array.range size).map (fun j => z.cells[j % z.cells.size]!)) (fun j hj => by
    have hj0 : j = 0 := by simpa using hj
    subst hj0
    refine ⟨rfl, ?_⟩
    have : (a.eval x).cells.size = size := by rw [← Array.length_toList]; exact hcl
    simpa using this) (by simp)
  have h7 : cs'.toList = c := by
    have h9 : List.drop size (List.map (fun j => z.cells[j % z.cells.size]!) (List.range size)) = [] := List.drop_eq_nil_of_le (by simp)
    simpa [← hc, h9] using h6
  have hcs : cs' = c.toArray := by rw [← h7]
  have hrun : (execOp a.eval o).run cx.P w = .ok (.value (.slice (some ⟨w.heap.size, 0, none⟩) 1 1)) (w.alloc (.cells c.toArray el)) := by
    unfold execOp
    simp only [ho, Instr.buildSlice, Sem.run_bind, run_underlying T.ht, Result.andThen_ok, T.sizeOf]
    rw [if_neg (show ¬ (1 * size > 2 ^ 24) by omega), if_neg (show ¬ (1 * size = 0) by omega)]
    have hprog : (program : Sem Program).run cx.P w = .ok cx.P w := rfl
    simp only [Sem.run_bind, zeroValue, typeInfo, hprog, Result.andThen_ok, hi, Sem.run_pure, hz0]
    have h8 : Array.map (fun (p : Nat × Operand) => (p.fst, a.eval p.snd)) #[(0, x)] = #[(0, a.eval x)] := by simp
    rw [h8]
    rw [hcs] at h5
    simp only [Nat.one_mul, List.toArray] at h5 ⊢
    first | rw [h5] | skip
    rfl
  have hrow : (w.alloc (.cells c.toArray el)).ownsRow cx.B el size (.slice (some ⟨w.heap.size, 0, none⟩) 1 1) 1 c :=
    ⟨by rw [Nat.one_mul]; exact hcl', .inr ⟨w.heap.size, 1, c.toArray, rfl, hr.hB, heap_alloc_new w _, Nat.le_refl _, by unfold maxLen; omega, by simpa using hcl', by rw [Nat.one_mul, ← hcl']; simp⟩⟩
  have hfl : flat (fun _ j => c.getD j undef) 1 size = c := by
    unfold flat
    simp only [List.range_one, List.map_cons, List.map_nil, List.flatten_cons, List.flatten_nil, List.append_nil]
    apply List.ext_getElem
    · simp [hcl']
    · intro j hj hj2
      simp [List.getD_eq_getElem?_getD, hj2]
  obtain ⟨ρ', h9⟩ := hr.newRow (v := .slice (some ⟨w.heap.size, 0, none⟩) 1 1) (els := [d.parts]) (Obs.fresh_spec hid) hdn' ((Below.refl _ _).alloc (Nat.le_refl _) (.cells c.toArray el))
    ⟨fun _ j => c.getD j undef, by dsimp only; rw [if_pos rfl]; show World.ownsRow _ _ _ _ _ _ (flat (fun _ j => c.getD j undef) 1 size); rw [hfl]; exact hrow, fun i hi => by
      have : i = 0 := by simpa using hi
      subst this
      simpa using h2, fun i hi j hj => by
      have : i = 0 := by simpa using hi
      subst this
      have hj' : j < d.parts.length := by simpa using hj
      have hjc : j < c.length := by omega
      have hgd : c.getD j undef = c[j] := by simp [List.getD_eq_getElem?_getD, hjc]
      dsimp only
      rw [hgd]
      subst hc
      refine ⟨h4 _ (List.getElem_mem hjc), ?_⟩
      have h10 := h3.2 j hjc (by omega)
      have hE : Ext F w F (w.alloc (.cells (a.eval x).cells.toList.toArray el)) := Ext.of_below hr.lt ((Below.refl _ _).alloc (Nat.le_refl _) _)
      simpa using h10.ext hr.lt hE, fun g hg hf => by dsimp only at hg; rw [if_pos rfl] at hg; simp [blk] at hg; have := hr.lt g hf; omega⟩
    (fun g hg => by simp [blk] at hg; omega) hfx
  refine wpList_plain hg fun K hK => ?_
  unfold Oper.wp
  rw [hrun]
  have := k _ _ ⟨F, ρ', h9⟩
  rw [← ht] at this
  exact hK _ _ this
end
end Go.Proofs.YtagdgclfnbiahaaDoor

namespace Go.Proofs.YtagdgclfnbiahaaDoor
open Go.RowKit
set_option linter.unusedVariables false

/-! Types. -/
namespace TySBF
end TySBF
open TyXA TyXB TySBA TySBB TySBC TySBD TySBE TySBF

set_option linter.unusedSimpArgs false
theorem bytes_1 {s : Snd} {l : List Nt} (h : sndF s ≠ 0) : bytesV s l = ([], sndF s) := if_pos h
theorem bytes_2 {s : Snd} {l : List Nt} (h : sndF s = 0) (h2 : 50 < l.length) : bytesV s l = ([], 2) := (if_neg (fun hh => hh h)).trans (if_pos h2)
theorem bytes_3 {s : Snd} {l : List Nt} (h : sndF s = 0) (h2 : ¬ 50 < l.length) {z : Int} (h3 : fst (ntsF l) l.length = z) (hz : z ≠ 0) : bytesV s l = ([], z) := by subst h3; exact (if_neg (fun hh => hh h)).trans ((if_neg h2).trans (if_pos hz))
theorem bytes_0 {s : Snd} {l : List Nt} (h : sndF s = 0) (h2 : ¬ 50 < l.length) (h3 : fst (ntsF l) l.length = 0) : bytesV s l = (packB (chksOf s l), 0) := (if_neg (fun hh => hh h)).trans ((if_neg h2).trans (if_neg (fun hh => hh h3)))
theorem nts_f {l : List Nt} {k : Nat} (hk : k < l.length) (h : ntF l[k] ≠ 0) : ntsF l k = ntF l[k] := by unfold ntsF; rw [dif_pos hk, if_pos h]
theorem nts_7 {l : List Nt} {k : Nat} (hk : k < l.length) (h : ¬ ntF l[k] ≠ 0) (h2 : l[k].name.data ∈ (l.take k).map (·.name.data)) : ntsF l k = 7 := by unfold ntsF; rw [dif_pos hk, if_neg h, if_pos h2]
theorem nts_0 {l : List Nt} {k : Nat} (hk : k < l.length) (h : ¬ ntF l[k] ≠ 0) (h2 : ¬ l[k].name.data ∈ (l.take k).map (·.name.data)) : ntsF l k = 0 := by unfold ntsF; rw [dif_pos hk, if_neg h, if_neg h2]
theorem nt_sz {n : Nt} (h : ¬ ntF n ≠ 0) : n.name.size ≤ 40 ∧ n.text.size ≤ 200 := by
  have h := Decidable.not_not.1 h
  unfold ntF at h
  split at h
  · exact absurd h (by decide)
  rename_i h1
  split at h
  · exact absurd h (by decide)
  split at h
  · exact absurd h (by decide)
  refine ⟨?_, by omega⟩
  have h2 : isName n.name.data.toList = true := by simpa using h1
  unfold isName at h2
  simp only [Bool.and_eq_true, decide_eq_true_eq] at h2
  have h3 := h2.1.1.2
  rw [Array.length_toList] at h3
  exact h3
/-! ## Which names have been -/
def nmM (l : List Nt) : List (Value × D) := l.map fun n => (.string n.name, .v (.bool true))
theorem nmM_keys {l : List Nt} : ∀ p ∈ nmM l, MapKept.IsKey .string p.1 := fun p hp => by
  obtain ⟨s, _, rfl⟩ := List.mem_map.1 hp
  trivial
theorem ba_ext {a b : ByteArray} (h : a.data = b.data) : a = b := by cases a; cases b; exact congrArg ByteArray.mk h
theorem nm_two {l : List Nt} {k : Nat} (h : fst (ntsF l) k = 0) {i j : Nat} (hi : i < k) (hj : j < i) (hk : k ≤ l.length) : (l[j]'(by omega)).name.data ≠ (l[i]'(by omega)).name.data := fun he => by
  have h1 := fst_all _ h i hi
  unfold ntsF at h1
  rw [dif_pos (by omega)] at h1
  split at h1
  · rename_i h2; exact h2 h1
  split at h1
  · exact absurd h1 (by decide)
  rename_i h3
  exact h3 (List.mem_map.2 ⟨l[j]'(by omega), List.mem_iff_getElem.2 ⟨j, by rw [List.length_take]; omega, by rw [List.getElem_take]⟩, he⟩)
theorem nm_get {l : List Nt} {k : Nat} (hk : k < l.length) (h : fst (ntsF l) k = 0) : MGet (nmM (l.take k)) (.string l[k].name) (.v (.bool false)) (.v (.bool (decide (l[k].name.data ∈ (l.take k).map (·.name.data))))) := by
  by_cases hm : l[k].name.data ∈ (l.take k).map (·.name.data)
  · rw [decide_eq_true hm]
    obtain ⟨n, hn, he⟩ := List.mem_map.1 hm
    obtain ⟨i, hi, rfl⟩ := List.mem_iff_getElem.1 hn
    have hik : i < k := by rw [List.length_take] at hi; omega
    have e1 : (l.take k)[i].name = l[k].name := ba_ext he
    refine .inl ⟨i, by unfold nmM; rw [List.getElem?_map, List.getElem?_eq_getElem hi, Option.map_some, e1], fun j p hj hp => ?_⟩
    unfold nmM at hj
    rw [List.getElem?_map] at hj
    cases hjl : (l.take k)[j]? with
    | none => rw [hjl] at hj; simp at hj
    | some u =>
      rw [hjl] at hj
      obtain rfl := Option.some.inj hj
      have hp : Value.string u.name = Value.string l[k].name := hp
      have hu : u.name = l[k].name := by injection hp
      obtain ⟨hj2, hj3⟩ := List.getElem?_eq_some_iff.1 hjl
      have hjk : j < k := by rw [List.length_take] at hj2; omega
      rw [List.getElem_take] at hj3 he
      subst hj3
      rcases Nat.lt_trichotomy i j with h1 | h1 | h1
      · exact absurd (he.trans (by rw [hu])) (nm_two h hjk h1 (by omega))
      · exact h1.symm
      · exact absurd ((congrArg ByteArray.data hu).trans he.symm) (nm_two h hik h1 (by omega))
  · rw [decide_eq_false hm]
    refine .inr ⟨fun p hp hq => ?_, rfl⟩
    obtain ⟨n, hn, rfl⟩ := List.mem_map.1 hp
    have hq : Value.string n.name = Value.string l[k].name := hq
    have hu : n.name = l[k].name := by injection hq
    exact hm (List.mem_map.2 ⟨n, hn, by rw [hu]⟩)
theorem nm_put {l : List Nt} {k : Nat} (hk : k < l.length) (hm : ¬ l[k].name.data ∈ (l.take k).map (·.name.data)) : MPut (nmM (l.take k)) (.string l[k].name) (.v (.bool true)) (nmM (l.take (k + 1))) := by
  refine .inr ⟨fun p hp hq => ?_, by rw [takeS hk]; unfold nmM; rw [List.map_append]; rfl⟩
  obtain ⟨n, hn, rfl⟩ := List.mem_map.1 hp
  have hq : Value.string n.name = Value.string l[k].name := hq
  have hu : n.name = l[k].name := by injection hq
  exact hm (List.mem_map.2 ⟨n, hn, by rw [hu]⟩)
/-! ## The samples -/
def rowT (s : Snd) (i k : Nat) : List UInt8 := (s.tracks.take k).flatMap fun t => putB (t.getD i 0) 3
theorem rowT_next {s : Snd} {i k : Nat} (hk : k < s.tracks.length) : rowT s i (k + 1) = rowT s i k ++ putB (s.tracks[k].getD i 0) 3 := by
  unfold rowT
  rw [takeS hk, List.flatMap_append]; simp
theorem rowT_all (s : Snd) (i : Nat) : rowT s i s.tracks.length = rowD s i := by unfold rowT rowD; rw [List.take_length]
theorem datD_next (s : Snd) (k : Nat) : datD s (k + 1) = datD s k ++ rowD s k := by unfold datD; rw [List.range_succ, List.flatMap_append]; simp
theorem flat3_len {α : Type} (f : α → List UInt8) (n : Nat) (h : ∀ x, (f x).length = n) : ∀ l : List α, (l.flatMap f).length = n * l.length
  | [] => rfl
  | x :: l => by rw [List.flatMap_cons, List.length_append, h, flat3_len f n h l, List.length_cons, Nat.mul_succ]; omega
theorem rowT_len (s : Snd) (i k : Nat) (h : k ≤ s.tracks.length) : (rowT s i k).length = 3 * k := by
  unfold rowT
  rw [flat3_len _ 3 (fun x => putB_len 3 _), List.length_take, Nat.min_eq_left h]
theorem rowD_len (s : Snd) (i : Nat) : (rowD s i).length = 3 * s.tracks.length := by rw [← rowT_all, rowT_len s i _ (Nat.le_refl _)]
theorem datD_len (s : Snd) (k : Nat) : (datD s k).length = 3 * s.tracks.length * k := by
  unfold datD
  rw [flat3_len _ _ (rowD_len s), List.length_range]
theorem at_smp {s : Snd} (ok : SndOk s) {i k : Nat} (hk : k < s.tracks.length) (hi : i < s.len) : (s.tracks[k].map sI)[i]? = some (sI (s.tracks[k].getD i 0)) := by
  have hl := ok.eq _ (List.getElem_mem hk)
  rw [at_lst (show i < s.tracks[k].length by omega), List.getD_eq_getElem?_getD, List.getElem?_eq_getElem (show i < s.tracks[k].length by omega)]; rfl
theorem dat_le {s : Snd} (ok : SndOk s) {k : Nat} (hk : k ≤ s.len) : (datD s k).length ≤ 4800000 := by
  rw [datD_len]
  have h1 := ok.tl; have h2 := ok.len
  exact Nat.le_trans (Nat.mul_le_mul (Nat.mul_le_mul_left 3 h1.2) (Nat.le_trans hk h2)) (by decide)
theorem chks_ok {s : Snd} {l : List Nt} : ∀ c ∈ chksOf s l, cnOk c.name = true := fun c hc => by
  unfold chksOf at hc
  rcases List.mem_append.1 hc with hc | hc
  · rcases List.mem_append.1 hc with hc | hc
    · rw [List.mem_singleton.1 hc]; show cnOk formS = true; decide
    · obtain ⟨n, _, rfl⟩ := List.mem_map.1 hc; show cnOk noteS = true; decide
  · rw [List.mem_singleton.1 hc]; show cnOk dataS = true; decide
theorem pack_bound {n : Nat} : ∀ {l : List Chk}, (∀ c ∈ l, (chkB c).length ≤ n) → (packB l).length ≤ n * l.length
  | [], _ => Nat.le_refl _
  | c :: l, h => by
    have ih := pack_bound (l := l) fun d hd => h d (List.mem_cons_of_mem _ hd)
    have h1 := h c List.mem_cons_self
    show (chkB c ++ packB l).length ≤ n * (l.length + 1)
    rw [List.length_append, Nat.mul_succ]; omega
theorem chks_len {s : Snd} {l : List Nt} (ok : SndOk s) (h2 : l.length ≤ 50) (h3 : ∀ n ∈ l, n.name.size ≤ 40 ∧ n.text.size ≤ 200) : (packB (chksOf s l)).length ≤ 8000000 := by
  unfold chksOf
  rw [packB_append, packB_append, List.length_append, List.length_append]
  have e1 : (packB [formC s]).length = (chkB (formC s)).length := by simp [packB]
  have e2 : (packB [dataC s]).length = (chkB (dataC s)).length := by simp [packB]
  have k1 := chkB_len (c := formC s) rfl
  have k2 := chkB_len (c := dataC s) rfl
  have k3 : (formC s).data.length = 12 := by show (putB _ 4 ++ putB _ 2 ++ putB _ 2 ++ putB _ 4).length = 12; simp only [List.length_append, putB_len]
  have k4 : (dataC s).data.length ≤ 4800000 := dat_le ok (Nat.le_refl _)
  have k5 := pack_bound (n := 300) (l := l.map noteC) fun c hc => by
    obtain ⟨n, hn, rfl⟩ := List.mem_map.1 hc
    have := h3 n hn
    have e : (noteC n).data.length = n.name.size + 1 + n.text.size := by
      show (n.name.data.toList ++ [0] ++ n.text.data.toList).length = _
      rw [List.length_append, List.length_append, Array.length_toList, Array.length_toList]; rfl
    rw [chkB_len rfl]; omega
  rw [List.length_map] at k5
  omega

end Go.Proofs.YtagdgclfnbiahaaDoor

namespace Go.Proofs.YtagdgclfnbiahaaDoor
open Go.RowKit
set_option linter.unusedVariables false

/-! Types. -/
namespace TySBG
theorem ag_54 : AggT Tryd.prog 54 2 := .of (by kernel_rfl)
theorem et_25 : ElemTy Tryd.prog 25 54 2 32 (.agg #[(.string ⟨#[]⟩), (.string ⟨#[]⟩)]) := ⟨by kernel_rfl, by kernel_rfl, by kernel_rfl, by decide⟩
theorem kk_9 : Tryd.prog.underlying 9 = some .string := by kernel_rfl
theorem mt_66 : Tryd.prog.underlying 66 = some (.map 9 4) := by kernel_rfl
theorem sz_54 : ∀ w, (sizeOf 54).run Tryd.prog w = .ok 2 w := SizeT.of (by kernel_rfl)
theorem u8_5 : U8T Tryd.prog 5 := ⟨by kernel_rfl⟩
theorem zt_4 : (Tryd.prog.info? 4).bind (·.zero) = some (.bool false) := by kernel_rfl
theorem zt_54 : (Tryd.prog.info? 54).bind (·.zero) = some (.agg #[(.string ⟨#[]⟩), (.string ⟨#[]⟩)]) := by kernel_rfl
end TySBG
open TyXA TyXB TySBA TySBB TySBC TySBD TySBE TySBF TySBG

set_option linter.unusedSimpArgs false
section
variable {P : Program} {B : Nat} {ops : Array Oper} {o : Oper} {e : Env} {σ : Obs}
theorem AOp.catA {t ty : TypeId} {x y : Operand} {a b : ByteArray} (ho : o.op = .binOp .add t x y ty) (hx : e.ev x = .d (.v (.string a))) (hy : e.ev y = .d (.v (.string b))) (hl : a.size + b.size ≤ 9223372036854775807) : AOp P B ops o e σ (.d (.v (.string (a ++ b)))) :=
  .bin ho hx hy fun w => by
    rw [Sem.run_bind, eqGuard_str]
    exact run_string_add_sum (P := P) (w := w) a b hl
end
theorem cat_list (a b : ByteArray) : (a ++ (⟨#[0]⟩ : ByteArray) ++ b).data.toList = a.data.toList ++ [0] ++ b.data.toList := by simp [ByteArray.data_append]
theorem chk_next {s : Snd} {l : List Nt} {k : Nat} (h : k < l.length) : ([formC s] ++ (l.take (k + 1)).map noteC).map Chk.ds = ([formC s] ++ (l.take k).map noteC).map Chk.ds ++ [(noteC l[k]).ds] := by rw [takeS h, List.map_append (l₁ := l.take k), ← List.append_assoc, List.map_append (l₁ := [formC s] ++ (l.take k).map noteC)]; rfl
theorem c_packD {s : Snd} {l : List Nt} (ok : SndOk s) (h2 : l.length ≤ 50) (h3 : ∀ n ∈ l, n.name.size ≤ 40 ∧ n.text.size ≤ 200) : ACall Tryd.prog 23 [.sl (([formC s] ++ l.map noteC).map Chk.ds ++ [(dataC s).ds])] (.tup [.sl ((packB (chksOf s l)).map u8D), .v (.int .i64 0)]) := by
 have h := c_pack (chksOf s l) (by unfold chksOf; simp only [List.length_append, List.length_map, List.length_cons, List.length_nil]; omega) chks_ok (chks_len ok h2 h3)
 have e : (chksOf s l).map Chk.ds = ([formC s] ++ l.map noteC).map Chk.ds ++ [(dataC s).ds] := by unfold chksOf; rw [List.map_append (l₁ := [formC s] ++ l.map noteC)]; rfl
 rwa [e] at h

set_option maxRecDepth 100000 in
set_option maxHeartbeats 8000000 in
theorem c_bytes (s : Snd) (l : List Nt) (hsz : ∀ n ∈ l, n.name.size ≤ 9223372036854775807 ∧ n.text.size ≤ 9223372036854775807) : ACall Tryd.prog 5 [.agg s.ds, .v (.int .i64 24), .sl (l.map Nt.ds)] (.tup [.sl ((bytesV s l).1.map u8D), .v (.int .i64 (bytesV s l).2)]) := by
  refine acall_of (n := 126) (ds' := [.sl ((bytesV s l).1.map u8D), .v (.int .i64 (bytesV s l).2)]) Tryd.func5 rfl (by kernel_rfl) rfl [6, 7] rfl rfl ?_
  intro B w0 F0 fr
  refine .sr ?_
  refine .sA (.box rfl rfl rfl) ?_
  refine .aA ?_
  refine .aA (.nil ?_)
  refine .seq ?_
  refine .sr ?_
  refine .sA (.loadAgg rfl ag_24 rfl rfl) ?_
  refine .sA (.call rfl (.cons (.rfl' rfl) .nil) (c_chk s)) ?_
  refine .aA (.nil ?_)
  refine .sr ?_
  refine .mA ?_
  refine .sA (.neq rfl rfl rfl) (.nil ?_)
  refine .cond rfl (fun h1 => ?_) (fun h1 => ?_)
  · replace h1 := of_decide_eq_true h1
    rw [bytes_1 h1]
    refine .sr ?_
    refine .mA ?_
    refine .aA ?_
    refine .aA (.nil ?_)
    refine .ret ?_
    refine ⟨RetD.nil rfl, RetD.eq rfl ?_, trivial⟩
    all_goals (first | rfl)
  replace h1 := of_decide_eq_false h1
  have hs0 : sndF s = 0 := Decidable.not_not.1 h1
  have ok := sndOk hs0
  have hln := ok.len
  have htl := ok.tl
  refine .skip ?_
  refine .seq ?_
  refine .sr ?_
  refine .mA ?_
  refine .sA (.neq rfl rfl rfl) ?_
  refine .mA ?_
  refine .split 29 rfl (fun g2 => ?_) (fun g2 => ?_)
  · replace g2 := of_decide_eq_true g2
    skip
    refine .sG (.moveD rfl rfl) ?_
    refine .sG (.neq rfl rfl rfl) ?_
    refine .sA (.pickT rfl rfl rfl) (.nil ?_)
    refine .cond rfl (fun h3 => ?_) (fun h3 => ?_)
    · replace h3 := of_decide_eq_true h3
      exact absurd rfl h3
    replace h3 := of_decide_eq_false h3
    refine .skip ?_
    refine .seq ?_
    refine .sr ?_
    refine .sA (.fieldAddr rfl fo_24_1 rfl) ?_
    refine .sA (.load rfl sc_22 rfl) ?_
    refine .sA (.lenSl rfl et_22.ht rfl) ?_
    refine .mA (.nil ?_)
    refine .block ?_
    refine .loop (G := Nat) (fun k => Env.of [(36, .d (.v (.int .i64 (k : Int)))), (34, .d (.sl (s.tracks.map trD))), (35, .d (.v (.int .i64 ((s.tracks.map trD).length : Int)))), (1, .d (.v (.int .i64 24))), (2, .d (.sl (l.map Nt.ds))), (3, .d (.fp s.ds))]) (fun k => []) (fun k => k ≤ s.tracks.length) (fun k => s.tracks.length - k) 0 (Nat.zero_le _) (Sub.less ⟨(SLe.of_eq rfl), SLe.refl _, SLe.refl _, SLe.refl _, SLe.refl _, SLe.refl _, trivial⟩ (fun _ h => h)) ?_
    intro k hk
    refine .sr ?_
    refine .sA (.lss rfl rfl rfl) (.nil ?_)
    refine .seq ?_
    refine .cond rfl (fun h4 => ?_) (fun h4 => ?_)
    · replace h4 := of_decide_eq_true h4
      rw [List.length_map] at h4
      have hlt : k < s.tracks.length := by omega
      have hlk := ok.eq _ (List.getElem_mem hlt)
      refine .skip ?_
      refine .seq ?_
      refine .block ?_
      refine .sr ?_
      refine .sA (.indexAddr rfl et_22 rfl rfl k rfl (at_lst hlt) rfl) ?_
      refine .sA (.load rfl sc_42 rfl) ?_
      refine .aA (.nil ?_)
      refine .sr ?_
      refine .mA ?_
      refine .sA (.lenSl rfl et_42.ht rfl) ?_
      refine .mA (.nil ?_)
      refine .block ?_
      refine .loop (G := Nat) (fun i => Env.of [(42, .d (.v (.int .i64 (i : Int)))), (40, .d (.sl (s.tracks[k].map sI))), (41, .d (.v (.int .i64 ((s.tracks[k].map sI).length : Int)))), (36, .d (.v (.int .i64 (k : Int)))), (34, .d (.sl (s.tracks.map trD))), (35, .d (.v (.int .i64 ((s.tracks.map trD).length : Int)))), (1, .d (.v (.int .i64 24))), (2, .d (.sl (l.map Nt.ds))), (3, .d (.fp s.ds))]) (fun i => []) (fun i => i ≤ s.tracks[k].length) (fun i => s.tracks[k].length - i) 0 (Nat.zero_le _) (Sub.less ⟨(SLe.of_eq rfl), SLe.refl _, SLe.refl _, SLe.refl _, SLe.refl _, SLe.refl _, SLe.refl _, SLe.refl _, SLe.refl _, trivial⟩ (fun _ h => h)) ?_
      intro i hi
      refine .sr ?_
      refine .sA (.lss rfl rfl rfl) (.nil ?_)
      refine .seq ?_
      refine .cond rfl (fun h5 => ?_) (fun h5 => ?_)
      · replace h5 := of_decide_eq_true h5
        rw [List.length_map] at h5
        have hil : i < s.tracks[k].length := by omega
        refine .skip ?_
        refine .seq ?_
        refine .block ?_
        refine .sr ?_
        refine .sA (.indexAddr rfl et_42 rfl rfl i rfl (at_lst hil) rfl) ?_
        refine .sA (.load rfl sc_3 rfl) ?_
        refine .aA (.nil ?_)
        refine .sr ?_
        refine .mA ?_
        refine .sA (.eql rfl rfl rfl) ?_
        refine .mA ?_
        refine .split 48 rfl (fun g6 => ?_) (fun g6 => ?_)
        · replace g6 := of_decide_eq_true g6
          exact absurd g6 (by decide)
        replace g6 := of_decide_eq_false g6
        refine .pA ?_
        refine .pA ?_
        refine .pA ?_
        refine .sA (.pickF rfl rfl rfl) (.nil ?_)
        refine .cond rfl (fun h => nomatch h) (fun _ => ?_)
        refine .skip ?_
        refine .region ?_
        refine .sA (.add64 rfl rfl rfl (by omega) (by omega)) ?_
        refine .mA (.nil ?_)
        refine ⟨i + 1, (by omega), (by dsimp only; omega), Sub.less ⟨(SLe.of_eq rfl), SLe.refl _, SLe.refl _, SLe.refl _, SLe.refl _, SLe.refl _, SLe.refl _, SLe.refl _, SLe.refl _, trivial⟩ (fun _ h => h)⟩
      replace h5 := of_decide_eq_false h5
      rw [List.length_map] at h5
      refine .exit ?_
      refine .region ?_
      refine .sA (.add64 rfl rfl rfl (by omega) (by omega)) ?_
      refine .mA (.nil ?_)
      refine ⟨k + 1, (by omega), (by dsimp only; omega), Sub.less ⟨(SLe.of_eq rfl), SLe.refl _, SLe.refl _, SLe.refl _, SLe.refl _, SLe.refl _, trivial⟩ (fun _ h => h)⟩
    replace h4 := of_decide_eq_false h4
    rw [List.length_map] at h4
    refine .exit ?_
    refine .seq ?_
    refine .sr ?_
    refine .mA ?_
    refine .sA (.lenSl rfl et_25.ht rfl) ?_
    refine .sA (.gtr rfl rfl rfl) (.nil ?_)
    refine .cond rfl (fun h7 => ?_) (fun h7 => ?_)
    · replace h7 := of_decide_eq_true h7
      rw [List.length_map] at h7
      rw [bytes_2 hs0 (by omega)]
      refine .sr ?_
      refine .aA ?_
      refine .aA (.nil ?_)
      refine .ret ?_
      refine ⟨RetD.nil rfl, RetD.eq rfl ?_, trivial⟩
      all_goals (first | rfl)
    replace h7 := of_decide_eq_false h7
    rw [List.length_map] at h7
    have h50 : ¬ 50 < l.length := by omega
    refine .skip ?_
    refine .sr ?_
    refine .sA (.loadAgg rfl ag_24 rfl rfl) ?_
    refine .mA ?_
    refine .sA (.call rfl (.cons (.rfl' rfl) (.cons (.rfl' rfl) .nil)) (c_form s ok.tl.1)) ?_
    refine .buildS 601 rfl rfl rfl rfl et_65 rfl rfl rfl rfl rfl ?_
    refine .sA (.assignO rfl rfl) (.nil ?_)
    refine .sr ?_
    refine .makeMap 602 rfl rfl rfl rfl rfl ?_
    refine .sA (.assignO rfl rfl) (.nil ?_)
    refine .seq ?_
    refine .sr ?_
    refine .mA ?_
    refine .sA (.lenSl rfl et_25.ht rfl) ?_
    refine .mA (.nil ?_)
    refine .block ?_
    refine .loop (G := Nat) (fun k => Env.of [(65, .d (.v (.int .i64 (k : Int)))), (63, .d (.sl (l.map Nt.ds))), (64, .d (.v (.int .i64 ((l.map Nt.ds).length : Int)))), (13, .own 601), (14, .own 602), (1, .d (.v (.int .i64 24))), (2, .d (.sl (l.map Nt.ds))), (3, .d (.fp s.ds))]) (fun k => [(602, .map (nmM (l.take k))), (601, .row 63 2 (([formC s] ++ (l.take k).map noteC).map Chk.ds))]) (fun k => k ≤ l.length ∧ fst (ntsF l) k = 0 ∧ ∀ n ∈ l.take k, n.name.size ≤ 40 ∧ n.text.size ≤ 200) (fun k => l.length - k) 0 ⟨Nat.zero_le _, rfl, fun n hn => by simp at hn⟩ (Sub.less ⟨(SLe.of_eq rfl), SLe.refl _, SLe.refl _, SLe.refl _, SLe.refl _, SLe.refl _, SLe.refl _, SLe.refl _, trivial⟩ (fun _ h => h)) ?_
    intro k hk
    refine .sr ?_
    refine .sA (.lss rfl rfl rfl) (.nil ?_)
    refine .seq ?_
    refine .cond rfl (fun h8 => ?_) (fun h8 => ?_)
    · replace h8 := of_decide_eq_true h8
      rw [List.length_map] at h8
      have hlt : k < l.length := by omega
      have hm : l[k] ∈ l := List.getElem_mem hlt
      refine .skip ?_
      refine .seq ?_
      refine .block ?_
      refine .sr ?_
      refine .sA (.indexAddr rfl et_25 rfl rfl k rfl (at_lst hlt) rfl) ?_
      refine .sA (.loadAgg rfl ag_54 rfl rfl) ?_
      refine .alloc 603 rfl rfl rfl rfl zt_54 rfl rfl rfl ?_
      refine .store rfl rfl rfl sz_54 rfl (.head _) rfl rfl rfl (Nat.le_of_ble_eq_true rfl) ?_
      refine .freezeCells 16 (ds := l[k].ds) rfl (.head _) (.nil ?_)
      refine .seq ?_
      refine .sr ?_
      refine .sA (.loadAgg rfl ag_54 rfl rfl) ?_
      refine .sA (.call rfl (.cons (.rfl' rfl) .nil) (c_chkN l[k] (hsz _ hm).1 (hsz _ hm).2)) ?_
      refine .aA (.nil ?_)
      refine .sr ?_
      refine .mA ?_
      refine .sA (.neq rfl rfl rfl) (.nil ?_)
      refine .cond rfl (fun h9 => ?_) (fun h9 => ?_)
      · replace h9 := of_decide_eq_true h9
        have HX := fst_hit hk.2.1 (show ntsF l k ≠ 0 by rw [nts_f hlt h9]; exact h9) _ hlt
        rw [nts_f hlt h9] at HX
        rw [bytes_3 hs0 h50 HX h9]
        refine .sr ?_
        refine .mA ?_
        refine .aA ?_
        refine .aA (.nil ?_)
        refine .ret ?_
        refine ⟨RetD.nil rfl, RetD.eq rfl ?_, trivial⟩
        all_goals (first | rfl)
      replace h9 := of_decide_eq_false h9
      have hn0 := h9
      have hz := nt_sz hn0
      refine .skip ?_
      refine .seq ?_
      refine .sr ?_
      refine .sA (.moveO rfl rfl) ?_
      refine .sA (.fieldAddr rfl fo_54_0 rfl) ?_
      refine .sA (.load rfl sc_9 rfl) ?_
      refine .sA (.lookup rfl mt_66 kk_9 zt_4 rfl (.head _) rfl trivial nmM_keys (nm_get hlt hk.2.1)) (.nil ?_)
      refine .cond rfl (fun h10 => ?_) (fun h10 => ?_)
      · skip
        have hd := of_decide_eq_true h10
        have HX := fst_hit hk.2.1 (show ntsF l k ≠ 0 by rw [nts_7 hlt hn0 hd]; decide) _ hlt
        rw [nts_7 hlt hn0 hd] at HX
        rw [bytes_3 hs0 h50 HX (by decide)]
        refine .sr ?_
        refine .aA ?_
        refine .aA (.nil ?_)
        refine .ret ?_
        refine ⟨RetD.nil rfl, RetD.eq rfl ?_, trivial⟩
        all_goals (first | rfl)
      have hn1 := of_decide_eq_false h10
      have hn2 := nts_0 hlt hn0 hn1
      refine .skip ?_
      refine .sr ?_
      refine .sA (.moveO rfl rfl) ?_
      refine .sA (.fieldAddr rfl fo_54_0 rfl) ?_
      refine .sA (.load rfl sc_9 rfl) ?_
      refine .eff rfl rfl (.mapUpdate rfl rfl mt_66 kk_9 rfl (.head _) rfl rfl trivial nmM_keys (nm_put hlt hn1)) (.nil ?_)
      refine .region ?_
      refine .sA (.moveO rfl rfl) ?_
      refine .sA (.fieldAddr rfl fo_54_0 rfl) ?_
      refine .sA (.load rfl sc_9 rfl) ?_
      refine .sA (.catA rfl rfl rfl (by show _ + 1 ≤ _; omega)) ?_
      refine .sA (.fieldAddr rfl fo_54_1 rfl) ?_
      refine .sA (.load rfl sc_9 rfl) ?_
      refine .sA (.catA rfl rfl rfl (by rw [ByteArray.size_append]; show _ + 1 + _ ≤ _; omega)) ?_
      refine .bytesOf 604 rfl rfl rfl rfl st_9 Tryd.underlying28 u8_5.hu rfl (by simp only [ByteArray.size_append]; show _ + 1 + _ ≤ _; omega) rfl ?_
      refine .freezeBts 88 rfl (.head _) ?_
      rw [cat_list]
      refine .sA (.build rfl bu_63 (.cons rfl rfl (.cons rfl rfl .nil)) rfl) ?_
      refine .sA (.buildSlice rfl et_65 (.cons rfl rfl rfl .nil) rfl (by decide)) ?_
      -- append 91
      refine .append rfl rfl rfl rfl et_65 rfl (.tail _ (.head _)) rfl (by simp [D.parts, Chk.ds]) (by simp; omega) (by simp; omega) ?_
      refine .sA (.assignO rfl rfl) (.nil ?_)
      refine .region ?_
      refine .sA (.add64 rfl rfl rfl (by omega) (by omega)) ?_
      refine .mA (.nil ?_)
      refine ⟨k + 1, ⟨by omega, fst_next hk.2.1 hn2, fun n hn => by rw [takeS hlt] at hn; rcases List.mem_append.1 hn with hn | hn; exact hk.2.2 n hn; rw [List.mem_singleton.1 hn]; exact hz⟩, (by dsimp only; omega), Sub.less ⟨(SLe.of_eq rfl), SLe.refl _, SLe.refl _, SLe.refl _, SLe.refl _, SLe.refl _, SLe.refl _, SLe.refl _, trivial⟩ (by dsimp only; rw [chk_next hlt]; exact fun _ h => h)⟩
    replace h8 := of_decide_eq_false h8
    rw [List.length_map] at h8
    obtain rfl : k = l.length := by omega
    rw [List.take_length]
    have hF := hk.2.1
    have hnt := hk.2.2
    rw [List.take_length] at hnt
    rw [bytes_0 hs0 h50 hF]
    refine .exit ?_
    refine .sr ?_
    refine .aA (.nil ?_)
    refine .seq ?_
    refine .sr ?_
    refine .sA (.loadAgg rfl ag_24 rfl rfl) ?_
    refine .sA (.call rfl (.cons (.rfl' rfl) .nil) (c_len s ok.tl.1)) ?_
    refine .mA (.nil ?_)
    refine .block ?_
    refine .adopt 18 901 5 1 rfl rfl ?_
    refine .loop (G := Nat) (fun i => Env.of [(95, .d (.v (.int .i64 (i : Int)))), (94, .d (.v (.int .i64 (s.len : Int)))), (18, .own 901), (13, .own 601), (1, .d (.v (.int .i64 24))), (2, .d (.sl (l.map Nt.ds))), (3, .d (.fp s.ds))]) (fun i => [(901, .row 5 1 ((datD s i).map u8D)), (601, .row 63 2 (([formC s] ++ l.map noteC).map Chk.ds))]) (fun i => i ≤ s.len) (fun i => s.len - i) 0 (Nat.zero_le _) (Sub.less ⟨(SLe.of_eq rfl), SLe.refl _, SLe.refl _, SLe.refl _, SLe.refl _, SLe.refl _, SLe.refl _, trivial⟩ (fun p hp => by rcases List.mem_cons.1 hp with rfl | hp; exact .head _; rw [List.mem_singleton.1 hp]; exact .tail _ (.tail _ (.head _)))) ?_
    intro i hi
    refine .sr ?_
    refine .sA (.lss rfl rfl rfl) (.nil ?_)
    refine .seq ?_
    refine .cond rfl (fun h11 => ?_) (fun h11 => ?_)
    · replace h11 := of_decide_eq_true h11
      have hil : i < s.len := by omega
      refine .skip ?_
      refine .seq ?_
      refine .block ?_
      refine .sr ?_
      refine .mA ?_
      refine .aA (.nil ?_)
      refine .sr ?_
      refine .sA (.fieldAddr rfl fo_24_1 rfl) ?_
      refine .sA (.load rfl sc_22 rfl) ?_
      refine .sA (.lenSl rfl et_22.ht rfl) ?_
      refine .mA (.nil ?_)
      refine .block ?_
      refine .loop (G := Nat) (fun k => Env.of [(101, .d (.v (.int .i64 (k : Int)))), (99, .d (.sl (s.tracks.map trD))), (100, .d (.v (.int .i64 ((s.tracks.map trD).length : Int)))), (19, .d (.v (.int .i64 (i : Int)))), (95, .d (.v (.int .i64 (i : Int)))), (94, .d (.v (.int .i64 (s.len : Int)))), (18, .own 901), (13, .own 601), (1, .d (.v (.int .i64 24))), (2, .d (.sl (l.map Nt.ds))), (3, .d (.fp s.ds))]) (fun k => [(901, .row 5 1 ((datD s i ++ rowT s i k).map u8D)), (601, .row 63 2 (([formC s] ++ l.map noteC).map Chk.ds))]) (fun k => k ≤ s.tracks.length) (fun k => s.tracks.length - k) 0 (Nat.zero_le _) (Sub.less ⟨(SLe.of_eq rfl), SLe.refl _, SLe.refl _, SLe.refl _, SLe.refl _, SLe.refl _, SLe.refl _, SLe.refl _, SLe.refl _, SLe.refl _, SLe.refl _, trivial⟩ (by simp only [rowT, List.take_zero, List.flatMap_nil, List.append_nil]; exact fun _ h => h)) ?_
      intro k hk
      refine .sr ?_
      refine .sA (.lss rfl rfl rfl) (.nil ?_)
      refine .seq ?_
      refine .cond rfl (fun h12 => ?_) (fun h12 => ?_)
      · replace h12 := of_decide_eq_true h12
        rw [List.length_map] at h12
        have hlt : k < s.tracks.length := by omega
        have hdl := dat_le ok (Nat.le_of_lt hil)
        have hrl := rowT_len s i k hk
        refine .skip ?_
        refine .seq ?_
        refine .block ?_
        refine .sr ?_
        refine .sA (.indexAddr rfl et_22 rfl rfl k rfl (at_lst hlt) rfl) ?_
        refine .sA (.load rfl sc_42 rfl) ?_
        refine .aA (.nil ?_)
        refine .region ?_
        refine .sA (.moveO rfl rfl) ?_
        refine .mA ?_
        refine .mA ?_
        refine .sA (.indexAddr rfl et_42 rfl rfl i rfl (at_smp ok hlt hil) rfl) ?_
        refine .sA (.load rfl sc_3 rfl) ?_
        refine .mA ?_
        refine .sA (.sub64 rfl rfl rfl (by omega) (by omega)) ?_
        refine .sA (.shrG rfl rfl rfl (by decide) (by decide)) ?_
        refine .mA ?_
        refine .sA (.quo64 rfl rfl rfl (by omega) (by omega) (by omega)) ?_
        rw [show s.tracks[k].getD i 0 / 2 ^ ((24 : Int) - 24).toNat = s.tracks[k].getD i 0 from Int.ediv_one _]
        refine .callXS rfl rfl rfl (ArgsS.cons (SLe.refl _) (ArgsS.cons (SLe.refl _) (ArgsS.cons (SLe.refl _) ArgsS.nil))) (c_put (datD s i ++ rowT s i k) (s.tracks[k].getD i 0) 3 (by decide) (by rw [List.length_append]; omega)) ⟨(.head _), trivial⟩ rfl rfl (fun i hi => by rw [Nat.eq_of_beq_eq_true hi]) ?_
        refine .sA (.assignO rfl rfl) (.nil ?_)
        refine .region ?_
        refine .sA (.add64 rfl rfl rfl (by omega) (by omega)) ?_
        refine .mA (.nil ?_)
        refine ⟨k + 1, (by omega), (by dsimp only; omega), Sub.less ⟨(SLe.of_eq rfl), SLe.refl _, SLe.refl _, SLe.refl _, SLe.refl _, SLe.refl _, SLe.refl _, SLe.refl _, SLe.refl _, SLe.refl _, SLe.refl _, trivial⟩ (by dsimp only; rw [rowT_next hlt, ← List.append_assoc]; exact fun _ h => h)⟩
      replace h12 := of_decide_eq_false h12
      rw [List.length_map] at h12
      obtain rfl : k = s.tracks.length := by omega
      refine .exit ?_
      refine .region ?_
      refine .sA (.add64 rfl rfl rfl (by omega) (by omega)) ?_
      refine .mA (.nil ?_)
      refine ⟨i + 1, (by omega), (by dsimp only; omega), Sub.less ⟨(SLe.of_eq rfl), SLe.refl _, SLe.refl _, SLe.refl _, SLe.refl _, SLe.refl _, SLe.refl _, trivial⟩ (by dsimp only; rw [datD_next, ← rowT_all]; exact fun _ h => h)⟩
    replace h11 := of_decide_eq_false h11
    obtain rfl : i = s.len := by omega
    refine .exit ?_
    refine .sr ?_
    refine .sA (.moveO rfl rfl) ?_
    refine .sA (.moveO rfl rfl) ?_
    refine .freeze 119 rfl (.head _) ?_
    refine .sA (.build rfl bu_63 (.cons rfl rfl (.cons rfl rfl .nil)) rfl) ?_
    refine .sA (.buildSlice rfl et_65 (.cons rfl rfl rfl .nil) rfl (by decide)) ?_
    -- append 122
    refine .append rfl rfl rfl rfl et_65 rfl (.head _) rfl (by simp [D.parts, Chk.ds]) (by simp; omega) (by simp; omega) ?_
    refine .freeze 122 rfl (.head _) ?_
    refine .sA (.call rfl (.cons (.rfl' rfl) .nil) (c_packD ok (by omega) hnt)) ?_
    refine .sA (.extract rfl rfl rfl) ?_
    refine .sA (.extract rfl rfl rfl) ?_
    refine .aA ?_
    refine .aA (.nil ?_)
    refine .ret ?_
    refine ⟨RetD.eq rfl ?_, RetD.eq rfl ?_, trivial⟩
    all_goals (first | rfl)
  replace g2 := of_decide_eq_false g2
  exact absurd (show (24 : Int) ≠ 16 by decide) g2

end Go.Proofs.YtagdgclfnbiahaaDoor

namespace Go.Proofs.YtagdgclfnbiahaaDoor
open Go.RowKit
set_option linter.unusedVariables false

theorem AOp.appendNil {P : Program} {B : Nat} {ops : Array Oper} {o : Oper} {e : Env} {σ : Obs} {x : Operand} {t ee : TypeId} {l : List UInt8} (ho : o.op = .call { callee := .builtin .append, args := #[.const (.slice none 0 0), x], argTypes := #[t, t] })
    (T : ElemTy P t ee 1 1 (.int .u8 0)) (hx : e.ev x = .d (.sl (l.map u8D))) (hn : l.length ≤ 100000000) : AOp P B ops o e σ (.d (.sl (l.map u8D))) := .value fun F ρ w a hF hr _ => by
  have h1 := hr x (by rw [ho]; simp [Op.operands, Call.operands])
  rw [hx] at h1
  have h2 := repS_d h1
  have hsl := sl_of_rep l (fun c => Value.int .u8 (c.toNat : Int)) h2
  obtain ⟨i, hi, hz0, hz1, hz2⟩ := info_parts T.hi
  rcases hsl.2 with ⟨hv, hl0⟩ | ⟨ad, cap, hv, hle, hcap, hc⟩
  · have hl : l = [] := List.eq_nil_of_length_eq_zero hl0
    subst hl
    refine ⟨.slice none 0 0, F, w, ?_, .d .nil, Ext.refl hF⟩
    unfold execOp
    simp only [ho, resolve, invoke, builtin, Sem.run_bind, Sem.run_pure, Result.andThen_ok, List.map_toArray, List.map_cons, List.map_nil, hv, show a.eval (.const (.slice none 0 0)) = .slice none 0 0 from rfl]
    simp [Builtin.append_, run_underlying T.ht, sizeOf, typeInfo, hi, Builtin.lenOf, Builtin.firstCells]
  · obtain ⟨v', w', hr2, hown, hgr, _, hat⟩ := run_append_own_at (P := P) w w.heap.size t o.type ee i (.int .u8 0) 1 1 T.ht hi hz0 hz1 hz2 rfl (by decide) (.slice none 0 0) 0 [] (World.ownsRow_nil w w.heap.size ee 1) ad l.length cap _ hsl.1 (by
      intro j u hj
      have hlt := (List.getElem?_eq_some_iff.1 hj).1
      rw [hc j hlt, ← hj, List.getElem?_eq_getElem hlt]) (fun u hu => by obtain ⟨c, _, rfl⟩ := List.mem_map.1 hu; rfl) (by unfold maxLen; omega) (by omega) (Nat.le_refl _)
    have hrun : (execOp a.eval o).run P w = .ok (.value v') w' := by
      unfold execOp
      simp only [ho, resolve, invoke, builtin, Sem.run_bind, Sem.run_pure, Result.andThen_ok, List.map_toArray, List.map_cons, List.map_nil, hv, hr2, show a.eval (.const (.slice none 0 0)) = .slice none 0 0 from rfl]
    refine ⟨v', fun b => F b ∨ (w.heap.size ≤ b ∧ b < w'.heap.size), w', hrun, .d ?_, ⟨fun b h => .inl h, fun b h => h.imp (fun h => h) And.left, fun b h => ?_, ⟨hgr.os, hgr.tape, hgr.output, hgr.size, fun k hk => hgr.block k hk (by simp [Value.ownBlock])⟩⟩⟩
    · rw [Nat.zero_add, List.nil_append] at hown
      have hown2 := hown
      rcases hown.2 with ⟨rfl, h0⟩ | ⟨g, cap2, cur, rfl, hbg, hg, hnc, hcm, hcs, htake⟩
      · have hl : l = [] := List.eq_nil_of_length_eq_zero h0
        subst hl; exact .nil
      · have hcell : ∀ j u, (l.map fun c => Value.int .u8 (c.toNat : Int))[j]? = some u → w'.cell? ((⟨g, 0, none⟩ : Addr).add j) = some u := hown2.cells (g := g) rfl
        have hgl : g < w'.heap.size := (Array.getElem?_eq_some_iff.1 hg).1
        have e : (l.map u8D).length = l.length := List.length_map _
        rw [← e]
        refine Rep.sl ⟨g, 0, none⟩ cap2 1 (l.map u8D) (fun i _ => .int .u8 ((l.getD i 0).toNat : Int)) (by rw [e]; exact hnc) hcm (fun _ => .inr ⟨hbg, hgl⟩) (fun i hi => by rw [List.getElem_map]; rfl) (fun i j hi hj => ?_) (fun _ _ _ _ => rfl) (fun i hi j hj => ?_)
        · have hj0 : j = 0 := by omega
          subst hj0
          rw [e] at hi
          rw [Nat.mul_one, Nat.add_zero]
          refine hcell i _ ?_
          rw [List.getElem?_map, List.getElem?_eq_getElem hi, List.getD_eq_getElem?_getD, List.getElem?_eq_getElem hi]; rfl
        · rw [e] at hi
          have e3 : (l.map u8D)[i] = [D.v (.int .u8 (l[i].toNat : Int))] := by rw [List.getElem_map]; rfl
          have hj0 : j = 0 := by rw [e3] at hj; simpa using hj
          subst hj0
          have e4 : (l.map u8D)[i][0] = D.v (.int .u8 (l[i].toNat : Int)) := by simp [u8D]
          rw [e4, List.getD_eq_getElem?_getD, List.getElem?_eq_getElem hi]
          exact .v _
    · rcases h with h | h
      · exact Nat.lt_of_lt_of_le (hF b h) hgr.size
      · exact h.2
end Go.Proofs.YtagdgclfnbiahaaDoor

namespace Go.Proofs.YtagdgclfnbiahaaDoor
open Go.RowKit
set_option linter.unusedVariables false

/-! Types. -/
namespace TySBH
end TySBH
open TyXA TyXB TySBA TySBB TySBC TySBD TySBE TySBF TySBG TySBH

set_option linter.unusedSimpArgs false
/-- A piece of bytes that lie in the middle. -/
theorem mid_cut {p m q : List UInt8} {a b : Int} (ha : a = p.length) (hb : b = p.length + m.length) : ((((p ++ m ++ q).map u8D).drop a.toNat).take (b.toNat - a.toNat)) = m.map u8D := by
  have e1 : a.toNat = p.length := by omega
  have e2 : b.toNat - a.toNat = m.length := by omega
  rw [e2, e1, ← List.map_drop, List.append_assoc, List.drop_left, ← List.map_take, List.take_left]
theorem mid_all {p q : List UInt8} {c : Chk} : p ++ chkB c ++ q = p ++ c.name.data.toList ++ (putB c.data.length 4 ++ c.data ++ padB c.data ++ q) := by unfold chkB; simp only [List.append_assoc]
theorem mid_len {p q : List UInt8} {c : Chk} : p ++ chkB c ++ q = (p ++ c.name.data.toList) ++ putB c.data.length 4 ++ (c.data ++ padB c.data ++ q) := by unfold chkB; simp only [List.append_assoc]
theorem mid_dat {p q : List UInt8} {c : Chk} : p ++ chkB c ++ q = (p ++ c.name.data.toList ++ putB c.data.length 4) ++ c.data ++ (padB c.data ++ q) := by unfold chkB; simp only [List.append_assoc]
theorem cut_name {p q : List UInt8} {c : Chk} {a b : Int} (h : c.name.data.toList.length = 4) (ha : a = p.length) (hb : b = p.length + 4) : ((((p ++ chkB c ++ q).map u8D).drop a.toNat).take (b.toNat - a.toNat)) = c.name.data.toList.map u8D := by
  rw [mid_all]; exact mid_cut ha (by omega)
theorem cutL {p q : List UInt8} {c : Chk} {a b : Int} (h : c.name.data.toList.length = 4) (ha : a = p.length + 4) (hb : b = p.length + 8) : ((((p ++ chkB c ++ q).map u8D).drop a.toNat).take (b.toNat - a.toNat)) = (putB c.data.length 4).map u8D := by
  rw [mid_len]; exact mid_cut (by rw [List.length_append]; omega) (by rw [List.length_append, putB_len]; omega)
theorem cut_dat {p q : List UInt8} {c : Chk} {a b : Int} (h : c.name.data.toList.length = 4) (ha : a = p.length + 8) (hb : b = p.length + 8 + c.data.length) : ((((p ++ chkB c ++ q).map u8D).drop a.toNat).take (b.toNat - a.toNat)) = c.data.map u8D := by
  rw [mid_dat]; exact mid_cut (by rw [List.length_append, List.length_append, putB_len]; omega) (by rw [List.length_append, List.length_append, putB_len]; omega)
theorem pad_at {p q : List UInt8} {c : Chk} {k : Nat} (h : c.name.data.toList.length = 4) (h2 : c.data.length % 2 = 1) (hk : k = p.length + 8 + c.data.length) : ((p ++ chkB c ++ q).map u8D)[k]? = some (u8D 0) := by
  have e : p ++ chkB c ++ q = (p ++ c.name.data.toList ++ putB c.data.length 4 ++ c.data) ++ ([0] ++ q) := by
    have hp : padB c.data = [0] := by unfold padB; rw [if_neg (by omega)]
    unfold chkB; rw [hp]; simp only [List.append_assoc]
  have hl : (p ++ c.name.data.toList ++ putB c.data.length 4 ++ c.data).length = k := by simp only [List.length_append, putB_len]; omega
  rw [e, List.getElem?_map, List.getElem?_append_right (by omega), hl, Nat.sub_self]; rfl
theorem FrOk.nil {cx : Cx} {σ : Obs} : FrOk cx [] σ := ⟨fun f h => by simp at h, fun f h => by simp at h, fun f h => by simp at h, fun f h => by simp at h, fun f h => by simp at h, fun f h => by simp at h, fun f h => by simp at h⟩
theorem u8_one (l : List UInt8) : ∀ y ∈ l.map u8D, y.length = 1 := fun y hy => by obtain ⟨c, _, rfl⟩ := List.mem_map.1 hy; rfl
theorem bld {l : List UInt8} {b : ByteArray} (h : l = b.data.toList) : (⟨l.toArray⟩ : ByteArray) = b := by subst h; rfl
theorem len_back {c : List UInt8} (h : c.length ≤ 8000000) : ((getB (putB (c.length : Int) 4) : Nat) : Int) = (c.length : Int) := get_back (by omega) (by show (c.length : Int) < (4294967296 : Nat); omega)

set_option maxRecDepth 100000 in
set_option maxHeartbeats 4000000 in
theorem c_chunkAt (pre post : List UInt8) (c : Chk) (hc : cnOk c.name = true) (hl : (pre ++ chkB c ++ post).length ≤ 8000000) : ACall Tryd.prog 48 [.sl ((pre ++ chkB c ++ post).map u8D), .v (.int .i64 (pre.length : Int))] (.tup [.agg c.ds, .v (.int .i64 ((pre.length + (chkB c).length : Nat) : Int)), .v (.bool true)]) := by
  refine acall_ofR (n := 73) (ds' := [.agg c.ds, .v (.int .i64 ((pre.length + (chkB c).length : Nat) : Int)), .v (.bool true)]) Tryd.func48 rfl (by kernel_rfl) rfl [.cell 4 63, .tmp 5, .tmp 6] rfl rfl ?_
  intro B w0 F0 fr
  have hq4 := cn_size hc
  have hq5 : c.name.data.toList.length = 4 := (Array.length_toList).trans hq4
  have hq6 := chkB_len hq4
  have HL : (pre ++ chkB c ++ post).length = pre.length + (8 + c.data.length + c.data.length % 2) + post.length := by rw [List.length_append, List.length_append, hq6]
  refine .sr ?_
  refine .alloc 101 rfl rfl rfl rfl zt_63 rfl rfl rfl ?_
  refine .aA ?_
  refine .aA (.nil ?_)
  refine .seq ?_
  refine .sr ?_
  refine .mA ?_
  refine .sA (.lenSl rfl et_28.ht rfl) ?_
  rw [List.length_map]
  refine .mA ?_
  refine .sA (.sub64 rfl rfl rfl (by omega) (by omega)) ?_
  refine .sA (.lss rfl rfl rfl) ?_
  refine .mA ?_
  refine .split 13 rfl (fun g1 => ?_) (fun g1 => ?_)
  · replace g1 := of_decide_eq_true g1
    omega
  replace g1 := of_decide_eq_false g1
  refine .sG (.moveD rfl rfl) ?_
  refine .sG (.moveD rfl rfl) ?_
  refine .sG (.moveD rfl rfl) ?_
  refine .sG (.add64 rfl rfl rfl (by omega) (by omega)) ?_
  refine .sG (.sliceLH rfl et_28 rfl rfl rfl (by omega) (by omega) (by rw [List.length_map]; omega) (u8_one _)) ?_
  rw [cut_name hq5 rfl rfl]
  refine .sG (.bytesStr rfl et_28.ht Tryd.underlying5 st_9 rfl) ?_
  rw [bld rfl]
  refine .sG (.call rfl (.cons (.rfl' rfl) .nil) (c_cn c.name (by omega))) ?_
  refine .sG (.not rfl rfl) ?_
  refine .sA (.pickF rfl rfl rfl) (.nil ?_)
  refine .cond rfl (fun h2 => ?_) (fun h2 => ?_)
  · replace h2 := bnot_t h2
    exact absurd (hc.symm.trans h2) (by decide)
  replace h2 := bnot_f h2
  refine .skip ?_
  refine .sr ?_
  refine .mA ?_
  refine .mA ?_
  refine .sA (.add64 rfl rfl rfl (by omega) (by omega)) ?_
  refine .mA ?_
  refine .sA (.add64 rfl rfl rfl (by omega) (by omega)) ?_
  refine .sA (.sliceLH rfl et_28 rfl rfl rfl (by omega) (by omega) (by rw [List.length_map]; omega) (u8_one _)) ?_
  rw [cutL hq5 rfl rfl]
  refine .sA (.call rfl (.cons (.rfl' rfl) .nil) (c_get (putB (c.data.length : Int) 4) (by rw [putB_len]; decide))) ?_
  rw [len_back (by omega)]
  refine .aA (.nil ?_)
  refine .sr ?_
  refine .mA ?_
  refine .sA (.add64 rfl rfl rfl (by omega) (by omega)) ?_
  refine .mA ?_
  refine .sA (.add64 rfl rfl rfl (by omega) (by omega)) ?_
  refine .mA ?_
  refine .sA (.rem64 rfl rfl rfl (by omega) (by omega)) ?_
  refine .sA (.add64 rfl rfl rfl (by omega) (by omega)) ?_
  refine .aA (.nil ?_)
  refine .seq ?_
  refine .sr ?_
  refine .mA ?_
  refine .mA ?_
  refine .sA (.lenSl rfl et_28.ht rfl) ?_
  rw [List.length_map]
  refine .sA (.gtr rfl rfl rfl) ?_
  refine .mA ?_
  refine .split 42 rfl (fun g3 => ?_) (fun g3 => ?_)
  · replace g3 := of_decide_eq_true g3
    omega
  replace g3 := of_decide_eq_false g3
  refine .sG (.moveD rfl rfl) ?_
  refine .sG (.rem64 rfl rfl rfl (by omega) (by omega)) ?_
  refine .sG (.gtr rfl rfl rfl) ?_
  refine .sG (.moveD rfl rfl) ?_
  refine .split 46 rfl (fun g4 => ?_) (fun g4 => ?_)
  · replace g4 := of_decide_eq_true g4
    refine .sG (.moveD rfl rfl) ?_
    refine .sG (.moveD rfl rfl) ?_
    refine .sG (.sub64 rfl rfl rfl (by omega) (by omega)) ?_
    refine .sG (.indexAddr rfl et_28 rfl rfl (pre.length + 8 + c.data.length) (by omega) (pad_at hq5 (by omega) rfl) rfl) ?_
    refine .sG (.load rfl sc_5 rfl) ?_
    refine .sG (.neq rfl rfl rfl) ?_
    refine .sG (.pickT rfl rfl rfl) ?_
    refine .sA (.pickF rfl rfl rfl) (.nil ?_)
    refine .cond rfl (fun h5 => ?_) (fun h5 => ?_)
    · replace h5 := of_decide_eq_true h5
      exact absurd rfl h5
    replace h5 := of_decide_eq_false h5
    refine .skip ?_
    refine .seq ?_
    refine .drawFreshL 17 [16] [] FrOk.nil (by kernel_rfl) (by kernel_rfl) (by kernel_rfl) (by kernel_rfl) (by kernel_rfl) ?_
    refine .step rfl rfl rfl (.moveD rfl rfl) ?_ (hs := trivial)
    refine .step rfl rfl rfl (.moveD rfl rfl) ?_ (hs := trivial)
    refine .step rfl rfl rfl (.moveD rfl rfl) ?_ (hs := trivial)
    refine .step rfl rfl rfl (.add64 rfl rfl rfl (by omega) (by omega)) ?_ (hs := trivial)
    refine .step rfl rfl rfl (.sliceLH rfl et_28 rfl rfl rfl (by omega) (by omega) (by rw [List.length_map]; omega) (u8_one _)) ?_ (hs := trivial)
    rw [cut_name hq5 rfl rfl]
    refine .step rfl rfl rfl (.bytesStr rfl et_28.ht Tryd.underlying5 st_9 rfl) ?_ (hs := trivial)
    rw [bld rfl]
    refine .step rfl rfl rfl (.moveD rfl rfl) ?_ (hs := trivial)
    refine .step rfl rfl rfl (.moveD rfl rfl) ?_ (hs := trivial)
    refine .step rfl rfl rfl (.add64 rfl rfl rfl (by omega) (by omega)) ?_ (hs := trivial)
    refine .step rfl rfl rfl (.moveD rfl rfl) ?_ (hs := trivial)
    refine .step rfl rfl rfl (.add64 rfl rfl rfl (by omega) (by omega)) ?_ (hs := trivial)
    refine .step rfl rfl rfl (.moveD rfl rfl) ?_ (hs := trivial)
    refine .step rfl rfl rfl (.add64 rfl rfl rfl (by omega) (by omega)) ?_ (hs := trivial)
    refine .step rfl rfl rfl (.sliceLH rfl et_28 rfl rfl rfl (by omega) (by omega) (by rw [List.length_map]; omega) (u8_one _)) ?_ (hs := trivial)
    rw [cut_dat hq5 rfl rfl]
    refine .step rfl rfl rfl (.appendNil rfl et_28 rfl (by omega)) ?_ (hs := trivial)
    refine .step rfl rfl rfl (.build rfl bu_63 (.cons rfl rfl (.cons rfl rfl .nil)) rfl) ?_ (hs := trivial)
    refine .step rfl rfl rfl (.moveD rfl rfl) ?_ (hs := trivial)
    refine .nil trivial ?_
    refine .store rfl rfl rfl sz_63 rfl (.head _) rfl rfl rfl (Nat.le_of_ble_eq_true rfl) ?_
    refine .aA ?_
    refine .aA (.nil ?_)
    refine .ret ?_
    refine ⟨RetR.agg rfl (.head _) ag_63 rfl (.cons (by first | exact CellD.nil | exact CellD.d | exact CellD.eq (by simp) | (refine CellD.own (by first | exact .head _ | exact .tail _ (.head _)) ?_; rfl)) (.cons (by first | exact CellD.nil | exact CellD.d | exact CellD.eq (by simp) | (refine CellD.own (by first | exact .head _ | exact .tail _ (.head _)) ?_; rfl)) .nil)), RetD.eq rfl ?_, RetD.eq rfl ?_, trivial⟩
    all_goals (first | rfl | (rw [hq6]; congr 3; omega))
  replace g4 := of_decide_eq_false g4
  refine .pA ?_
  refine .pA ?_
  refine .pA ?_
  refine .pA ?_
  refine .pA ?_
  refine .pA ?_
  refine .sG (.pickF rfl rfl rfl) ?_
  refine .sA (.pickF rfl rfl rfl) (.nil ?_)
  refine .cond rfl (fun h => nomatch h) (fun _ => ?_)
  refine .skip ?_
  refine .seq ?_
  refine .drawFreshL 17 [16] [] FrOk.nil (by kernel_rfl) (by kernel_rfl) (by kernel_rfl) (by kernel_rfl) (by kernel_rfl) ?_
  refine .step rfl rfl rfl (.moveD rfl rfl) ?_ (hs := trivial)
  refine .step rfl rfl rfl (.moveD rfl rfl) ?_ (hs := trivial)
  refine .step rfl rfl rfl (.moveD rfl rfl) ?_ (hs := trivial)
  refine .step rfl rfl rfl (.add64 rfl rfl rfl (by omega) (by omega)) ?_ (hs := trivial)
  refine .step rfl rfl rfl (.sliceLH rfl et_28 rfl rfl rfl (by omega) (by omega) (by rw [List.length_map]; omega) (u8_one _)) ?_ (hs := trivial)
  rw [cut_name hq5 rfl rfl]
  refine .step rfl rfl rfl (.bytesStr rfl et_28.ht Tryd.underlying5 st_9 rfl) ?_ (hs := trivial)
  rw [bld rfl]
  refine .step rfl rfl rfl (.moveD rfl rfl) ?_ (hs := trivial)
  refine .step rfl rfl rfl (.moveD rfl rfl) ?_ (hs := trivial)
  refine .step rfl rfl rfl (.add64 rfl rfl rfl (by omega) (by omega)) ?_ (hs := trivial)
  refine .step rfl rfl rfl (.moveD rfl rfl) ?_ (hs := trivial)
  refine .step rfl rfl rfl (.add64 rfl rfl rfl (by omega) (by omega)) ?_ (hs := trivial)
  refine .step rfl rfl rfl (.moveD rfl rfl) ?_ (hs := trivial)
  refine .step rfl rfl rfl (.add64 rfl rfl rfl (by omega) (by omega)) ?_ (hs := trivial)
  refine .step rfl rfl rfl (.sliceLH rfl et_28 rfl rfl rfl (by omega) (by omega) (by rw [List.length_map]; omega) (u8_one _)) ?_ (hs := trivial)
  rw [cut_dat hq5 rfl rfl]
  refine .step rfl rfl rfl (.appendNil rfl et_28 rfl (by omega)) ?_ (hs := trivial)
  refine .step rfl rfl rfl (.build rfl bu_63 (.cons rfl rfl (.cons rfl rfl .nil)) rfl) ?_ (hs := trivial)
  refine .step rfl rfl rfl (.moveD rfl rfl) ?_ (hs := trivial)
  refine .nil trivial ?_
  refine .store rfl rfl rfl sz_63 rfl (.head _) rfl rfl rfl (Nat.le_of_ble_eq_true rfl) ?_
  refine .aA ?_
  refine .aA (.nil ?_)
  refine .ret ?_
  refine ⟨RetR.agg rfl (.head _) ag_63 rfl (.cons (by first | exact CellD.nil | exact CellD.d | exact CellD.eq (by simp) | (refine CellD.own (by first | exact .head _ | exact .tail _ (.head _)) ?_; rfl)) (.cons (by first | exact CellD.nil | exact CellD.d | exact CellD.eq (by simp) | (refine CellD.own (by first | exact .head _ | exact .tail _ (.head _)) ?_; rfl)) .nil)), RetD.eq rfl ?_, RetD.eq rfl ?_, trivial⟩
  all_goals (first | rfl | (rw [hq6]; congr 3; omega))

end Go.Proofs.YtagdgclfnbiahaaDoor

namespace Go.Proofs.YtagdgclfnbiahaaDoor
open Go.RowKit
set_option linter.unusedVariables false

/-! Types. -/
namespace TySBI
end TySBI
open TyXA TyXB TySBA TySBB TySBC TySBD TySBE TySBF TySBG TySBH TySBI

set_option linter.unusedSimpArgs false
theorem pack_split {l : List Chk} {k : Nat} (h : k < l.length) : packB (l.take k) ++ chkB l[k] ++ packB (l.drop (k + 1)) = packB l := by
  conv => rhs; rw [← List.take_append_drop (k + 1) l, packB_append, packB_take h]
theorem c_chk1 {l : List Chk} {k : Nat} (h : k < l.length) (hn : ∀ c ∈ l, cnOk c.name = true) (hs : (packB l).length ≤ 8000000) : ACall Tryd.prog 48 [.sl ((packB l).map u8D), .v (.int .i64 ((packB (l.take k)).length : Int))] (.tup [.agg l[k].ds, .v (.int .i64 ((packB (l.take (k + 1))).length : Int)), .v (.bool true)]) := by
 have h1 := c_chunkAt (packB (l.take k)) (packB (l.drop (k + 1))) l[k] (hn _ (List.getElem_mem h)) (by rw [pack_split h]; exact hs)
 rw [pack_split h] at h1
 have e : (packB (l.take (k + 1))).length = (packB (l.take k)).length + (chkB l[k]).length := by rw [packB_take h, List.length_append]
 rw [e]; exact h1
def plcL (l : List Chk) (k : Nat) : List (List D) := (List.range k).map fun i => sI ((packB (l.take i)).length : Int)
theorem plcL_next (l : List Chk) (k : Nat) : plcL l (k + 1) = plcL l k ++ [sI ((packB (l.take k)).length : Int)] := by unfold plcL; rw [List.range_succ, List.map_append]; rfl
theorem plcL_len (l : List Chk) (k : Nat) : (plcL l k).length = k := by unfold plcL; rw [List.length_map, List.length_range]
theorem chk_nx {l : List Chk} {k : Nat} (h : k < l.length) : (l.take (k + 1)).map Chk.ds = (l.take k).map Chk.ds ++ [l[k].ds] := by rw [takeS h, List.map_append]; rfl

set_option maxRecDepth 100000 in
set_option maxHeartbeats 4000000 in
theorem c_placed (l : List Chk) (hl : l.length ≤ 100) (hn : ∀ c ∈ l, cnOk c.name = true) (hs : (packB l).length ≤ 8000000) : ACall Tryd.prog 30 [.sl ((packB l).map u8D)] (.tup [.sl (l.map Chk.ds), .sl (plcL l l.length), .v (.int .i64 0), .v (.int .i64 0)]) := by
  refine acall_of (n := 43) (ds' := [.sl (l.map Chk.ds), .sl (plcL l l.length), .v (.int .i64 0), .v (.int .i64 0)]) Tryd.func30 rfl (by kernel_rfl) rfl [2, 3, 4, 5] rfl rfl ?_
  intro B w0 F0 fr
  refine .sr ?_
  refine .aA ?_
  refine .aA ?_
  refine .aA ?_
  refine .aA (.nil ?_)
  refine .seq ?_
  refine .sr ?_
  refine .mA ?_
  refine .sA (.lenSl rfl et_28.ht rfl) ?_
  refine .sA (.gtr rfl rfl rfl) (.nil ?_)
  refine .cond rfl (fun h1 => ?_) (fun h1 => ?_)
  · replace h1 := of_decide_eq_true h1
    rw [List.length_map] at h1; omega
  replace h1 := of_decide_eq_false h1
  refine .skip ?_
  refine .sr ?_
  refine .aA (.nil ?_)
  refine .sr ?_
  refine .aA (.nil ?_)
  refine .seq ?_
  refine .sr ?_
  refine .aA (.nil ?_)
  refine .block ?_
  refine .adopt 6 601 63 2 rfl rfl ?_
  refine .adopt 7 602 3 1 rfl rfl ?_
  refine .loop (G := Nat) (fun k => Env.of [(8, .d (.v (.int .i64 ((packB (l.take k)).length : Int)))), (6, .own 601), (7, .own 602), (0, .d (.sl ((packB l).map u8D)))]) (fun k => [(602, .row 3 1 (plcL l k)), (601, .row 63 2 ((l.take k).map Chk.ds))]) (fun k => k ≤ l.length) (fun k => l.length - k) 0 (Nat.zero_le _) (Sub.less ⟨(SLe.of_eq rfl), SLe.refl _, SLe.refl _, SLe.refl _, trivial⟩ (fun _ h => h)) ?_
  intro k hk
  refine .seq ?_
  refine .sr ?_
  refine .mA ?_
  refine .mA ?_
  refine .sA (.lenSl rfl et_28.ht rfl) ?_
  refine .sA (.lss rfl rfl rfl) (.nil ?_)
  refine .cond rfl (fun h2 => ?_) (fun h2 => ?_)
  · replace h2 := of_decide_eq_true h2
    rw [List.length_map] at h2
    have hlt : k < l.length := by
      rcases Nat.lt_or_ge k l.length with hh | hh
      · exact hh
      rw [List.take_of_length_le hh] at h2; omega
    have hP := pack_le l k
    have hln : (plcL l k).length = k := plcL_len l k
    refine .skip ?_
    refine .block ?_
    refine .seq ?_
    refine .sr ?_
    refine .sA (.moveO rfl rfl) ?_
    refine .sA (.lenOwn rfl et_65.ht rfl (.tail _ (.head _))) ?_
    refine .sA (.eql rfl rfl rfl) (.nil ?_)
    refine .cond rfl (fun h3 => ?_) (fun h3 => ?_)
    · replace h3 := of_decide_eq_true h3
      rw [List.length_map, List.length_take] at h3; omega
    replace h3 := of_decide_eq_false h3
    refine .skip ?_
    refine .sr ?_
    refine .mA ?_
    refine .mA ?_
    refine .sA (.call rfl (.cons (.rfl' rfl) (.cons (.rfl' rfl) .nil)) (c_chk1 hlt hn hs)) ?_
    refine .mA ?_
    refine .sA (.extract rfl rfl rfl) ?_
    refine .sA (.extract rfl rfl rfl) ?_
    refine .sA (.extract rfl rfl rfl) ?_
    refine .alloc 603 rfl rfl rfl rfl zt_63 rfl rfl rfl ?_
    refine .store rfl rfl rfl sz_63 rfl (.head _) rfl rfl rfl (Nat.le_of_ble_eq_true rfl) ?_
    refine .freezeCells 9 (ds := l[k].ds) rfl (.head _) ?_
    refine .aA ?_
    refine .aA (.nil ?_)
    refine .seq ?_
    refine .sr ?_
    refine .mA ?_
    refine .sA (.not rfl rfl) (.nil ?_)
    refine .cond rfl (fun h4 => ?_) (fun h4 => ?_)
    · replace h4 := bnot_t h4
      exact absurd h4 (by decide)
    replace h4 := bnot_f h4
    refine .skip ?_
    refine .region ?_
    refine .sA (.moveO rfl rfl) ?_
    refine .sA (.loadAgg rfl ag_63 rfl rfl) ?_
    refine .sA (.buildSlice rfl et_65 (.cons rfl rfl rfl .nil) rfl (by decide)) ?_
    -- append 35
    refine .append rfl rfl rfl rfl et_65 rfl (.tail _ (.head _)) rfl (by simp [D.parts, Chk.ds]) (by simp; omega) (by simp; omega) ?_
    refine .sA (.moveO rfl rfl) ?_
    refine .mA ?_
    refine .sA (.buildSlice rfl et_42 (.cons rfl rfl rfl .nil) rfl (by decide)) ?_
    -- append 39
    refine .append rfl rfl rfl rfl et_42 rfl (.head _) rfl (by simp [D.parts]) (by simp [plcL_len]; omega) (by simp [plcL_len]; omega) ?_
    refine .mA ?_
    refine .sA (.assignO rfl rfl) ?_
    refine .sA (.assignO rfl rfl) ?_
    refine .aA (.nil ?_)
    refine ⟨k + 1, (by omega), (by dsimp only; omega), Sub.less ⟨(SLe.of_eq rfl), SLe.refl _, SLe.refl _, SLe.refl _, trivial⟩ (by dsimp only; rw [plcL_next, chk_nx hlt]; exact fun _ h => h)⟩
  replace h2 := of_decide_eq_false h2
  rw [List.length_map] at h2
  obtain rfl : k = l.length := by
    rcases Nat.lt_or_ge k l.length with hh | hh
    · have q1 := pack_len hh (cn_size (hn _ (List.getElem_mem hh)))
      have q2 := pack_le l (k + 1)
      omega
    omega
  rw [List.take_length]
  refine .exit ?_
  refine .sr ?_
  refine .sA (.moveO rfl rfl) ?_
  refine .sA (.moveO rfl rfl) ?_
  refine .sA (.assignO rfl rfl) ?_
  refine .sA (.assignO rfl rfl) ?_
  refine .aA ?_
  refine .aA (.nil ?_)
  refine .ret ?_
  refine ⟨RetD.own rfl (.tail _ (.head _)) ?_, RetD.own rfl (.head _) ?_, RetD.eq rfl ?_, RetD.eq rfl ?_, trivial⟩
  all_goals (first | rfl)

end Go.Proofs.YtagdgclfnbiahaaDoor

namespace Go.Proofs.YtagdgclfnbiahaaDoor
open Go.RowKit
set_option linter.unusedVariables false

/-! Types. -/
namespace TySBJ
end TySBJ
open TyXA TyXB TySBA TySBB TySBC TySBD TySBE TySBF TySBG TySBH TySBI TySBJ

set_option linter.unusedSimpArgs false
theorem tkE {l r : List UInt8} {k : Nat} (h1 : k < l.length) (h2 : k < r.length) (h : l.take k = r.take k) (he : ¬ ((l[k].toNat : Nat) : Int) ≠ ((r[k].toNat : Nat) : Int)) : l.take (k + 1) = r.take (k + 1) := by
  have he : l[k] = r[k] := UInt8.toNat_inj.1 (by omega)
  rw [takeS h1, takeS h2, h, he]
theorem tkA {l r : List UInt8} (hl : l.length = r.length) (h : l.take l.length = r.take l.length) : l = r := by
  rw [List.take_length, hl, List.take_length] at h; exact h

set_option maxRecDepth 100000 in
set_option maxHeartbeats 1000000 in
theorem c_eqB (l r : List UInt8) : ACall Tryd.prog 10 [.sl (l.map u8D), .sl (r.map u8D)] (.v (.bool (decide (l = r)))) := by
 refine acall_of (n := 26) (ds' := [.v (.bool (decide (l = r)))]) Tryd.func10 rfl (by kernel_rfl) rfl [4] rfl rfl ?_
 intro B w0 F0 fr
 refine .bound 0 rfl (fun hbd0 => ?_)
 rw [List.length_map] at hbd0
 refine .bound 1 rfl (fun hbd1 => ?_)
 rw [List.length_map] at hbd1
 refine .sr ?_
 refine .aA (.nil ?_)
 refine .seq ?_
 refine .sr ?_
 refine .mA ?_
 refine .sA (.lenSl rfl et_28.ht rfl) ?_
 refine .mA ?_
 refine .sA (.lenSl rfl et_28.ht rfl) ?_
 refine .sA (.neq rfl rfl rfl) (.nil ?_)
 refine .cond rfl (fun h1 => ?_) (fun h1 => ?_)
 ·replace h1 := of_decide_eq_true h1
  rw [List.length_map, List.length_map] at h1
  rw [decide_eq_false (show ¬ l = r from fun e => h1 (by rw [e]))]
  refine .sr ?_
  refine .aA (.nil ?_)
  refine .ret ?_
  refine ⟨RetD.eq rfl ?_, trivial⟩
  all_goals (rfl)
 replace h1 := of_decide_eq_false h1
 rw [List.length_map, List.length_map] at h1
 have hle : l.length = r.length := by omega
 refine .skip ?_
 refine .seq ?_
 refine .sr ?_
 refine .mA ?_
 refine .sA (.lenSl rfl et_28.ht rfl) ?_
 refine .mA (.nil ?_)
 refine .block ?_
 refine .loop (G := Nat) (fun k => Env.of [(13, .d (.v (.int .i64 (k : Int)))), (0, .d (.sl (l.map u8D))), (1, .d (.sl (r.map u8D))), (12, .d (.v (.int .i64 ((l.map u8D).length : Int))))]) (fun k => []) (fun k => k ≤ l.length ∧ l.take k = r.take k) (fun k => l.length - k) 0 ⟨Nat.zero_le _, by simp⟩ (Sub.less ⟨(SLe.of_eq rfl), SLe.refl _, SLe.refl _, SLe.refl _, trivial⟩ (fun _ h => h)) ?_
 intro k hk
 refine .sr ?_
 refine .sA (.lss rfl rfl rfl) (.nil ?_)
 refine .seq ?_
 refine .cond rfl (fun h2 => ?_) (fun h2 => ?_)
 ·replace h2 := of_decide_eq_true h2
  rw [List.length_map] at h2
  have hlt : k < l.length := by omega
  have hlr : k < r.length := by omega
  refine .skip ?_
  refine .seq ?_
  refine .block ?_
  refine .sr ?_
  refine .mA ?_
  refine .aA (.nil ?_)
  refine .seq ?_
  refine .draw (by kernel_rfl) (by kernel_rfl) ?_
  refine .sA (.moveD rfl rfl) ?_
  refine .sA (.moveD rfl rfl) ?_
  refine .sA (.indexAddr rfl et_28 rfl rfl k rfl (at_lst hlt) rfl) ?_
  refine .sA (.load rfl sc_5 rfl) ?_
  refine .sA (.moveD rfl rfl) ?_
  refine .sA (.moveD rfl rfl) ?_
  refine .sA (.indexAddr rfl et_28 rfl rfl k rfl (at_lst hlr) rfl) ?_
  refine .sA (.load rfl sc_5 rfl) ?_
  refine .sA (.neq rfl rfl rfl) ?_
  refine .nil ?_
  refine .cond rfl (fun h3 => ?_) (fun h3 => ?_)
  ·replace h3 := of_decide_eq_true h3
   rw [decide_eq_false (show ¬ l = r from fun e => h3 (by subst e; rfl))]
   refine .sr ?_
   refine .aA (.nil ?_)
   refine .ret ?_
   refine ⟨RetD.eq rfl ?_, trivial⟩
   all_goals (rfl)
  replace h3 := of_decide_eq_false h3
  have hT := tkE hlt hlr hk.2 h3
  refine .skip ?_
  refine .region ?_
  refine .sA (.add64 rfl rfl rfl (by omega) (by omega)) ?_
  refine .mA (.nil ?_)
  refine ⟨k + 1, ⟨by omega, hT⟩, (by dsimp only; omega), Sub.less ⟨(SLe.of_eq rfl), SLe.refl _, SLe.refl _, SLe.refl _, trivial⟩ (fun _ h => h)⟩
 replace h2 := of_decide_eq_false h2
 rw [List.length_map] at h2
 obtain rfl : k = l.length := by omega
 rw [decide_eq_true (tkA hle hk.2)]
 refine .exit ?_
 refine .sr ?_
 refine .aA (.nil ?_)
 refine .ret ?_
 refine ⟨RetD.eq rfl ?_, trivial⟩
 all_goals (rfl)

set_option maxRecDepth 100000 in
set_option maxHeartbeats 1000000 in
theorem c_eqI (l : List Int) : ACall Tryd.prog 15 [.sl (l.map sI), .sl (l.map sI)] (.v (.bool true)) := by
 refine acall_of (n := 26) (ds' := [.v (.bool true)]) Tryd.func15 rfl (by kernel_rfl) rfl [4] rfl rfl ?_
 intro B w0 F0 fr
 refine .bound 0 rfl (fun hbd0 => ?_)
 rw [List.length_map] at hbd0
 refine .sr ?_
 refine .aA (.nil ?_)
 refine .seq ?_
 refine .sr ?_
 refine .mA ?_
 refine .sA (.lenSl rfl et_42.ht rfl) ?_
 refine .mA ?_
 refine .sA (.lenSl rfl et_42.ht rfl) ?_
 refine .sA (.neq rfl rfl rfl) (.nil ?_)
 refine .cond rfl (fun h1 => ?_) (fun h1 => ?_)
 ·replace h1 := of_decide_eq_true h1
  exact absurd rfl h1
 replace h1 := of_decide_eq_false h1
 refine .skip ?_
 refine .seq ?_
 refine .sr ?_
 refine .mA ?_
 refine .sA (.lenSl rfl et_42.ht rfl) ?_
 refine .mA (.nil ?_)
 refine .block ?_
 refine .loop (G := Nat) (fun k => Env.of [(13, .d (.v (.int .i64 (k : Int)))), (0, .d (.sl (l.map sI))), (1, .d (.sl (l.map sI))), (12, .d (.v (.int .i64 ((l.map sI).length : Int))))]) (fun k => []) (fun k => k ≤ l.length) (fun k => l.length - k) 0 (Nat.zero_le _) (Sub.less ⟨(SLe.of_eq rfl), SLe.refl _, SLe.refl _, SLe.refl _, trivial⟩ (fun _ h => h)) ?_
 intro k hk
 refine .sr ?_
 refine .sA (.lss rfl rfl rfl) (.nil ?_)
 refine .seq ?_
 refine .cond rfl (fun h2 => ?_) (fun h2 => ?_)
 ·replace h2 := of_decide_eq_true h2
  rw [List.length_map] at h2
  have hlt : k < l.length := by omega
  refine .skip ?_
  refine .seq ?_
  refine .block ?_
  refine .sr ?_
  refine .mA ?_
  refine .aA (.nil ?_)
  refine .seq ?_
  refine .draw (by kernel_rfl) (by kernel_rfl) ?_
  refine .sA (.moveD rfl rfl) ?_
  refine .sA (.moveD rfl rfl) ?_
  refine .sA (.indexAddr rfl et_42 rfl rfl k rfl (at_lst hlt) rfl) ?_
  refine .sA (.load rfl sc_3 rfl) ?_
  refine .sA (.moveD rfl rfl) ?_
  refine .sA (.moveD rfl rfl) ?_
  refine .sA (.indexAddr rfl et_42 rfl rfl k rfl (at_lst hlt) rfl) ?_
  refine .sA (.load rfl sc_3 rfl) ?_
  refine .sA (.neq rfl rfl rfl) ?_
  refine .nil ?_
  refine .cond rfl (fun h3 => ?_) (fun h3 => ?_)
  ·replace h3 := of_decide_eq_true h3
   exact absurd rfl h3
  replace h3 := of_decide_eq_false h3
  refine .skip ?_
  refine .region ?_
  refine .sA (.add64 rfl rfl rfl (by omega) (by omega)) ?_
  refine .mA (.nil ?_)
  refine ⟨k + 1, (by omega), (by dsimp only; omega), Sub.less ⟨(SLe.of_eq rfl), SLe.refl _, SLe.refl _, SLe.refl _, trivial⟩ (fun _ h => h)⟩
 replace h2 := of_decide_eq_false h2
 refine .exit ?_
 refine .sr ?_
 refine .aA (.nil ?_)
 refine .ret ?_
 refine ⟨RetD.eq rfl ?_, trivial⟩
 all_goals (rfl)

end Go.Proofs.YtagdgclfnbiahaaDoor

namespace Go.Proofs.YtagdgclfnbiahaaDoor
open Go.RowKit
set_option linter.unusedVariables false

/-! Types. -/
namespace TySBK
end TySBK
open TyXA TyXB TySBA TySBB TySBC TySBD TySBE TySBF TySBG TySBH TySBI TySBJ TySBK

set_option maxRecDepth 100000 in
set_option maxHeartbeats 1000000 in
theorem c_clB (l : List UInt8) (hl : l.length ≤ 1000000) : OCall Tryd.prog 7 [.sl (l.map u8D)] 5 1 (l.map u8D) := by
 refine ocall_of (n := 8) Tryd.func7 rfl (by kernel_rfl) rfl 2 rfl rfl ?_
 intro B w0 F0 fr
 refine (Classical.em (l = [])).elim (fun hn => ?_) (fun hn => ?_)
 subst hn
 refine .nilOr 0 rfl ?_ (fun ad cap hcap => ?_)
 ·skip
  refine .sr ?_
  refine .aA (.nil ?_)
  refine .seq ?_
  refine .sr ?_
  refine .mA ?_
  refine .sA (.eqNilV rfl Tryd.underlying28 rfl rfl) (.nil ?_)
  refine .cond rfl (fun _ => ?_) (fun h => nomatch h)
  refine .sr ?_
  refine .aA (.nil ?_)
  refine .adopt 2 51 5 1 rfl rfl ?_
  refine .ret ?_
  refine ⟨51, rfl, mem_row_eq (.head _) ?_⟩
  first | rfl | simp
 ·skip
  refine .sr ?_
  refine .aA (.nil ?_)
  refine .seq ?_
  refine .sr ?_
  refine .mA ?_
  refine .sA (.eqNilV rfl Tryd.underlying28 rfl rfl) (.nil ?_)
  refine .cond rfl (fun h => nomatch h) (fun _ => ?_)
  refine .skip ?_
  refine .sr ?_
  refine .build0 102 rfl rfl rfl rfl et_28 rfl ?_
  refine .mA ?_
  refine .le 6 rfl (SLe.d (Le.empty hcap)) ?_
  -- append 7
  refine .append rfl rfl rfl rfl et_28 rfl (.head _) rfl (fun y hy => by first | exact absurd hy List.not_mem_nil | (obtain ⟨x, _, rfl⟩ := List.mem_map.1 hy; rfl)) (by simp; try omega) (by simp; try omega) ?_
  refine .sA (.assignO rfl rfl) (.nil ?_)
  refine .ret ?_
  refine ⟨102, rfl, mem_row_eq (.head _) ?_⟩
  first | rfl | simp
 refine .sr ?_
 refine .aA (.nil ?_)
 refine .seq ?_
 refine .sr ?_
 refine .mA ?_
 refine .sA (.eqNilS rfl Tryd.underlying28 rfl rfl (fun h => hn (List.map_eq_nil_iff.1 h))) (.nil ?_)
 refine .cond rfl (fun h => nomatch h) (fun _ => ?_)
 refine .skip ?_
 refine .sr ?_
 refine .build0 103 rfl rfl rfl rfl et_28 rfl ?_
 refine .mA ?_
 -- append 7
 refine .append rfl rfl rfl rfl et_28 rfl (.head _) rfl (fun y hy => by first | exact absurd hy List.not_mem_nil | (obtain ⟨x, _, rfl⟩ := List.mem_map.1 hy; rfl)) (by simp; try omega) (by simp; try omega) ?_
 refine .sA (.assignO rfl rfl) (.nil ?_)
 refine .ret ?_
 refine ⟨103, rfl, mem_row_eq (.head _) ?_⟩
 first | rfl | simp

set_option linter.unusedSimpArgs false
def belV (x n : Int) : Int := if x.tmod n < 0 then x.tmod n + n else x.tmod n
theorem tm_rng {x n : Int} (hn : 0 < n) : -n < x.tmod n ∧ x.tmod n < n := by
  have h1 := Int.natAbs_tmod x n
  have h2 := Nat.mod_lt x.natAbs (show 0 < n.natAbs by omega)
  omega
theorem belV_rng {x n : Int} (hn : 0 < n) : 0 ≤ belV x n ∧ belV x n < n := by
  have := tm_rng (x := x) hn
  unfold belV
  split <;> omega

set_option maxRecDepth 100000 in
set_option maxHeartbeats 1000000 in
theorem c_below (x n : Int) (hn : 0 < n ∧ n ≤ 1000000) : ACall Tryd.prog 8 [.v (.int .i64 x), .v (.int .i64 n)] (.v (.int .i64 (belV x n))) := by
 refine acall_of (n := 14) (ds' := [.v (.int .i64 (belV x n))]) Tryd.func8 rfl (by kernel_rfl) rfl [4] rfl rfl ?_
 intro B w0 F0 fr
 have hr := tm_rng (x := x) hn.1
 refine .sr ?_
 refine .aA (.nil ?_)
 refine .sr ?_
 refine .mA ?_
 refine .mA ?_
 refine .sA (.rem rfl rfl rfl (by omega)) ?_
 refine .aA (.nil ?_)
 refine .seq ?_
 refine .sr ?_
 refine .mA ?_
 refine .sA (.lss rfl rfl rfl) (.nil ?_)
 refine .cond rfl (fun h1 => ?_) (fun h1 => ?_)
 ·replace h1 := of_decide_eq_true h1
  have HB : belV x n = x.tmod n + n := if_pos h1
  rw [HB]
  refine .region ?_
  refine .mA ?_
  refine .mA ?_
  refine .sA (.add64 rfl rfl rfl (by omega) (by omega)) ?_
  refine .aA (.nil ?_)
  refine .sr ?_
  refine .mA ?_
  refine .aA (.nil ?_)
  refine .ret ?_
  refine ⟨RetD.eq rfl ?_, trivial⟩
  all_goals (first | rfl)
 replace h1 := of_decide_eq_false h1
 have HB : belV x n = x.tmod n := if_neg h1
 rw [HB]
 refine .skip ?_
 refine .sr ?_
 refine .mA ?_
 refine .aA (.nil ?_)
 refine .ret ?_
 refine ⟨RetD.eq rfl ?_, trivial⟩
 all_goals (first | rfl)

end Go.Proofs.YtagdgclfnbiahaaDoor

namespace Go.Proofs.YtagdgclfnbiahaaDoor
open Go.RowKit
attribute [local go_sem ↓] run_min_kept run_max_kept

theorem et_u8s : ElemTy Tryd.prog 28 5 1 1 (.int .u8 0) := ⟨by kernel_rfl, by kernel_rfl, by kernel_rfl, by decide⟩
set_option maxHeartbeats 400000 in
theorem vSum_any (v : Value) (l : List UInt8) (w : World) (h : Sl w 1 v l.length (u8s l)) :
    Calls Tryd.prog 27 #[v] w fun e w' => e = .returned (.int .u32 (fnv l)) ∧ w = w' := by
  have hl := h.bound
  have hlen := h.len et_u8s.ht 3
  have HH := Lib.hid h
  clear h
  go_enter Tryd.func27, Tryd.ntmps27
  go_wp2
  go_loop [3, 8] (fun x i => ∃ k : Nat, k ≤ l.length ∧ i = .int .i64 k ∧ x = .int .u32 (fnv (l.take k))) (fun _ i => l.length - (intOf i).toNat)
  case atStart => exact ⟨0, Nat.zero_le _, rfl, rfl⟩
  case round =>
    obtain ⟨k, hk, rfl, rfl⟩ := hrel
    by_cases hlt : k < l.length
    · obtain ⟨ad, hix, hcell⟩ := HH.out.idx1 et_u8s k (by omega) (by omega)
      rw [Int.toNat_natCast, u8s_getD l k hlt] at hcell
      have hb : (l[k].toNat : Int) < 256 := by have := l[k].toNat_lt; omega
      have HS := Lib.hid (fstep_u32 (fnv (l.take k)) l[k] (fnv_lt _))
      go_wp2
      go_round
      case rel => 
        refine ⟨k + 1, by omega, by go_num, ?_⟩
        rw [take_snoc l k hlt, fnv_snoc, ← HS.out]
      case measure => simp [intOf]; omega
    · have e : k = l.length := by omega
      subst e
      rw [List.take_length]
      go_wp2
      go_ret
      exact ⟨rfl, rfl⟩

/-- n lies from a to b. -/
def inB (n a b : Int) : Bool := decide (a ≤ n ∧ n ≤ b)

/-- Block i of bytes. -/
def chunk (l : List UInt8) (b i : Nat) : List UInt8 := (l.drop (i * b)).take b

/-- The sums of the first k blocks. -/
def sumsTo (l : List UInt8) (b k : Nat) : List Nat := (List.range k).map fun i => fnv (chunk l b i)
theorem sumsTo_succ (l : List UInt8) (b k : Nat) : sumsTo l b (k + 1) = sumsTo l b k ++ [fnv (chunk l b k)] := by
  simp [sumsTo, List.range_succ]
theorem sumsTo_length (l : List UInt8) (b k : Nat) : (sumsTo l b k).length = k := by simp [sumsTo]
/-- How many blocks. -/
def nblk (n b : Nat) : Nat := (n + b - 1) / b

theorem nblk_le (n b : Nat) (hb : 1 ≤ b) : nblk n b ≤ n := by
  unfold nblk
  rcases Nat.eq_zero_or_pos n with rfl | hn
  · rw [Nat.div_eq_of_lt (by omega)]; omega
  · apply Nat.le_of_lt_succ
    rw [Nat.div_lt_iff_lt_mul (by omega)]
    have : n + b ≤ n * b + b := by have := Nat.le_mul_of_pos_right n hb; omega
    rw [Nat.succ_mul]; omega

theorem nblk_lt (n b k : Nat) (hb : 1 ≤ b) : k * b < n ↔ k < nblk n b := by
  unfold nblk
  rw [Nat.lt_div_iff_mul_lt (by omega)]
  omega
end Go.Proofs.YtagdgclfnbiahaaDoor

namespace Go.Proofs.YtagdgclfnbiahaaDoor
open Go.RowKit

/-- A contract of the elder kind on one slice of bytes. -/
theorem acall_bytes {P : Program} {f : FuncId} {l : List UInt8} {y : Value} (he : Enters P f) (h : ∀ w v, Sl w 1 v l.length (u8s l) → Calls P f #[v] w fun e w' => e = .returned y ∧ Below w.heap.size w w') : ACall P f [.sl (l.map u8D)] (.v y) :=
  ⟨he, fun F w vs hF hv => by
    obtain ⟨v, rfl⟩ : ∃ v, vs = [v] := by
      have := hv.1
      rcases vs with _ | ⟨v, _ | ⟨_, _⟩⟩ <;> simp at this
      exact ⟨v, rfl⟩
    have h1 := hv.2 0 (by simp) (by simp)
    exact (h w v (sl_of_rep l (fun c => .int .u8 (c.toNat : Int)) h1)).mono fun e w' ⟨h1, h2⟩ => ⟨y, F, h1, .v _, Ext.of_below hF h2⟩⟩

theorem c_pSum (l : List UInt8) : ACall Tryd.prog 27 [.sl (l.map u8D)] (.v (.int .u32 ((fnv l : Nat) : Int))) :=
 acall_bytes (.of Tryd.func27 (by kernel_rfl) rfl) fun w v h => (vSum_any v l w h).mono fun _ _ ⟨h1, h2⟩ => ⟨h1, h2 ▸ Below.refl _ _⟩
end Go.Proofs.YtagdgclfnbiahaaDoor
