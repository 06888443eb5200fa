/- Walks and laws over abstract values, merged by tools/merge.py. No statement of the seat. -/
import Derived.Laws.Cover3
import Derived.Test.YtcfamaddnmnaeaaGreatDoorZB4

namespace Go.Proofs.YtcfamaddnmnaeaaGreatDoor
open Go.RowKit
set_option linter.unusedVariables false

/-! Types. -/
namespace TyU4
end TyU4
open TyF0 TyF1 TyF2 TyF3 TyF4 TyF5 TyF6 TyF7 TyF8 TyF9 TyF10 TyF11 TyG1 TyG2 TyG5 TyU1 TyU2 TyU3 TyU4

open Go.Lib
/-- The number of the first one; -1: there is none. -/
def idxBy {α : Type} (p : α → Bool) (l : List α) : Int := if l.any p then (l.findIdx p : Int) else -1
def grpFB (g : Grp) (b : ByteArray) : Int := if nameOk g.name = false then 5 else if sle g.name b = true then 8 else grpF0 g
def dealFB (c : Ctr) (d : Deal) (b : ByteArray) : Int := if nameOk d.name = false then 5 else if sle d.name b = true then 8 else dealF0 c d
def okGrp (g : Grp) : Prop := g.name.size ≤ 9223372036854775807 ∧ ∀ s ∈ g.cut, s.party.size ≤ 9223372036854775807

end Go.Proofs.YtcfamaddnmnaeaaGreatDoor

namespace Go.Proofs.YtcfamaddnmnaeaaGreatDoor
open Go.RowKit
set_option linter.unusedVariables false

/-- f, called with what reads as ds, returns a new row whose elements read as els, and that nobody else has. -/
def OCall (P : Program) (f : FuncId) (ds : List D) (ee size : Nat) (els : List (List D)) : Prop := Enters P f ∧
  ∀ (F : Nat → Prop) (w : World) (vs : List Value), (∀ b, F b → b < w.heap.size) → RepL F w vs ds →
    Calls P f vs.toArray w fun r w' => ∃ v F', r = .returned v ∧ Ext F w F' w' ∧ ObOk w.heap.size F' (fun _ => v) w' 0 (.row ee size els)

section
variable {cx : Cx} {ops : Array Oper} {o : Oper} {rest : List Oper} {e : Env} {σ : Obs} {Q : Post}
end

section
variable {P : Program} {B : Nat} {ops : Array Oper} {o : Oper} {e : Env} {σ : Obs}
end

/-! ## Contracts -/
def RetO (t ee size : Nat) (els : List (List D)) : Post := fun ex e σ => match ex with
  | .ret => ∃ id, e t = .own id ∧ (id, Ob.row ee size els) ∈ σ
  | .normal => ∃ id, e t = .own id ∧ (id, Ob.row ee size els) ∈ σ
  | _ => False
end Go.Proofs.YtcfamaddnmnaeaaGreatDoor

namespace Go.Proofs.YtcfamaddnmnaeaaGreatDoor
open Go.RowKit
set_option linter.unusedVariables false

/-- One operation, from worlds that keep what was there at the beginning. -/
def AOpK (cx : Cx) (ops : Array Oper) (o : Oper) (e : Env) (σ : Obs) (s : S) : Prop :=
  ∀ (F : Nat → Prop) (ρ : Nat → Value) (w : World) (a : Act), Kept cx.fr cx.w0 w → (∀ b, F b → b < w.heap.size) → (∀ t, t ∈ o.looksAt ops → RepS F ρ w (a.tmps.getD t undef) (e t)) → ObsOk cx.B F ρ w σ →
    o.wp cx.P a w (fun a' w' => ∃ v F', a' = a.put o.dst v ∧ RepS F' ρ w' v s ∧ Ext F w F' w') (fun _ _ _ => False)
theorem AOp.toK {cx : Cx} {ops : Array Oper} {o : Oper} {e : Env} {σ : Obs} {s : S} (h : AOp cx.P cx.B ops o e σ s) : AOpK cx ops o e σ s := fun F ρ w a _ => h F ρ w a
theorem AOpK.callT {cx : Cx} {ops : Array Oper} {o : Oper} {e : Env} {σ : Obs} {T : World → Prop} {f : FuncId} {xs : List Operand} {ts : Array TypeId} {ds : List D} {d : D} (hst : Stays T) (hfr : cx.fr = fun b => cx.w0.heap.size ≤ b) (hT : T cx.w0)
    (ho : o.op = .call { callee := .value (.func f), args := xs.toArray, argTypes := ts }) (ha : ArgsOk e xs ds) (h : ACallT cx.P T f ds d) : AOpK cx ops o e σ (.d d) := by
  intro F ρ w a hK hF hr _
  have h1 : RepL F w (xs.map a.eval) ds := ha.rep (ρ := ρ) fun t ht => hr t (looks_op (by rw [ho]; simp [Op.operands, Call.operands, ht]))
  rw [hfr] at hK
  have h2 := h.2 F w _ (hst _ _ hK hT) hF h1
  have h3 := h.1 (xs.map a.eval).toArray w
  have hx : (execOp a.eval o).run cx.P w = .ok (.enter f (xs.map a.eval).toArray) w := by
    unfold execOp
    simp only [ho, resolve, Deferred.ofValue, Act.eval, invoke, Sem.run_bind, Sem.run_pure, Result.andThen_ok]
    simpa using h3
  unfold Oper.wp
  rw [hx]
  exact h2.mono fun _ w' ⟨v, F', he, hv, hE⟩ => by subst he; exact ⟨v, F', rfl, .d hv, hE⟩

def KRun (cx : Cx) (ops : Array Oper) (σ : Obs) : List Oper → Env → (Env → Prop) → Prop
  | [], e, Qe => Qe e
  | o :: l, e, Qe => DstOk cx.N o ∧ ((∃ s, GW ops o e true ∧ AOpK cx ops o e σ s ∧ KRun cx ops σ l (e.put o.dst s) Qe) ∨ (GW ops o e false ∧ KRun cx ops σ l (e.put o.dst (.d (.v undef))) Qe))

theorem KRun.nil {cx : Cx} {ops : Array Oper} {σ : Obs} {e : Env} {Qe : Env → Prop} (h : Qe e) : KRun cx ops σ [] e Qe := h
theorem KRun.cons {cx : Cx} {ops : Array Oper} {σ : Obs} {e : Env} {Qe : Env → Prop} {o : Oper} {l : List Oper} {s : S} (hg : GW ops o e true) (hd : DstOk cx.N o) (h : AOpK cx ops o e σ s)
    (k : KRun cx ops σ l (e.put o.dst s) Qe) : KRun cx ops σ (o :: l) e Qe := ⟨hd, .inl ⟨s, hg, h, k⟩⟩
theorem KRun.step {cx : Cx} {ops : Array Oper} {σ : Obs} {e : Env} {Qe : Env → Prop} {o : Oper} {l : List Oper} {s : S} {t : Nat} (hg : GW ops o e true) (ht : o.dst = some t) (hd : Nat.blt t cx.N = true) (h : AOpK cx ops o e σ s)
    (k : KRun cx ops σ l (e.put (some t) s) Qe) : KRun cx ops σ (o :: l) e Qe := .cons hg (by unfold DstOk; rw [ht]; exact hd) h (by rw [ht]; exact k)
def KStep (cx : Cx) (ops : Array Oper) (σ : Obs) (o : Oper) (e : Env) (s : S) : Prop :=
  (GW ops o e true ∧ AOpK cx ops o e σ s) ∨ (GW ops o e false ∧ s = .d (.v undef))

theorem KStep.same {cx : Cx} {ops : Array Oper} {σ : Obs} {o : Oper} {e e' : Env} {s : S} (h : KStep cx ops σ o e s) (he : ∀ t, t ∈ o.looksAt ops → e' t = e t) : KStep cx ops σ o e' s := by
  rcases h with ⟨h1, h2⟩ | ⟨h1, h2⟩
  · exact .inl ⟨h1.same he, fun F ρ w a hK hF ha hσ => h2 F ρ w a hK hF (fun t ht => by rw [← he t ht]; exact ha t ht) hσ⟩
  · exact .inr ⟨h1.same he, h2⟩

def anyK (cx : Cx) (ops : Array Oper) (σ : Obs) (Qe : Env → Prop) : Nat → Array Bool → Env → Prop
  | 0, listed, e => Region.ready .any ops listed = [] ∧ Qe e
  | fuel + 1, listed, e => (Region.ready .any ops listed = [] → Qe e) ∧
      ∀ i ∈ Region.ready .any ops listed, ∀ o, ops[i]? = some o → ∃ s, KStep cx ops σ o e s ∧ anyK cx ops σ Qe fuel (listed.setIfInBounds i true) (e.put o.dst s)

theorem anyK_first {cx : Cx} {ops : Array Oper} {σ : Obs} {Qe : Env → Prop} {i : Nat} {oi : Oper} {s : S} (hi : ops[i]? = some oi) :
    ∀ (fuel : Nat) (listed : Array Bool) (e : Env),
      (∀ j oj, ops[j]? = some oj → j ≠ i → listed.getD j true = false → (∀ e ∈ oj.after, Region.binds .any e = true → e.on ≠ i) → oi.apart ops oj = true) →
      i ∈ Region.ready .any ops listed → KStep cx ops σ oi e s → anyK cx ops σ Qe fuel (listed.setIfInBounds i true) (e.put oi.dst s) → anyK cx ops σ Qe (fuel + 1) listed e := by
  intro fuel
  induction fuel with
  | zero =>
    intro listed e _ hr hy H
    refine ⟨fun h => (by rw [h] at hr; cases hr), fun j hj o ho => ?_⟩
    by_cases hji : j = i
    · subst hji
      rw [hi] at ho; cases ho
      exact ⟨s, hy, H⟩
    · have := ready_mono hj hji
      rw [H.1] at this
      cases this
  | succ fuel ih =>
    intro listed e hfree hr hy H
    refine ⟨fun h => (by rw [h] at hr; cases hr), fun j hj oj hoj => ?_⟩
    by_cases hji : j = i
    · subst hji
      rw [hi] at hoj; cases hoj
      exact ⟨s, hy, H⟩
    · obtain ⟨sj, h1, h2⟩ := H.2 j (ready_mono hj hji) oj hoj
      obtain ⟨hjun, oj', hoj', hall⟩ := mem_ready.1 hj
      rw [hoj] at hoj'; cases hoj'
      have hnot : ∀ e ∈ oj.after, Region.binds .any e = true → e.on ≠ i := fun e he hb heq => by
        have h1 := hall e he hb
        have h0 := (mem_ready.1 hr).1
        rw [heq] at h1
        rcases Nat.lt_or_ge i listed.size with h' | h'
        · simp [h'] at h0 h1; rw [h0] at h1; cases h1
        · simp [Array.getElem?_eq_none h'] at h1
      obtain ⟨a1, a2, a3⟩ := Oper.apart_spec (hfree j oj hoj hji hjun hnot)
      refine ⟨sj, h1.same (fun t ht => (put_looks a1 t ht).symm), ?_⟩
      refine ih (listed.setIfInBounds j true) (e.put oj.dst sj) (fun k ok hk hki hun hno => ?_) (ready_mono hr (Ne.symm hji)) (hy.same (put_looks a3)) ?_
      · refine hfree k ok hk hki ?_ hno
        by_cases hjk : j = k
        · subst hjk; exact hjun
        · rw [getD_set_ne true hjk] at hun; exact hun
      · rw [Array.setIfInBounds_comm _ _ hji, ← Env.put_comm e oi.dst oj.dst s sj a2]
        exact h2

theorem anyK_lex {cx : Cx} {ops : Array Oper} {σ : Obs} {Qe : Env → Prop} : ∀ (l : List Oper) (k : Nat) (listed : Array Bool) (e : Env), (∀ j, l[j]? = ops[k + j]?) →
    Region.lexFrom .any ops l.length k listed = true → KRun cx ops σ l e Qe → anyK cx ops σ Qe l.length listed e
  | [], _, _, _, _, hB, h => ⟨by simpa [Region.lexFrom] using hB, h⟩
  | o :: l, k, listed, e, hl, hB, h => by
    have h0 : ops[k]? = some o := by simpa using (hl 0).symm
    simp only [List.length_cons, Region.lexFrom, Bool.and_eq_true] at hB
    obtain ⟨⟨hr, hf⟩, hB'⟩ := hB
    have hl' : ∀ j, l[j]? = ops[k + 1 + j]? := fun j => by have := hl (j + 1); simpa [Nat.add_assoc, Nat.add_comm 1 j] using this
    obtain ⟨_, ⟨s, hg, ho, hK⟩ | ⟨hg, hK⟩⟩ := h
    · exact anyK_first h0 l.length listed e (Region.free_spec h0 hf) (by simpa using hr) (.inl ⟨hg, ho⟩) (anyK_lex l (k + 1) _ _ hl' hB' hK)
    · exact anyK_first h0 l.length listed e (Region.free_spec h0 hf) (by simpa using hr) (.inr ⟨hg, rfl⟩) (anyK_lex l (k + 1) _ _ hl' hB' hK)

theorem KRun.dsts {cx : Cx} {ops : Array Oper} {σ : Obs} {Qe : Env → Prop} : ∀ (l : List Oper) (e : Env), KRun cx ops σ l e Qe → ∀ o ∈ l, DstOk cx.N o
  | [], _, _, o, ho => by cases ho
  | x :: l, e, h, o, ho => by
    obtain ⟨h1, ⟨_, _, _, h2⟩ | ⟨_, h2⟩⟩ := h <;> (cases ho with
      | head => exact h1
      | tail _ ho => exact KRun.dsts l _ h2 o ho)

theorem wpAny_of_K {cx : Cx} {ops : Array Oper} {σ : Obs} {Q : Post} (hd : ∀ o ∈ ops.toList, DstOk cx.N o) : ∀ (fuel : Nat) (listed : Array Bool) (e : Env) (a : Act) (w : World), R cx e σ a w →
    anyK cx ops σ (fun e => Q .normal e σ) fuel listed e → wpAny cx.P .any ops (lift cx Q) fuel listed a w
  | 0, _, e, _, _, hr, h => ⟨h.1, e, σ, h.2, hr⟩
  | fuel + 1, listed, e, a, w, hr, h => by
    refine ⟨fun h0 => ⟨e, σ, h.1 h0, hr⟩, fun i hi => ?_⟩
    obtain ⟨_, o, ho, _⟩ := mem_ready.1 hi
    obtain ⟨s, hs, hk⟩ := h.2 i hi o ho
    have hdo : DstOk cx.N o := hd o (Array.mem_toList_iff.2 (Array.mem_of_getElem? ho))
    unfold wpOp
    simp only [ho]
    obtain ⟨F, ρ, hr⟩ := hr
    rcases hs with ⟨hg, hop⟩ | ⟨hg, rfl⟩
    · rw [if_pos (hg.wanted (fun t _ => hr.env t))]
      refine .inl (wp_to ?_ (fun _ _ _ => False.elim) (hop F ρ w a hr.below hr.lt (fun t _ => hr.env t) hr.obs))
      rintro a' w' ⟨v, F', rfl, hv, he⟩
      exact wpAny_of_K hd fuel _ _ _ _ ⟨F', ρ, hr.put he hv hdo⟩ hk
    · rw [if_neg (by rw [hg.wanted (fun t _ => hr.env t)]; simp)]
      exact wpAny_of_K hd fuel _ _ _ _ ⟨F, ρ, hr.put (Ext.refl hr.lt) repS_undef hdo⟩ hk

end Go.Proofs.YtcfamaddnmnaeaaGreatDoor

namespace Go.Proofs.YtcfamaddnmnaeaaGreatDoor
open Go.RowKit
set_option linter.unusedVariables false

/-- What it is as data, while the own objects rest. -/
inductive Snap (σ : Obs) : S → D → Prop where
  | d (x : D) : Snap σ (.d x) x
  | any (s : S) : Snap σ s .any
  | le {s : S} {d d' : D} (h : Snap σ s d) (k : Le d d') : Snap σ s d'
  | row {id e size : Nat} {els : List (List D)} (h : (id, Ob.row e size els) ∈ σ) : Snap σ (.own id) (.sl els)
  | rowS {id e size : Nat} {els : List (List S)} {ds : List (List D)} (h : (id, Ob.rowS e size els) ∈ σ) (hl : els.length = ds.length) (hs : ∀ i (h1 : i < els.length) (h2 : i < ds.length), els[i].length = ds[i].length)
      (hr : ∀ i (h1 : i < els.length) (h2 : i < ds.length) j (h3 : j < els[i].length) (h4 : j < ds[i].length), Snap σ els[i][j] ds[i][j]) : Snap σ (.own id) (.sl ds)
  | val {id : Nat} {ss : List S} {ds : List D} (h : (id, Ob.val ss) ∈ σ) (hl : ss.length = ds.length) (hr : ∀ i (h1 : i < ss.length) (h2 : i < ds.length), Snap σ ss[i] ds[i]) : Snap σ (.own id) (.agg ds)
  | ptr {id off : Nat} {ss : List S} {ds : List D} (h : (id, Ob.cells ss) ∈ σ) (hl : off + ds.length ≤ ss.length) (hr : ∀ i (h1 : off + i < ss.length) (h2 : i < ds.length), Snap σ ss[off + i] ds[i]) : Snap σ (.ptr id off) (.fp ds)
  | ptrS {id e size k : Nat} {els : List (List S)} {ds : List D} (h : (id, Ob.rowS e size els) ∈ σ) (hk : k < els.length) (hl : els[k].length = ds.length) (hr : ∀ j (h1 : j < els[k].length) (h2 : j < ds.length), Snap σ els[k][j] ds[j]) : Snap σ (.ptr id (k * size)) (.fp ds)
  | clo {f : FuncId} {caps : List Cap} {ds : List D} (hl : caps.length = ds.length) (hr : ∀ i (h1 : i < caps.length) (h2 : i < ds.length), Snap σ caps[i].toS ds[i]) : Snap σ (.clo f caps) (.clo (.func f) ds)

theorem obS_row {B : Nat} {F : Nat → Prop} {ρ : Nat → Value} {w : World} {σ : Obs} (h : ObsOk B F ρ w σ) {id ee size : Nat} {els : List (List S)} (hm : (id, Ob.rowS ee size els) ∈ σ) (hne : 0 < els.length) :
    ∃ g cap, ∃ vs : Nat → Nat → Value, ρ id = .slice (some ⟨g, 0, none⟩) els.length cap ∧ blk (ρ id) = some g ∧ els.length ≤ cap ∧ cap ≤ 9223372036854775807 ∧ (∀ k j, k < els.length → j < size → w.cell? ⟨g, k * size + j, none⟩ = some (vs k j)) ∧
      (∀ k (hk : k < els.length), els[k].length = size) ∧ (∀ k (hk : k < els.length) j (hj : j < els[k].length), (vs k j).oneCell' = true ∧ RepS F ρ w (vs k j) els[k][j]) := by
  obtain ⟨xs, h1, h2, h3, _⟩ := h.ok _ hm
  dsimp only at h1
  rcases h1.2 with ⟨_, h4⟩ | ⟨g, cap, cur, h4, h5, h6, h7, h8, _⟩
  · omega
  · exact ⟨g, cap, xs, h4, by rw [h4]; rfl, h7, by unfold maxLen at h8; omega, fun k j hk hj => row_cell h1 h4 h6 hk hj, h2, h3⟩

theorem Snap.rep {B : Nat} {F : Nat → Prop} {ρ : Nat → Value} {w : World} {σ : Obs} (hσ : ObsOk B F ρ w σ) {s : S} {d : D} (h : Snap σ s d) : ∀ x, RepS F ρ w x s → Rep (endF F ρ σ) w x d := by
  induction h with
  | d y => exact fun x hx => (repS_d hx).mono (fun b hb => .inl hb) fun _ _ => rfl
  | any s => exact fun x _ => .any x
  | le h k ih => exact fun x hx => k _ _ _ (ih x hx)
  | row hm =>
    intro x hx
    cases hx
    exact ob_rep hσ hm
  | @rowS id e size els ds hm hl hs hr ih =>
    intro x hx
    cases hx
    by_cases hne : 0 < els.length
    · obtain ⟨g, cap, vs, h1, h2, h3, h4, h5, h6, h7⟩ := obS_row hσ hm hne
      rw [h1, hl]
      refine .sl ⟨g, 0, none⟩ cap size ds vs (by omega) h4 (fun _ => .inr ⟨_, hm, h2⟩) (fun i hi => by rw [← hs i (by omega) hi]; exact h6 i (by omega)) (fun i j hi hj => ?_) (fun i j hi hj => ?_) (fun i hi j hj => ?_)
      · rw [addr_add, Nat.zero_add]; exact h5 i j (by omega) hj
      · exact (h7 i (by omega) j (by rw [h6 i (by omega)]; exact hj)).1
      · exact ih i (by omega) hi j (by rw [hs i (by omega) hi]; exact hj) hj _ (h7 i (by omega) j (by rw [hs i (by omega) hi]; exact hj)).2
    · obtain ⟨xs, h1, _⟩ := hσ.ok _ hm
      dsimp only at h1
      have h0 : els.length = 0 := by omega
      have hds : ds = [] := List.eq_nil_of_length_eq_zero (by omega)
      subst hds
      rcases h1.2 with ⟨h4, _⟩ | ⟨g, cap, cur, h4, h5, h6, h7, h8, _⟩
      · rw [h4]; exact .nil
      · rw [h4, h0]
        exact .sl ⟨g, 0, none⟩ cap size [] (fun _ _ => undef) (by simp) (by unfold maxLen at h8; omega) (fun h => absurd h (by simp)) (fun i hi => absurd hi (by simp)) (fun i j hi => absurd hi (by simp)) (fun i j hi => absurd hi (by simp)) (fun i hi => absurd hi (by simp))
  | @val id ss ds hm hl hr ih =>
    intro x hx
    cases hx
    obtain ⟨cs, h1, h2, h3⟩ := hσ.ok _ hm
    dsimp only at h1
    rw [h1]
    exact .agg cs ds (by omega) (fun i hi => (h3 i hi (by omega)).1) (fun i hi hi2 => ih i (by omega) hi2 _ (h3 i hi (by omega)).2)
  | @ptr id off ss ds hm hl hr ih =>
    intro x hx
    obtain ⟨g, ty, cs, h1, h2, h3, h4, h5, h6⟩ := hσ.ok _ hm
    dsimp only at h1
    have hv := ptr_at hx (g := g) (by rw [h1]; rfl)
    rw [hv]
    refine .fp ⟨g, off, none⟩ ds (fun j => cs.getD (off + j) undef) (.inr ⟨_, hm, by rw [h1]; rfl⟩) (fun j hj => ?_) (fun j hj => ?_) (fun j hj => ?_)
    · have hjc : off + j < cs.length := by omega
      rw [addr_add, cell_of_row w g (off + j) cs.toArray ty (0, 0) h4]
      simp [hjc]
    · have hjc : off + j < cs.length := by omega
      have := (h6 (off + j) hjc (by omega)).1
      simpa [hjc] using this
    · have hjc : off + j < cs.length := by omega
      have := ih j (by omega) hj _ (h6 (off + j) hjc (by omega)).2
      simpa [hjc] using this
  | @ptrS id e size k els ds hm hk hl hr ih =>
    intro x hx
    obtain ⟨g, cap, vs, h1, h2, h3, h4, h5, h6, h7⟩ := obS_row hσ hm (by omega)
    have hv := ptr_at hx (g := g) h2
    rw [hv]
    refine .fp ⟨g, k * size, none⟩ ds (fun j => vs k j) (.inr ⟨_, hm, h2⟩) (fun j hj => ?_) (fun j hj => ?_) (fun j hj => ?_)
    · rw [addr_add]
      exact h5 k j hk (by rw [← h6 k hk]; omega)
    · exact (h7 k hk j (by omega)).1
    · exact ih j (by omega) hj _ (h7 k hk j (by omega)).2
  | @clo f caps ds hl hr ih =>
    intro x hx
    cases hx with
    | clo _ cs _ hcs =>
      have h1 := hcs.toS
      have h2 : cs.length = caps.length := by simpa using h1.1
      refine .clo (.func f) cs ds (by omega) fun i hi hi2 => ih i (by omega) hi2 _ ?_
      have h3 := h1.2 i hi (by simp; omega)
      rw [List.getElem_map] at h3
      exact h3

/-- Data that holds no memory. -/
inductive Plain : D → Prop where
  | v (x : Value) : Plain (.v x)
  | any : Plain .any
  | agg (ds : List D) (h : ∀ d ∈ ds, Plain d) : Plain (.agg ds)
  | tup (ds : List D) (h : ∀ d ∈ ds, Plain d) : Plain (.tup ds)
def SnapArgs (e : Env) (σ : Obs) : List Operand → List D → Prop
  | [], [] => True
  | x :: xs, d :: ds => Snap σ (e.ev x) d ∧ SnapArgs e σ xs ds
  | _, _ => False
section
variable {P : Program} {B : Nat} {ops : Array Oper} {o : Oper} {e : Env} {σ : Obs}
/-- One cell of a row of rows. -/
theorem AOp.loadRowS {t : TypeId} {x : Operand} {id off ee size : Nat} {els : List (List S)} {ss : List S} {s : S} (ho : o.op = .load t x) (hT : Scal P t) (hx : e.ev x = .ptr id off) (hm : (id, Ob.rowS ee size els) ∈ σ) (k j : Nat) (hoff : off = k * size + j) (hk : els[k]? = some ss) (hd : ss[j]? = some s) :
    AOp P B ops o e σ s :=
  .value fun F ρ w a hF hr hσ => by
  have h1 := hr x (by rw [ho]; simp [Op.operands])
  rw [hx] at h1
  have hlt : k < els.length := (List.getElem?_eq_some_iff.1 hk).1
  have hde : els[k] = ss := (List.getElem?_eq_some_iff.1 hk).2
  have hjl : j < ss.length := (List.getElem?_eq_some_iff.1 hd).1
  have hdd : ss[j] = s := (List.getElem?_eq_some_iff.1 hd).2
  obtain ⟨g, cap, vs, _, h2, _, _, h5, h6, h7⟩ := obS_row hσ hm (by omega)
  have hv := ptr_at h1 (g := g) h2
  have hsz := h6 k hlt
  rw [hde] at hsz
  have hc := h5 k j hlt (by omega)
  have hrep := (h7 k hlt j (by rw [hde]; exact hjl)).2
  refine ⟨vs k j, F, w, ?_, ?_, Ext.refl hF⟩
  · unfold execOp
    simp only [ho, hv, hoff, Instr.loadAt, Instr.sureAddr, loadVar, Sem.run_bind, Sem.run_pure, Result.andThen_ok, hT w, Bool.false_eq_true, if_false, run_load, hc]
  · simp only [hde, hdd] at hrep
    exact hrep
/-- What of it is data. -/
def S.weak : S → D
  | .d x => x
  | _ => .any
def Ob.weak : Ob → Ob
  | .rowS e size els => .row e size (els.map fun ss => ss.map S.weak)
  | o => o
def Obs.weak : Obs → Obs
  | [] => []
  | p :: l => (p.1, p.2.weak) :: Obs.weak l
theorem Obs.mem_weak : ∀ {σ : Obs} {p : Nat × Ob}, p ∈ Obs.weak σ → ∃ q ∈ σ, p = (q.1, q.2.weak)
  | [], _, h => by cases h
  | x :: l, p, h => by
    unfold Obs.weak at h
    cases h with
    | head => exact ⟨x, by simp, rfl⟩
    | tail _ h => obtain ⟨q, hq, he⟩ := Obs.mem_weak h; exact ⟨q, List.mem_cons_of_mem _ hq, he⟩
theorem Obs.weak_mem : ∀ {σ : Obs} {p : Nat × Ob}, p ∈ σ → (p.1, p.2.weak) ∈ Obs.weak σ
  | [], _, h => by cases h
  | x :: l, p, h => by
    unfold Obs.weak
    cases h with
    | head => exact .head _
    | tail _ h => exact .tail _ (Obs.weak_mem h)
theorem ObOk.weak {B : Nat} {F : Nat → Prop} {ρ : Nat → Value} {w : World} {id : Nat} {o : Ob} (h : ObOk B F ρ w id o) : ObOk B F ρ w id o.weak := by
  cases o with
  | rowS e size els =>
    obtain ⟨xs, h1, h2, h3, h4⟩ := h
    refine ⟨xs, by rw [List.length_map]; exact h1, fun k hk => by rw [List.getElem_map, List.length_map]; exact h2 k (by simpa using hk), fun k hk j hj => ?_, h4⟩
    have hk' : k < els.length := by simpa using hk
    have hj' : j < els[k].length := by simpa using hj
    simp only [List.getElem_map]
    refine ⟨(h3 k hk' j hj').1, ?_⟩
    have h5 := (h3 k hk' j hj').2
    cases hs : els[k][j] with
    | d x => rw [hs] at h5; exact repS_d h5
    | own i => exact .any _
    | ptr i off => exact .any _
    | clo f caps => exact .any _
  | row e size els => exact h
  | cells ss => exact h
  | cellsT ty0 ss => exact h
  | map M => exact h
  | bts l => exact h
  | val ss => exact h
  | iter M done => exact h
theorem ObsOk.weak {B : Nat} {F : Nat → Prop} {ρ : Nat → Value} {w : World} {σ : Obs} (h : ObsOk B F ρ w σ) : ObsOk B F ρ w (Obs.weak σ) := by
  refine ⟨fun p hp => ?_, fun p hp q hq => ?_, fun p hp q hq he => ?_⟩
  · obtain ⟨q, hq, rfl⟩ := Obs.mem_weak hp
    exact (h.ok q hq).weak
  · obtain ⟨p', hp', rfl⟩ := Obs.mem_weak hp
    obtain ⟨q', hq', rfl⟩ := Obs.mem_weak hq
    exact h.apart p' hp' q' hq'
  · obtain ⟨p', hp', rfl⟩ := Obs.mem_weak hp
    obtain ⟨q', hq', rfl⟩ := Obs.mem_weak hq
    rw [h.uniq p' hp' q' hq' he]
/-- What only reads data of a row of rows. -/
theorem AOp.weak {s : S} (h : AOp P B ops o e (Obs.weak σ) s) : AOp P B ops o e σ s := fun F ρ w a hF hr hσ => h F ρ w a hF hr hσ.weak
end
section
variable {cx : Cx} {ops : Array Oper} {o : Oper} {rest : List Oper} {e : Env} {σ : Obs} {Q : Post}
/-- Own objects, told anew. -/
theorem AWP.obs {c : Code} {σ' : Obs} (h : ∀ p ∈ σ', p ∈ σ) (k : AWP cx c e σ' Q) : AWP cx c e σ Q := fun a w ⟨F, ρ, hr⟩ => k a w ⟨F, ρ, hr.size, hr.defers, hr.lt, hr.base, hr.new, hr.below, hr.hB, hr.env, hr.obs.sub h, hr.up, fun p hp => hr.kown p (h p hp), hr.fixed⟩
theorem AWP.obsEq {c : Code} (σ' : Obs) (h : σ = σ') (k : AWP cx c e σ' Q) : AWP cx c e σ Q := h ▸ k
theorem AllIn.of {σ : Obs} : ∀ {l : Obs}, (∀ p ∈ l, p ∈ σ) → AllIn σ l
  | [], _ => trivial
  | x :: l, h => ⟨h x (by simp), AllIn.of fun p hp => h p (List.mem_cons_of_mem _ hp)⟩
end
end Go.Proofs.YtcfamaddnmnaeaaGreatDoor

namespace Go.Proofs.YtcfamaddnmnaeaaGreatDoor
open Go.RowKit
set_option linter.unusedVariables false

/-- One cell's worth. -/
def OneS (σ : Obs) (s : S) : Prop := (∃ x : D, s = .d x ∧ x.one = true ∧ x.parts = [x]) ∨ ∃ i ee size els, s = .own i ∧ (i, Ob.row ee size els) ∈ σ
theorem OneS.own {σ : Obs} {i ee size : Nat} {els : List (List D)} (h : (i, Ob.row ee size els) ∈ σ) : OneS σ (.own i) := .inr ⟨i, ee, size, els, rfl, h⟩
theorem OneS.cell {σ : Obs} {s : S} (h : OneS σ s) {B : Nat} {F : Nat → Prop} {ρ : Nat → Value} {w : World} (hσ : ObsOk B F ρ w σ) {u : Value} (hu : RepS F ρ w u s) : ∃ c, u.cells = #[c] ∧ c.oneCell' = true ∧ RepS F ρ w c s := by
  rcases h with ⟨x, rfl, h1, h2⟩ | ⟨i, ee, size, els, rfl, hm⟩
  · obtain ⟨h3, h4⟩ := parts_rep (repS_d hu) h1
    have hl := h3.1
    rw [h2] at hl
    have hs : u.cells.size = 1 := by simpa using hl
    obtain ⟨c, hc⟩ : ∃ c, u.cells = #[c] := by
      have : u.cells.toList.length = 1 := by simpa using hl
      obtain ⟨c, hc⟩ := List.length_eq_one_iff.1 this
      exact ⟨c, by rw [← Array.toList_inj]; exact hc⟩
    refine ⟨c, hc, h4 c (by rw [hc]; simp), .d ?_⟩
    have := h3.2 0 (by rw [hc]; simp) (by rw [h2]; simp)
    simp only [hc, h2] at this
    simpa using this
  · obtain ⟨xs, hown, _⟩ := hσ.ok _ hm
    dsimp only at hown
    have hv : u = ρ i := by cases hu; rfl
    refine ⟨ρ i, ?_, ?_, .own i⟩
    · rw [hv]; rcases hown.2 with ⟨h3, _⟩ | ⟨g', cap, cur, h3, _⟩ <;> rw [h3] <;> rfl
    · rcases hown.2 with ⟨h3, _⟩ | ⟨g', cap, cur, h3, _⟩ <;> rw [h3] <;> rfl
section
variable {cx : Cx} {ops : Array Oper} {o : Oper} {rest : List Oper} {e : Env} {σ : Obs} {Q : Post}
theorem EOp.storeRowS {t id off ee size : Nat} {x y : Operand} {s : S} {els : List (List S)} {ss : List S} (ht : o.dst = none) (ho : o.op = .store t x y) (hs : ∀ w, (sizeOf t).run cx.P w = .ok 1 w) (hx : e.ev x = .ptr id off) (hm : (id, Ob.rowS ee size els) ∈ σ)
    (hy : e.ev y = s) (h1 : OneS σ s) (k j : Nat) (hoff : off = k * size + j) (hd : els[k]? = some ss) (hj : j < size) :
    EOp cx ops o e σ (Obs.upd id (.rowS ee size (els.set k (ss.set j s))) σ) := by
  intro F ρ a w e0 hr ha
  have hop : ∀ y ∈ o.op.operands.toList, RepS F ρ w (a.eval y) (e.ev y) := fun y hy => ev_rep fun t ht => ha t (looks_op (by rw [← ht]; exact hy))
  have r1 := hop x (by rw [ho]; simp [Op.operands])
  have r2 := hop y (by rw [ho]; simp [Op.operands])
  rw [hx] at r1
  rw [hy] at r2
  obtain ⟨c, hc, hone, hcr⟩ := h1.cell hr.obs r2
  have hlt : k < els.length := (List.getElem?_eq_some_iff.1 hd).1
  have hde : els[k] = ss := (List.getElem?_eq_some_iff.1 hd).2
  obtain ⟨xs, hown, hlen, hrep, hnF⟩ := hr.obs.ok _ hm
  dsimp only at hown hnF
  have hown' : w.ownsRow cx.B ee size (ρ id) els.length (flat xs els.length size) := hown
  rcases hown'.2 with ⟨_, h0⟩ | ⟨g, cap, cur, hv, hB, hh, hn, hmx, hcs, htk⟩
  · omega
  have hblk : blk (ρ id) = some g := by rw [hv]; rfl
  have hxv := ptr_at r1 hblk
  have hle : k * size + size ≤ els.length * size := by rw [← Nat.succ_mul]; exact Nat.mul_le_mul_right _ hlt
  have hcap : els.length * size ≤ cap * size := Nat.mul_le_mul_right _ hn
  obtain ⟨w', h5, h6, h7⟩ := storeVar_run (P := cx.P) (off := off) (v := a.eval y) (size := 1) hs (by rw [hc]; rfl) (cur := cur.toList) (by simpa using hh) (by rw [Array.length_toList]; omega) (by rw [hc]; intro u hu; simp at hu; rw [hu]; exact hone)
  unfold Oper.wp execOp
  simp only [ho, Instr.storeAt, hxv, Instr.sureAddr, Sem.run_bind, Sem.run_pure, Result.andThen_ok, h5]
  refine ⟨by rw [ht]; rfl, fun e2 hr2 => ⟨F, ρ, ?_⟩⟩
  have keep : ∀ {u : Value} {s : S}, RepS F ρ w u s → RepS F ρ w' u s := fun h => h.turn hr.lt (fun g' hg' => by rw [← Option.some.inj hg']; exact hnF g hblk) h6 (fun b hb => hb)
  rw [hc] at h7
  refine hr2.writeOb hblk hm hB (hnF g hblk) h6 ⟨fun i p => if i = k ∧ j ≤ p ∧ p < j + [c].length then [c].getD (p - j) undef else xs i p, ?_, fun i hi => ?_, fun i hi p hp => ?_, hnF⟩
  · rw [List.length_set]
    have hst := flat_store xs els.length size k j [c] hlt (by simp; omega)
    refine ⟨flat_length _ _ _, .inr ⟨g, cap, _, hv, hB, h7, hn, hmx, ?_, ?_⟩⟩
    · simp only [List.size_toArray, List.length_append, List.length_take, List.length_drop, Array.length_toList, hcs, List.length_cons, List.length_nil]
      omega
    · refine Eq.trans ?_ hst
      rw [← htk]
      have hcl : cur.toList.length = cap * size := by rw [Array.length_toList]; exact hcs
      rw [hoff]
      apply List.ext_getElem?
      intro p
      by_cases hp : p < els.length * size
      · rw [List.getElem?_take, if_pos hp, get3, get3]
        simp only [List.length_take, hcl, List.getElem?_take, List.getElem?_drop, List.length_cons, List.length_nil]
        rw [Nat.min_eq_left (show k * size + j ≤ cap * size by omega), Nat.min_eq_left (show k * size + j ≤ min (els.length * size) (cap * size) by omega)]
        by_cases c1 : p < k * size + j
        · simp [c1, hp]
        · by_cases c2 : p < k * size + j + (0 + 1)
          · simp only [c1, c2, if_false, if_true]
          · simp only [c1, c2, if_false]
            rw [if_pos (by omega)]
      · rw [List.getElem?_eq_none (by rw [List.length_take]; omega), List.getElem?_eq_none (by
          simp only [List.length_append, List.length_take, List.length_drop, hcl, List.length_cons, List.length_nil]
          omega)]
  · rw [List.getElem_set]
    split
    · rw [List.length_set]
      have := hlen k hlt
      rw [hde] at this
      exact this
    · exact hlen i _
  · rw [List.length_set] at hi
    have hk2 := hlen k hlt
    rw [hde] at hk2
    simp only [List.getElem_set] at hp ⊢
    by_cases hik : k = i
    · subst hik
      simp only [if_true, List.length_set] at hp ⊢
      by_cases c1 : p = j
      · subst c1
        rw [if_pos ⟨trivial, Nat.le_refl _, by simp⟩]
        refine ⟨by simpa using hone, ?_⟩
        rw [List.getElem_set_self]
        simpa using keep hcr
      · rw [if_neg (by rintro ⟨_, h8, h9⟩; simp at h9; omega)]
        have h10 := hrep k hlt p (by rw [hde]; exact hp)
        simp only [hde] at h10
        rw [List.getElem_set_ne (fun h => c1 h.symm)]
        exact ⟨h10.1, keep h10.2⟩
    · simp only [hik, if_false] at hp ⊢
      rw [if_neg (by rintro ⟨h8, _⟩; exact hik h8.symm)]
      exact ⟨(hrep i hi p hp).1, keep (hrep i hi p hp).2⟩
/-- A row is a row of whatever. -/
theorem ObOk.toS {B : Nat} {F : Nat → Prop} {ρ : Nat → Value} {w : World} {id e size : Nat} {els : List (List D)} (h : ObOk B F ρ w id (.row e size els)) : ObOk B F ρ w id (.rowS e size (els.map fun ds => ds.map S.d)) := by
  obtain ⟨xs, h1, h2, h3, h4⟩ := h
  refine ⟨xs, by rw [List.length_map]; exact h1, fun k hk => by rw [List.getElem_map, List.length_map]; exact h2 k (by simpa using hk), fun k hk j hj => ?_, h4⟩
  have hk' : k < els.length := by simpa using hk
  have hj' : j < els[k].length := by simpa using hj
  simp only [List.getElem_map]
  exact ⟨(h3 k hk' j hj').1, .d (h3 k hk' j hj').2⟩
theorem R0.reOb {F : Nat → Prop} {ρ : Nat → Value} {a : Act} {w : World} (h : R0 cx F ρ e σ a w) {id : Nat} {o o' : Ob} (hm : (id, o) ∈ σ) (ho : ObOk cx.B F ρ w id o') : R0 cx F ρ e (Obs.upd id o' σ) a w := by
  refine ⟨h.size, h.defers, h.lt, h.base, h.new, h.below, h.hB, h.env, ⟨fun p hp => ?_, fun p hp q hq hne => ?_, fun p hp q hq he => ?_⟩, h.up, fun p hp => ?_, h.fixed⟩
  · rcases Obs.mem_upd hp with ⟨rfl, _⟩ | ⟨h1, _⟩
    · exact ho
    · exact h.obs.ok p h1
  · rcases Obs.mem_upd hp with ⟨rfl, _⟩ | ⟨h1, _⟩
    · rcases Obs.mem_upd hq with ⟨rfl, _⟩ | ⟨h2, _⟩
      · exact absurd rfl hne
      · exact h.obs.apart (id, o) hm q h2 hne
    · rcases Obs.mem_upd hq with ⟨rfl, _⟩ | ⟨h2, _⟩
      · exact h.obs.apart p h1 (id, o) hm hne
      · exact h.obs.apart p h1 q h2 hne
  · rcases Obs.mem_upd hp with ⟨rfl, _⟩ | ⟨h1, h3⟩
    · rcases Obs.mem_upd hq with ⟨rfl, _⟩ | ⟨h2, h4⟩
      · rfl
      · exact absurd he.symm h4
    · rcases Obs.mem_upd hq with ⟨rfl, _⟩ | ⟨h2, _⟩
      · exact absurd he h3
      · exact h.obs.uniq p h1 q h2 he
  · rcases Obs.mem_upd hp with ⟨rfl, _⟩ | ⟨h1, _⟩
    · exact h.kown (id, o) hm
    · exact h.kown p h1
theorem AWP.rowToS {c : Code} (id : Nat) {ee size : Nat} {els : List (List D)} (hm : (id, Ob.row ee size els) ∈ σ) (k : AWP cx c e (Obs.upd id (.rowS ee size (els.map fun ds => ds.map S.d)) σ) Q) : AWP cx c e σ Q :=
  fun a w ⟨F, ρ, hr⟩ => k a w ⟨F, ρ, hr.reOb hm (hr.obs.ok _ hm).toS⟩
end
/-! A family of own rows: the numbers b + k, b + k + 1, .. -/
def fam (e size : Nat) : Nat → List (List (List D)) → Obs
  | _, [] => []
  | b, x :: l => (b, .row e size x) :: fam e size (b + 1) l
end Go.Proofs.YtcfamaddnmnaeaaGreatDoor
