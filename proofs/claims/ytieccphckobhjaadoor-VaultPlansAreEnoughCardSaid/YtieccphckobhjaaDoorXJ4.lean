/- Walks and laws over abstract values, merged by tools/merge.py. No statement of the seat. -/
import Derived.MapKept
import Derived.Carry
import Derived.Lib.ConvBytes
import Derived.Lib.Strings
import Derived.Laws.Cover3
import Derived.Shelf.Spec.SlicesInsert
import Derived.Shelf.Spec.SlicesInsertGrow
import Derived.Test.YtieccphckobhjaaDoorXJ3

namespace Go.Proofs.YtieccphckobhjaaDoor
open Go.RowKit Go.MapKept
set_option linter.unusedVariables false

/-- m[key] = d: what the map holds then. -/
def MPut (M : List (Value × D)) (key : Value) (d : D) (M' : List (Value × D)) : Prop :=
  (∃ i d0, M[i]? = some (key, d0) ∧ (∀ (j : Nat) (p : Value × D), M[j]? = some p → p.1 = key → j = i) ∧ M' = M.set i (key, d)) ∨ ((∀ p ∈ M, p.1 ≠ key) ∧ M' = M ++ [(key, d)])
/-- m[key]; z: the zero value. -/
def MGet (M : List (Value × D)) (key : Value) (z d : D) : Prop := (∃ i, M[i]? = some (key, d) ∧ ∀ (j : Nat) (p : Value × D), M[j]? = some p → p.1 = key → j = i) ∨ ((∀ p ∈ M, p.1 ≠ key) ∧ d = z)

theorem entries_get {F : Nat → Prop} {w : World} {M : List (Value × D)} {es : Array MapEntry} (hl : es.size = M.length) (h : ∀ i (h : i < es.size) (h' : i < M.length), es[i].key = M[i].1 ∧ Rep F w es[i].val M[i].2) {j : Nat} {en : MapEntry} (hj : es.toList[j]? = some en) :
    ∃ p, M[j]? = some p ∧ en.key = p.1 ∧ Rep F w en.val p.2 := by
  rw [Array.getElem?_toList] at hj
  obtain ⟨h1, h2⟩ := Array.getElem?_eq_some_iff.1 hj
  refine ⟨M[j]'(by omega), List.getElem?_eq_getElem _, ?_, ?_⟩
  · rw [← h2]; exact (h j h1 (by omega)).1
  · rw [← h2]; exact (h j h1 (by omega)).2
theorem entries_keys {F : Nat → Prop} {w : World} {M : List (Value × D)} {es : Array MapEntry} {kd : TypeDesc} (hl : es.size = M.length) (h : ∀ i (h : i < es.size) (h' : i < M.length), es[i].key = M[i].1 ∧ Rep F w es[i].val M[i].2) (hg : ∀ p ∈ M, IsKey kd p.1) : ∀ x ∈ es.toList, IsKey kd x.key := fun x hx => by
  obtain ⟨j, hj⟩ := List.mem_iff_getElem?.1 hx
  obtain ⟨p, h1, h2, _⟩ := entries_get hl h hj
  rw [h2]; exact hg p (List.mem_of_getElem? h1)
theorem setObj_turn {w : World} {b : Nat} {o : Obj} : Turn w { w with heap := w.heap.setIfInBounds b o } (some b) :=
  ⟨rfl, rfl, rfl, by simp, fun k _ hne => by
    have : b ≠ k := fun h => hne (by rw [h])
    simp [this]⟩
section
variable {cx : Cx} {ops : Array Oper} {o : Oper} {rest : List Oper} {e : Env} {σ σ' : Obs} {Q : Post}
theorem AOps.eff (hg : o.guard = none) (ht : o.dst = none) (h : EOp cx ops o e σ σ') (k : AOps cx ops rest e σ' Q) : AOps cx ops (o :: rest) e σ Q := by
  intro a w ⟨F, ρ, hr⟩
  refine wpList_plain hg fun K hK => ?_
  refine wp_to ?_ (fun _ _ _ => False.elim) (h F ρ a w e hr (fun t _ => hr.env t))
  rintro a' w' ⟨rfl, h3⟩
  obtain ⟨F', ρ', h4⟩ := h3 e hr
  exact hK _ _ (k _ _ ⟨F', ρ', h4⟩)
theorem EOp.mapUpdate {t k et : TypeId} {id : Nat} {m x v : Operand} {key : Value} {d : D} {M M' : List (Value × D)} {kd : TypeDesc} (hdst : o.dst = none) (ho : o.op = .mapUpdate t m x v) (ht : cx.P.underlying t = some (.map k et)) (hk : cx.P.underlying k = some kd) (hm : e.ev m = .own id) (hmem : (id, Ob.map M) ∈ σ)
    (hx : e.ev x = .d (.v key)) (hv : e.ev v = .d d) (hg : IsKey kd key) (hgs : ∀ p ∈ M, IsKey kd p.1) (hp : MPut M key d M') : EOp cx ops o e σ (Obs.upd id (.map M') σ) := by
  intro F ρ a w e0 hr ha
  have hop : ∀ y ∈ o.op.operands.toList, RepS F ρ w (a.eval y) (e.ev y) := fun y hy => ev_rep fun t ht => ha t (looks_op (by rw [← ht]; exact hy))
  have r1 := hop m (by rw [ho]; simp [Op.operands])
  have r2 := hop x (by rw [ho]; simp [Op.operands])
  have r3 := hop v (by rw [ho]; simp [Op.operands])
  rw [hm] at r1
  rw [hx] at r2
  rw [hv] at r3
  obtain ⟨b, es, clock, hρ, hB, hF, hh, hl, hall⟩ := hr.obs.ok _ hmem
  dsimp only at hρ
  have hmv : a.eval m = .map (some b) := by rw [← hρ]; generalize a.eval m = u at r1; cases r1; rfl
  have hxv := repS_v r2
  have r3' := repS_d r3
  have hks := entries_keys hl hall hgs
  have hblk : blk (ρ id) = some b := by rw [hρ]; rfl
  unfold Oper.wp execOp
  simp only [ho, hmv, hxv]
  rcases MapKept.findNow_spec hg es.toList 0 hks with ⟨h1, h2⟩ | ⟨j, en, h1, h2, h3⟩
  · have hrun : (Instr.mapUpdate t (.map (some b)) key (a.eval v)).run cx.P w = .ok () { w with heap := w.heap.setIfInBounds b (.map (es.push { key := key, val := a.eval v, born := clock }) (clock + 1)) } := by
      simp [Instr.mapUpdate, run_underlying ht, MapKept.run_getObj_map hh, MapKept.run_checkKey hk hg, MapKept.run_findKey hk h1, MapKept.run_setObj_map _ hh, Result.andThen]
    rw [Sem.run_bind, hrun]
    refine ⟨by rw [hdst]; rfl, fun e2 hr2 => ⟨F, ρ, hr2.writeOb hblk hmem hB hF setObj_turn ?_⟩⟩
    have hM' : M' = M ++ [(key, d)] := by
      rcases hp with ⟨i, d0, hi, _, _⟩ | ⟨_, hM'⟩
      · exfalso
        have hil : i < M.length := (List.getElem?_eq_some_iff.1 hi).1
        have h4 := (hall i (by omega) hil).1
        have h5 : M[i] = (key, d0) := (List.getElem?_eq_some_iff.1 hi).2
        rw [h5] at h4
        exact h2 es[i] (by simp) h4
      · exact hM'
    have hkeep : ∀ {u : Value} {y : D}, Rep F w u y → Rep F { w with heap := w.heap.setIfInBounds b (.map (es.push { key := key, val := a.eval v, born := clock }) (clock + 1)) } u y := fun h => h.mono (fun _ h => h) fun c hc => by
      have : b ≠ c := fun h => hF (by rw [h]; exact hc)
      simp [this]
    subst hM'
    refine ⟨b, _, _, hρ, hB, hF, (MapKept.heap_set hh).1, by simp [hl], fun i hi hi' => ?_⟩
    by_cases hc : i < es.size
    · have hc' : i < M.length := by omega
      rw [Array.getElem_push_lt hc, List.getElem_append_left hc']
      exact ⟨(hall i hc hc').1, hkeep (hall i hc hc').2⟩
    · have : i = es.size := by simp at hi; omega
      subst this
      rw [Array.getElem_push_eq, List.getElem_append_right (by omega)]
      simp only [hl, Nat.sub_self, List.getElem_cons_zero]
      exact ⟨trivial, hkeep r3'⟩
  · have hjs : j < es.size := by simpa using (List.getElem?_eq_some_iff.1 h2).1
    have hej : es[j] = en := by have := (List.getElem?_eq_some_iff.1 h2).2; simpa using this
    have hrun : (Instr.mapUpdate t (.map (some b)) key (a.eval v)).run cx.P w = .ok () { w with heap := w.heap.setIfInBounds b (.map (es.modify j fun e => { e with key := key, val := a.eval v }) clock) } := by
      have h0 : ((es[j]?).map (·.key)).getD key = key := by rw [Array.getElem?_eq_getElem hjs, hej]; simp [h3]
      simp only [Nat.zero_add] at h1
      simp only [Instr.mapUpdate, run_underlying ht, Sem.run_bind, Result.andThen_ok, MapKept.run_getObj_map hh, MapKept.run_checkKey hk hg, MapKept.run_findKey hk h1, h0, MapKept.run_keyThatStays hg, MapKept.run_setObj_map _ hh]
    rw [Sem.run_bind, hrun]
    refine ⟨by rw [hdst]; rfl, fun e2 hr2 => ⟨F, ρ, hr2.writeOb hblk hmem hB hF setObj_turn ?_⟩⟩
    have hjl : j < M.length := by omega
    have hkj : M[j].1 = key := by rw [← (hall j hjs hjl).1, hej]; exact h3
    have hM' : M' = M.set j (key, d) := by
      rcases hp with ⟨i, d0, hi, hu, hM'⟩ | ⟨hno, _⟩
      · have := hu j M[j] (List.getElem?_eq_getElem hjl) hkj
        rw [this]; exact hM'
      · exact absurd hkj (hno _ (List.getElem_mem hjl))
    have hkeep : ∀ {u : Value} {y : D}, Rep F w u y → Rep F { w with heap := w.heap.setIfInBounds b (.map (es.modify j fun e => { e with key := key, val := a.eval v }) clock) } u y := fun h => h.mono (fun _ h => h) fun c hc => by
      have : b ≠ c := fun h => hF (by rw [h]; exact hc)
      simp [this]
    subst hM'
    refine ⟨b, _, _, hρ, hB, hF, (MapKept.heap_set hh).1, by simp [hl], fun i hi hi' => ?_⟩
    have hc : i < es.size := by simpa using hi
    have hc' : i < M.length := by omega
    rw [Array.getElem_modify, List.getElem_set]
    by_cases hij : j = i
    · rw [if_pos hij, if_pos hij]
      exact ⟨rfl, hkeep r3'⟩
    · rw [if_neg hij, if_neg hij]
      exact ⟨(hall i hc hc').1, hkeep (hall i hc hc').2⟩
/-- make(map[K]V) -/
theorem AOps.makeMap {t dst : Nat} (id : Nat) (hg : o.guard = none) (ht : o.dst = some dst) (hdn : Nat.blt dst cx.N = true) (ho : o.op = .makeMap t none) (hid : Obs.fresh id σ = true)
    (k : AOps cx ops rest ((e.kill id).put (some dst) (.own id)) ((id, .map []) :: Obs.kill id σ) Q) (hfx : cx.free id = true := by rfl) : AOps cx ops (o :: rest) e σ Q := by
  intro a w ⟨F, ρ, h⟩
  refine wpList_plain hg fun K hK => ?_
  unfold Oper.wp execOp
  simp only [ho, Option.map_none, Sem.run_bind, run_makeMap, Result.andThen_ok, Sem.run_pure]
  refine hK _ _ (k _ _ ⟨F, fun j => if j = id then .map (some w.heap.size) else ρ j, ?_⟩)
  have hE : Ext F w F (w.alloc (.map #[] 0)) := Ext.of_below h.lt ((Below.refl _ _).alloc (Nat.le_refl _) _)
  have h2 := h.turn (ρ' := fun j => if j = id then .map (some w.heap.size) else ρ j) (id := id) (ob := .map []) (row := none) (w' := w.alloc (.map #[] 0)) (F' := F) (fun j hj => by simp [hj])
    ⟨hE.below.os, hE.below.tape, hE.below.output, hE.below.size, fun k hk _ => hE.below.block k hk⟩ hfx (fun g hg => by simp at hg) (fun b hb => hb) (fun b hb => .inl hb) hE.lt
    ⟨w.heap.size, #[], 0, by simp, h.hB, fun hf => by have := h.lt _ hf; omega, (MapKept.heap_alloc w _).1, rfl, fun i hi => by simp at hi⟩
    (fun g hg => by simp [blk] at hg; exact .inr (by omega)) ((id, .map []) :: Obs.kill id σ) (fun p hp => by
      cases hp with
      | head => exact .inl rfl
      | tail _ hp => obtain ⟨q, hq, rfl⟩ := Obs.mem_kill hp; exact .inr ⟨q, hq, Obs.fresh_spec hid q hq, rfl⟩)
  have h3 := h2.put (o := ⟨some dst, .ready 0, 0, "", #[], none⟩) (v := .map (some w.heap.size)) (s := .own id) (Ext.refl h2.lt) (by
    have := RepS.own (F := F) (ρ := fun j => if j = id then Value.map (some w.heap.size) else ρ j) (w := w.alloc (.map #[] 0)) id
    simpa using this) (by simpa [DstOk, Nat.blt_eq] using hdn)
  rw [ht]
  exact h3
end
section
variable {P : Program} {B : Nat} {ops : Array Oper} {o : Oper} {e : Env} {σ : Obs}
theorem AOp.lenMap {x : Operand} {t k et : TypeId} {id : Nat} {M : List (Value × D)} (ho : o.op = .call { callee := .builtin .len, args := #[x], argTypes := #[t] }) (ht : P.underlying t = some (.map k et)) (hx : e.ev x = .own id) (hm : (id, Ob.map M) ∈ σ) :
    AOp P B ops o e σ (.d (.v (.int .i64 (M.length : Int)))) := .value fun F ρ w a hF hr hσ => by
  have h1 := hr x (by rw [ho]; simp [Op.operands, Call.operands])
  rw [hx] at h1
  obtain ⟨b, es, clock, hρ, hB, hFb, hh, hl, _⟩ := hσ.ok _ hm
  dsimp only at hρ
  have hv : a.eval x = .map (some b) := by rw [← hρ]; generalize a.eval x = u at h1; cases h1; rfl
  refine ⟨.int .i64 (M.length : Int), F, w, ?_, .d (.v _), Ext.refl hF⟩
  unfold execOp
  simp only [ho, resolve, invoke, builtin, Sem.run_bind, Sem.run_pure, Result.andThen_ok, List.map_toArray, List.map_cons, List.map_nil, hv]
  simp [Builtin.len_, run_underlying ht, MapKept.run_getObj_map hh, Result.andThen, hl, goInt]
theorem AOp.lookup {x ix : Operand} {t k et : TypeId} {id : Nat} {M : List (Value × D)} {key z : Value} {d : D} {kd : TypeDesc} (ho : o.op = .lookup t x ix false) (ht : P.underlying t = some (.map k et)) (hk : P.underlying k = some kd) (hz : (P.info? et).bind (·.zero) = some z) (hx : e.ev x = .own id) (hm : (id, Ob.map M) ∈ σ)
    (hi : e.ev ix = .d (.v key)) (hg : IsKey kd key) (hgs : ∀ p ∈ M, IsKey kd p.1) (hd : MGet M key (.v z) d) : AOp P B ops o e σ (.d d) := .value fun F ρ w a hF hr hσ => by
  have h1 := hr x (by rw [ho]; simp [Op.operands])
  have h2 := hr ix (by rw [ho]; simp [Op.operands])
  rw [hx] at h1
  rw [hi] at h2
  obtain ⟨b, es, clock, hρ, hB, hFb, hh, hl, hall⟩ := hσ.ok _ hm
  dsimp only at hρ
  have hv : a.eval x = .map (some b) := by rw [← hρ]; generalize a.eval x = u at h1; cases h1; rfl
  have hks := entries_keys hl hall hgs
  obtain ⟨ti, hti, hzz⟩ := Option.bind_eq_some_iff.1 hz
  have hprog : (program : Sem Program).run P w = .ok P w := rfl
  rcases MapKept.findNow_spec hg es.toList 0 hks with ⟨h3, h4⟩ | ⟨j, en, h3, h4, h5⟩
  · refine ⟨z, F, w, ?_, ?_, Ext.refl hF⟩
    · unfold execOp
      simp only [ho, hv, repS_v h2, Sem.run_bind]
      simp [Instr.lookup, run_underlying ht, MapKept.run_getObj_map hh, MapKept.run_checkKey hk hg, MapKept.run_findKey hk h3, zeroValue, typeInfo, hti, hzz, Result.andThen]
    · rcases hd with ⟨i, hi2, _⟩ | ⟨_, rfl⟩
      · exfalso
        have hil : i < M.length := (List.getElem?_eq_some_iff.1 hi2).1
        have h6 := (hall i (by omega) hil).1
        rw [(List.getElem?_eq_some_iff.1 hi2).2] at h6
        exact h4 es[i] (by simp) h6
      · exact .d (.v _)
  · have hjs : j < es.size := by simpa using (List.getElem?_eq_some_iff.1 h4).1
    have hej : es[j] = en := by have := (List.getElem?_eq_some_iff.1 h4).2; simpa using this
    have hjl : j < M.length := by omega
    refine ⟨en.val, F, w, ?_, ?_, Ext.refl hF⟩
    · unfold execOp
      simp only [ho, hv, repS_v h2, Sem.run_bind]
      simp only [Nat.zero_add] at h3
      simp [Instr.lookup, run_underlying ht, MapKept.run_getObj_map hh, MapKept.run_checkKey hk hg, MapKept.run_findKey hk h3, Result.andThen]
    · have hkj : M[j].1 = key := by rw [← (hall j hjs hjl).1, hej]; exact h5
      rcases hd with ⟨i, hi2, hu⟩ | ⟨hno, _⟩
      · have := hu j M[j] (List.getElem?_eq_getElem hjl) hkj
        subst this
        have h6 := (hall j hjs hjl).2
        rw [(List.getElem?_eq_some_iff.1 hi2).2, hej] at h6
        exact .d h6
      · exact absurd hkj (hno _ (List.getElem_mem hjl))
/-! Closures. -/
def CapsOk (e : Env) : List Operand → List Cap → Prop
  | [], [] => True
  | x :: xs, .p id off :: cs => e.ev x = .ptr id off ∧ CapsOk e xs cs
  | x :: xs, .d y :: cs => e.ev x = .d y ∧ CapsOk e xs cs
  | _, _ => False
theorem CapsOk.nil : CapsOk e [] [] := trivial
theorem CapsOk.p {x : Operand} {xs : List Operand} {id off : Nat} {cs : List Cap} (h : e.ev x = .ptr id off) (k : CapsOk e xs cs) : CapsOk e (x :: xs) (.p id off :: cs) := ⟨h, k⟩
theorem CapsOk.d {x : Operand} {xs : List Operand} {y : D} {cs : List Cap} (h : e.ev x = .d y) (k : CapsOk e xs cs) : CapsOk e (x :: xs) (.d y :: cs) := ⟨h, k⟩
theorem CapsOk.rep {F : Nat → Prop} {ρ : Nat → Value} {w : World} {a : Act} : ∀ {xs : List Operand} {cs : List Cap}, CapsOk e xs cs → (∀ x ∈ xs, RepS F ρ w (a.eval x) (e.ev x)) → RepCL F ρ w (xs.map a.eval) cs
  | [], [], _, _ => trivial
  | x :: xs, .p id off :: cs, h, ha => by
    refine ⟨?_, CapsOk.rep h.2 fun y hy => ha y (List.mem_cons_of_mem _ hy)⟩
    have h1 := ha x (by simp)
    rw [h.1] at h1
    generalize a.eval x = v at h1
    cases h1 with
    | ptr _ _ g hg => exact .p id off g hg
  | x :: xs, .d y :: cs, h, ha => by
    refine ⟨?_, CapsOk.rep h.2 fun y hy => ha y (List.mem_cons_of_mem _ hy)⟩
    have h1 := ha x (by simp)
    rw [h.1] at h1
    exact .d (repS_d h1)
  | [], _ :: _, h, _ => h.elim
  | _ :: _, [], h, _ => h.elim
theorem AOp.makeClo {f : FuncId} {cs : List Operand} {caps : List Cap} (ho : o.op = .makeFunc (.func f) #[] cs.toArray) (hc : CapsOk e cs caps) : AOp P B ops o e σ (.clo f caps) := .value fun F ρ w a hF hr hσ => by
  refine ⟨.func (.func f) #[] (cs.map a.eval).toArray, F, w, ?_, .clo f _ caps (hc.rep fun x hx => hr x (by rw [ho]; simp [Op.operands, hx])), Ext.refl hF⟩
  unfold execOp
  simp only [ho]
  simp [Instr.makeFunc]
theorem AOp.moveC {x : Operand} {f : FuncId} {caps : List Cap} (ho : o.op = .move x) (hx : e.ev x = .clo f caps) : AOp P B ops o e σ (.clo f caps) := hx ▸ .move ho
theorem AOp.assignC {x : Operand} {f : FuncId} {caps : List Cap} (ho : o.op = .assign x) (hx : e.ev x = .clo f caps) : AOp P B ops o e σ (.clo f caps) := hx ▸ .assign ho
end
def Cap.toS : Cap → S
  | .p id off => .ptr id off
  | .d y => .d y
theorem RepCL.toS {F : Nat → Prop} {ρ : Nat → Value} {w : World} : ∀ {cs : List Value} {caps : List Cap}, RepCL F ρ w cs caps → RepSL F ρ w cs (caps.map Cap.toS)
  | [], [], _ => ⟨rfl, fun i h => absurd h (by simp)⟩
  | x :: xs, c :: cs, h => by
    have h1 := RepCL.toS h.2
    refine ⟨by simpa using h1.1, fun i h2 h3 => ?_⟩
    cases i with
    | zero =>
      have h4 := h.1
      cases c with
      | p id off => cases h4 with | p _ _ g hg => exact .ptr id off g hg
      | d y => cases h4 with | d h4 => exact .d h4
    | succ i => exact h1.2 i (by simpa using h2) (by simpa using h3)
  | [], _ :: _, h => h.elim
  | _ :: _, [], h => h.elim
theorem RepSL.append {F : Nat → Prop} {ρ : Nat → Value} {w : World} {vs vs' : List Value} {ss ss' : List S} (h : RepSL F ρ w vs ss) (k : RepSL F ρ w vs' ss') : RepSL F ρ w (vs ++ vs') (ss ++ ss') := by
  refine ⟨by simp [h.1, k.1], fun i h1 h2 => ?_⟩
  by_cases hi : i < vs.length
  · rw [List.getElem_append_left hi, List.getElem_append_left (by rw [← h.1]; exact hi)]
    exact h.2 _ _ _
  · rw [List.getElem_append_right (by omega), List.getElem_append_right (by rw [← h.1]; omega)]
    simp only [← h.1]
    exact k.2 _ _ _
section
variable {cx : Cx} {ops : Array Oper} {o : Oper} {rest : List Oper} {e : Env} {σ : Obs} {Q : Post}
/-- A call of such a closure. -/
theorem AOps.callXC {f : FuncId} {x : Operand} {caps : List Cap} {xs : List Operand} {ts : Array TypeId} {ss : List S} {σc σ' : Obs} {chg : Nat → Bool} {d : D} (hg : o.guard = none) (hd : DstOk cx.N o)
    (ho : o.op = .call { callee := .value x, args := xs.toArray, argTypes := ts }) (hx : e.ev x = .clo f caps) (ha : ArgsS e xs ss) (h : XCall cx.P f (ss ++ caps.map Cap.toS) σc σ' chg d) (hin : AllIn σ σc)
    (h1 : Obs.allIds (fun i => !(chg i)) (Obs.dels σc σ) = true) (h2 : Obs.allIds (fun i => Obs.allIds (fun j => !(Nat.beq i j)) (Obs.dels σc σ)) σ' = true) (h3 : ∀ i, chg i = true → cx.fixp i = false)
    (k : AOps cx ops rest ((e.killP chg).put o.dst (.d d)) (Obs.join σ' (Obs.killP chg (Obs.dels σc σ))) Q) : AOps cx ops (o :: rest) e σ Q := by
  intro a w ⟨F, ρ, hr⟩
  have hc := ev_rep (e := e) (x := x) (a := a) (fun t _ => hr.env t)
  rw [hx] at hc
  generalize hv : a.eval x = v at hc
  cases hc with
  | clo _ cs _ hcs =>
    have h4 := h.2 F ρ cx.B w _ hr.lt hr.hB (hr.obs.sub hin.mem) ((ArgsS.rep hr.env ha).append hcs.toS)
    have h5 := h.1 (xs.map a.eval ++ cs).toArray w
    have hx : (execOp a.eval o).run cx.P w = .ok (.enter f (xs.map a.eval ++ cs).toArray) w := by
      unfold execOp
      simp only [ho, resolve, Deferred.ofValue, hv, invoke, Sem.run_bind, Sem.run_pure, Result.andThen_ok]
      simpa using h5
    refine wpList_plain hg fun K hK => ?_
    unfold Oper.wp
    rw [hx]
    refine h4.mono fun _ w' ⟨v, F', ρ', he, hv, hE⟩ => ?_
    subst he
    exact hK _ _ (k _ _ ⟨F', ρ', (hr.after hin.mem hE h1 h2 h3).put (Ext.refl hE.lt) (.d hv) hd⟩)
end
/-! Cells. -/
theorem mem_ob_eq {id : Nat} {o o' : Ob} {σ : Obs} (h : (id, o) ∈ σ) (hd : o = o') : (id, o') ∈ σ := hd ▸ h
theorem R0.recell {cx : Cx} {F : Nat → Prop} {ρ : Nat → Value} {e : Env} {σ : Obs} {a : Act} {w : World} (hr : R0 cx F ρ e σ a w) {id off : Nat} {ss : List S} {s s' : S} (hm : (id, Ob.cells ss) ∈ σ) (hs : ss[off]? = some s) (h : ∀ x, RepS F ρ w x s → RepS F ρ w x s') :
    R0 cx F ρ e (Obs.upd id (.cells (ss.set off s')) σ) a w := by
  obtain ⟨g, ty, cs, h2, h3, h4, h5, h6, h7⟩ := hr.obs.ok _ hm
  dsimp only at h2
  refine hr.writeOb (g := g) (by rw [h2]; rfl) hm h3 h4 ⟨rfl, rfl, rfl, Nat.le_refl _, fun _ _ _ => rfl⟩ ⟨g, ty, cs, h2, h3, h4, h5, by simp [h6], fun j hj hj' => ⟨(h7 j hj (by simpa using hj')).1, ?_⟩⟩
  rw [List.getElem_set]
  by_cases hj2 : off = j
  · rw [if_pos hj2]
    subst hj2
    have h8 := (h7 off hj (by simpa using hj')).2
    rw [(List.getElem?_eq_some_iff.1 hs).2] at h8
    exact h _ h8
  · rw [if_neg hj2]
    exact (h7 j hj (by simpa using hj')).2
/-- A nil slice in an own cell, taken for an own row of nothing. -/
theorem R0.adoptCell {cx : Cx} {F : Nat → Prop} {ρ : Nat → Value} {e : Env} {σ : Obs} {a : Act} {w : World} (h : R0 cx F ρ e σ a w) {id off : Nat} {ss : List S} (id2 ee size : Nat) (hm : (id, Ob.cells ss) ∈ σ) (hs : ss[off]? = some (.d (.v (.slice none 0 0)))) (hid : ∀ p ∈ σ, p.1 ≠ id2) (hfx : cx.free id2 = true) :
    ∃ ρ', R0 cx F ρ' (e.kill id2) (Obs.upd id (.cells ((ss.map (S.kill id2)).set off (.own id2))) ((id2, .row ee size []) :: Obs.kill id2 σ)) a w := by
  refine ⟨fun j => if j = id2 then .slice none 0 0 else ρ j, ?_⟩
  have h1 := h.turn (ρ' := fun j => if j = id2 then .slice none 0 0 else ρ j) (id := id2) (ob := .row ee size []) (row := none) (w' := w) (F' := F) (fun j hj => by simp [hj])
    ⟨rfl, rfl, rfl, Nat.le_refl _, fun _ _ _ => rfl⟩ hfx (fun g hg => by simp at hg) (fun b hb => hb) (fun b hb => .inl hb) h.lt
    ⟨fun _ _ => undef, by simp [World.ownsRow], fun i hi => by simp at hi, fun i hi => by simp at hi, fun g hg => by simp [blk] at hg⟩ (fun g hg => by simp [blk] at hg) ((id2, .row ee size []) :: Obs.kill id2 σ) (fun p hp => by
      cases hp with
      | head => exact .inl rfl
      | tail _ hp => obtain ⟨q, hq, rfl⟩ := Obs.mem_kill hp; exact .inr ⟨q, hq, hid q hq, rfl⟩)
  have hmk : ∀ {σ : Obs}, (id, Ob.cells ss) ∈ σ → (id, Ob.cells (ss.map (S.kill id2))) ∈ Obs.kill id2 σ := by
    intro σ hh
    induction σ with
    | nil => cases hh
    | cons p l ih =>
      cases hh with
      | head => exact .head _
      | tail _ hh => exact .tail _ (ih hh)
  refine h1.recell (s := .d (.v (.slice none 0 0))) (.tail _ (hmk hm)) (by rw [List.getElem?_map, hs]; rfl) fun x hx => ?_
  rw [repS_v hx]
  have := RepS.own (F := F) (ρ := fun j => if j = id2 then Value.slice none 0 0 else ρ j) (w := w) id2
  simpa using this
theorem AOps.adoptCell {cx : Cx} {ops : Array Oper} {rest : List Oper} {e : Env} {σ : Obs} {Q : Post} (id2 ee size id off : Nat) {ss : List S} (hm : (id, Ob.cells ss) ∈ σ) (hs : ss[off]? = some (.d (.v (.slice none 0 0)))) (hid : Obs.fresh id2 σ = true)
    (k : AOps cx ops rest (e.kill id2) (Obs.upd id (.cells ((ss.map (S.kill id2)).set off (.own id2))) ((id2, .row ee size []) :: Obs.kill id2 σ)) Q) (hfx : cx.free id2 = true := by rfl) : AOps cx ops rest e σ Q := fun a w ⟨_, _, hr⟩ => by
  obtain ⟨ρ', h⟩ := hr.adoptCell id2 ee size hm hs (Obs.fresh_spec hid) hfx
  exact k a w ⟨_, ρ', h⟩
/-- An own block of cells that is written no more: it is data now. -/
theorem R0.freezeCells {cx : Cx} {F : Nat → Prop} {ρ : Nat → Value} {e : Env} {σ : Obs} {a : Act} {w : World} (h : R0 cx F ρ e σ a w) {t id : Nat} {ds : List D} (ht : e t = .ptr id 0) (hm : (id, Ob.cells (ds.map S.d)) ∈ σ) :
    ∃ F', R0 cx F' ρ (e.put (some t) (.d (.fp ds))) (Obs.del id σ) a w := by
  have hF2 : ∀ b, (F b ∨ blk (ρ id) = some b) → b < w.heap.size := fun b hb => by
    rcases hb with hb | hb
    · exact h.lt b hb
    · exact ((h.obs.ok _ hm).blk_lt hb).2
  have keep : ∀ {x : Value} {s : S}, RepS F ρ w x s → RepS (fun b => F b ∨ blk (ρ id) = some b) ρ w x s := fun hx =>
    RepS.turn (row := none) hx h.lt (fun g hg => by simp at hg) ⟨rfl, rfl, rfl, Nat.le_refl _, fun _ _ _ => rfl⟩ (fun b hb => .inl hb)
  refine ⟨fun b => F b ∨ blk (ρ id) = some b, h.size, h.defers, hF2, fun b hb => .inl (h.base b hb), fun b hb => ?_, h.below, h.hB, fun u => ?_, ?_, h.up, fun p hp => h.kown p (Obs.mem_del hp).1, h.fixed⟩
  · rcases hb with hb | hb
    · exact h.new b hb
    · exact .inr (h.kown _ hm b hb)
  · by_cases hu : u = t
    · subst hu
      rw [Env.put_same]
      have h1 := h.env u
      rw [ht] at h1
      obtain ⟨g, ty, cs, h2, h3, h4, h5, h6, h7⟩ := h.obs.ok _ hm
      dsimp only at h2
      have hv := ptr_at h1 (g := g) (by rw [h2]; rfl)
      rw [hv]
      refine .d (.fp ⟨g, 0, none⟩ ds (fun j => cs.getD j undef) (.inr (by rw [h2]; rfl)) (fun j hj => ?_) (fun j hj => ?_) (fun j hj => ?_))
      · have hjc : j < cs.length := by simp at h6; omega
        rw [addr_add, cell_of_row w g (0 + j) cs.toArray ty (0, 0) h5]
        simp [hjc]
      · have hjc : j < cs.length := by simp at h6; omega
        have := (h7 j hjc (by simpa using hj)).1
        simpa [hjc] using this
      · have hjc : j < cs.length := by simp at h6; omega
        have h8 := (h7 j hjc (by simpa using hj)).2
        rw [List.getElem_map] at h8
        have h9 := repS_d (keep h8)
        simpa [hjc] using h9
    · rw [Env.put_other _ _ _ _ hu]
      exact keep (h.env u)
  · refine ⟨fun p hp => ?_, fun p hp q hq => h.obs.apart p (Obs.mem_del hp).1 q (Obs.mem_del hq).1, fun p hp q hq => h.obs.uniq p (Obs.mem_del hp).1 q (Obs.mem_del hq).1⟩
    obtain ⟨h1, h2⟩ := Obs.mem_del hp
    exact (h.obs.ok p h1).more h.lt (fun b hb => .inl hb) fun g hg hf => by
      rcases hf with hf | hf
      · exact (h.obs.ok p h1).nF hg hf
      · exact h.obs.apart p h1 _ hm h2 g hg hf
theorem AWP.freezeCells {cx : Cx} {c : Code} {e : Env} {σ : Obs} {Q : Post} (t : Nat) {id : Nat} {ds : List D} (ht : e t = .ptr id 0) (hm : (id, Ob.cells (ds.map S.d)) ∈ σ) (k : AWP cx c (e.put (some t) (.d (.fp ds))) (Obs.del id σ) Q) : AWP cx c e σ Q :=
  fun a w ⟨_, ρ, hr⟩ => by
    obtain ⟨F', h⟩ := hr.freezeCells ht hm
    exact k a w ⟨F', ρ, h⟩
theorem AOps.freezeCells {cx : Cx} {ops : Array Oper} {rest : List Oper} {e : Env} {σ : Obs} {Q : Post} (t : Nat) {id : Nat} {ds : List D} (ht : e t = .ptr id 0) (hm : (id, Ob.cells (ds.map S.d)) ∈ σ) (k : AOps cx ops rest (e.put (some t) (.d (.fp ds))) (Obs.del id σ) Q) : AOps cx ops rest e σ Q :=
  fun a w ⟨_, ρ, hr⟩ => by
    obtain ⟨F', h⟩ := hr.freezeCells ht hm
    exact k a w ⟨F', ρ, h⟩
end Go.Proofs.YtieccphckobhjaaDoor


namespace Go.Proofs.YtieccphckobhjaaDoor
open Go.RowKit
set_option linter.unusedVariables false

theorem S.kill_kill (id : Nat) (s : S) : (s.kill id).kill id = s.kill id := by
  cases s with
  | d x => rfl
  | own i => cases h : Nat.beq i id <;> simp only [S.kill, h]
  | ptr i off => cases h : Nat.beq i id <;> simp only [S.kill, h]
  | clo f caps => cases h : Cap.anyP (fun i => Nat.beq i id) caps <;> simp only [S.kill, h]
theorem R0.killEnv {cx : Cx} {F : Nat → Prop} {ρ : Nat → Value} {e : Env} {σ : Obs} {a : Act} {w : World} (h : R0 cx F ρ e σ a w) (id : Nat) : R0 cx F ρ (e.kill id) σ a w :=
  ⟨h.size, h.defers, h.lt, h.base, h.new, h.below, h.hB, fun t => (h.env t).kill id (fun _ _ => rfl), h.obs, h.up, h.kown, h.fixed⟩

/-- The operation that makes the block. -/
def QF (dst id : Nat) (s0 : S) (ob : Ob) (e0 : Env) (σ : Obs) : Post := fun ex e' σ' => match ex with
  | .normal => e' = (e0.kill id).put (some dst) s0 ∧ σ' = (id, ob) :: Obs.kill id σ
  | _ => False
/-- What a region makes: the slot, the object, how the slot reads, what the object is. -/
structure Fr where
  dst : Nat
  id : Nat
  s0 : S
  ob : Ob
def frObs (Φ : List Fr) : Obs := Φ.map fun f => (f.id, f.ob)
structure FrOk (cx : Cx) (Φ : List Fr) (σ : Obs) : Prop where
  uid : ∀ f ∈ Φ, ∀ g ∈ Φ, f.id = g.id → f = g
  udst : ∀ f ∈ Φ, ∀ g ∈ Φ, f.dst = g.dst → f = g
  own : ∀ f ∈ Φ, f.s0.kill f.id = .d .any ∧ f.s0 ≠ .d .any
  other : ∀ f ∈ Φ, ∀ g ∈ Φ, g.id ≠ f.id → g.s0.kill f.id = g.s0 ∧ g.ob.kill f.id = g.ob
  fresh : ∀ f ∈ Φ, Obs.fresh f.id σ = true
  kill : ∀ f ∈ Φ, Obs.kill f.id σ = σ
  free : ∀ f ∈ Φ, cx.free f.id = true
theorem FrOk.one {cx : Cx} {σ : Obs} {f : Fr} (h1 : f.s0.kill f.id = .d .any) (h2 : f.s0 ≠ .d .any) (h3 : Obs.fresh f.id σ = true) (h4 : Obs.kill f.id σ = σ) (h5 : cx.free f.id = true) : FrOk cx [f] σ where
  uid := fun a ha b hb _ => by rw [List.mem_singleton] at ha hb; rw [ha, hb]
  udst := fun a ha b hb _ => by rw [List.mem_singleton] at ha hb; rw [ha, hb]
  own := fun a ha => by rw [List.mem_singleton] at ha; subst ha; exact ⟨h1, h2⟩
  other := fun a ha b hb hne => by rw [List.mem_singleton] at ha hb; subst ha; subst hb; exact absurd rfl hne
  fresh := fun a ha => by rw [List.mem_singleton] at ha; subst ha; exact h3
  kill := fun a ha => by rw [List.mem_singleton] at ha; subst ha; exact h4
  free := fun a ha => by rw [List.mem_singleton] at ha; subst ha; exact h5
def FreshOp (cx : Cx) (ops : Array Oper) (τ : Obs) (f : Fr) (o : Oper) (e : Env) : Prop :=
  o.dst = some f.dst ∧ ∀ (e0 : Env) (σ : Obs), (∀ p ∈ τ, p ∈ σ) → (∀ t, t ∈ o.looksAt ops → e0 t = e t) → Obs.fresh f.id σ = true → AOps cx ops [o] e0 σ (QF f.dst f.id f.s0 f.ob e0 σ)
theorem FreshOp.same {cx : Cx} {ops : Array Oper} {τ : Obs} {f : Fr} {o : Oper} {e e' : Env} (h : FreshOp cx ops τ f o e) (he : ∀ t, t ∈ o.looksAt ops → e' t = e t) : FreshOp cx ops τ f o e' :=
  ⟨h.1, fun e0 σ hτ h0 hf => h.2 e0 σ hτ (fun t ht => (h0 t ht).trans (he t ht)) hf⟩
def notDst (Φ : List Fr) (o : Oper) : Prop := ∀ f ∈ Φ, o.dst ≠ some f.dst
def XStep (cx : Cx) (ops : Array Oper) (σ : Obs) (Φ : List Fr) (o : Oper) (e : Env) (s : S) : Prop :=
  (GW ops o e true ∧ ((∃ f ∈ Φ, FreshOp cx ops σ f o e ∧ s = f.s0) ∨ (AOp cx.P cx.B ops o e σ s ∧ notDst Φ o ∧ ∀ f ∈ Φ, s.kill f.id = s ∨ ∃ t, t ∈ o.looksAt ops ∧ (e t).kill f.id ≠ e t))) ∨ (GW ops o e false ∧ s = .d (.v undef) ∧ notDst Φ o)
theorem XStep.same {cx : Cx} {ops : Array Oper} {σ : Obs} {Φ : List Fr} {o : Oper} {e e' : Env} {s : S} (h : XStep cx ops σ Φ o e s) (he : ∀ t, t ∈ o.looksAt ops → e' t = e t) : XStep cx ops σ Φ o e' s := by
  rcases h with ⟨h1, h2⟩ | ⟨h1, h2⟩
  · exact .inl ⟨h1.same he, h2.imp (fun ⟨f, hf, h, h'⟩ => ⟨f, hf, h.same he, h'⟩) fun h => ⟨h.1.same he, h.2.1, fun f hf => (h.2.2 f hf).imp (fun h => h) fun ⟨t, ht, hn⟩ => ⟨t, ht, by rw [he t ht]; exact hn⟩⟩⟩
  · exact .inr ⟨h1.same he, h2⟩
def XRun (cx : Cx) (ops : Array Oper) (σ : Obs) (Φ : List Fr) : List Oper → Env → (Env → Prop) → Prop
  | [], e, Qe => (∀ f ∈ Φ, e f.dst = f.s0) ∧ Qe e
  | o :: l, e, Qe => DstOk cx.N o ∧ ∃ s, XStep cx ops σ Φ o e s ∧ XRun cx ops σ Φ l (e.put o.dst s) Qe
def anyX (cx : Cx) (ops : Array Oper) (σ : Obs) (Φ : List Fr) (Qe : Env → Prop) : Nat → Array Bool → Env → Prop
  | 0, listed, e => Region.ready .any ops listed = [] ∧ Qe e
  | fuel + 1, listed, e => (Region.ready .any ops listed = [] → Qe e) ∧
      ∀ i ∈ Region.ready .any ops listed, ∀ o, ops[i]? = some o → ∃ s, XStep cx ops σ Φ o e s ∧ anyX cx ops σ Φ Qe fuel (listed.setIfInBounds i true) (e.put o.dst s)
theorem anyX_first {cx : Cx} {ops : Array Oper} {σ : Obs} {Φ : List Fr} {Qe : Env → Prop} {i : Nat} {oi : Oper} {s : S} (hi : ops[i]? = some oi) :
    ∀ (fuel : Nat) (listed : Array Bool) (e : Env),
      (∀ j oj, ops[j]? = some oj → j ≠ i → listed.getD j true = false → (∀ e ∈ oj.after, Region.binds .any e = true → e.on ≠ i) → oi.apart ops oj = true) →
      i ∈ Region.ready .any ops listed → XStep cx ops σ Φ oi e s → anyX cx ops σ Φ Qe fuel (listed.setIfInBounds i true) (e.put oi.dst s) → anyX cx ops σ Φ Qe (fuel + 1) listed e := by
  intro fuel
  induction fuel with
  | zero =>
    intro listed e _ hr hy H
    refine ⟨fun h => (by rw [h] at hr; cases hr), fun j hj o ho => ?_⟩
    by_cases hji : j = i
    · subst hji
      rw [hi] at ho; cases ho
      exact ⟨s, hy, H⟩
    · have := ready_mono hj hji
      rw [H.1] at this
      cases this
  | succ fuel ih =>
    intro listed e hfree hr hy H
    refine ⟨fun h => (by rw [h] at hr; cases hr), fun j hj oj hoj => ?_⟩
    by_cases hji : j = i
    · subst hji
      rw [hi] at hoj; cases hoj
      exact ⟨s, hy, H⟩
    · obtain ⟨sj, h1, h2⟩ := H.2 j (ready_mono hj hji) oj hoj
      obtain ⟨hjun, oj', hoj', hall⟩ := mem_ready.1 hj
      rw [hoj] at hoj'; cases hoj'
      have hnot : ∀ e ∈ oj.after, Region.binds .any e = true → e.on ≠ i := fun e he hb heq => by
        have h1 := hall e he hb
        have h0 := (mem_ready.1 hr).1
        rw [heq] at h1
        rcases Nat.lt_or_ge i listed.size with h' | h'
        · simp [h'] at h0 h1; rw [h0] at h1; cases h1
        · simp [Array.getElem?_eq_none h'] at h1
      obtain ⟨a1, a2, a3⟩ := Oper.apart_spec (hfree j oj hoj hji hjun hnot)
      refine ⟨sj, h1.same (fun t ht => (put_looks a1 t ht).symm), ?_⟩
      refine ih (listed.setIfInBounds j true) (e.put oj.dst sj) (fun k ok hk hki hun hno => ?_) (ready_mono hr (Ne.symm hji)) (hy.same (put_looks a3)) ?_
      · refine hfree k ok hk hki ?_ hno
        by_cases hjk : j = k
        · subst hjk; exact hjun
        · rw [getD_set_ne true hjk] at hun; exact hun
      · rw [Array.setIfInBounds_comm _ _ hji, ← Env.put_comm e oi.dst oj.dst s sj a2]
        exact h2
theorem anyX_lex {cx : Cx} {ops : Array Oper} {σ : Obs} {Φ : List Fr} {Qe : Env → Prop} : ∀ (l : List Oper) (k : Nat) (listed : Array Bool) (e : Env), (∀ j, l[j]? = ops[k + j]?) →
    Region.lexFrom .any ops l.length k listed = true → XRun cx ops σ Φ l e Qe → anyX cx ops σ Φ (fun e => (∀ f ∈ Φ, e f.dst = f.s0) ∧ Qe e) l.length listed e
  | [], _, _, _, _, hB, h => ⟨by simpa [Region.lexFrom] using hB, h⟩
  | o :: l, k, listed, e, hl, hB, h => by
    have h0 : ops[k]? = some o := by simpa using (hl 0).symm
    simp only [List.length_cons, Region.lexFrom, Bool.and_eq_true] at hB
    obtain ⟨⟨hr, hf⟩, hB'⟩ := hB
    have hl' : ∀ j, l[j]? = ops[k + 1 + j]? := fun j => by have := hl (j + 1); simpa [Nat.add_assoc, Nat.add_comm 1 j] using this
    obtain ⟨_, s, hs, hK⟩ := h
    exact anyX_first h0 l.length listed e (Region.free_spec h0 hf) (by simpa using hr) hs (anyX_lex l (k + 1) _ _ hl' hB' hK)
theorem XRun.dsts {cx : Cx} {ops : Array Oper} {σ : Obs} {Φ : List Fr} {Qe : Env → Prop} : ∀ (l : List Oper) (e : Env), XRun cx ops σ Φ l e Qe → ∀ o ∈ l, DstOk cx.N o
  | [], _, _, o, ho => by cases ho
  | x :: l, e, h, o, ho => by
    obtain ⟨h1, s, _, h2⟩ := h
    cases ho with
    | head => exact h1
    | tail _ ho => exact XRun.dsts l _ h2 o ho
def RelX (cx : Cx) (ops : Array Oper) (σ : Obs) (Φ : List Fr) (listed : Array Bool) (e : Env) (a : Act) (w : World) : Prop :=
  ∃ Δ : List Fr, (∀ g ∈ Δ, g ∈ Φ) ∧ (∀ g ∈ Δ, ∃ i o, ops[i]? = some o ∧ listed.getD i false = true ∧ o.dst = some g.dst) ∧ (∀ g ∈ Δ, e g.dst = g.s0) ∧ (∀ f ∈ Φ, ¬ f ∈ Δ → ∀ t, (e t).kill f.id = e t) ∧ R cx e (frObs Δ ++ σ) a w
theorem R.sub {cx : Cx} {e : Env} {σ σ' : Obs} {a : Act} {w : World} (h : R cx e σ a w) (hs : ∀ p ∈ σ', p ∈ σ) : R cx e σ' a w := by
  obtain ⟨F, ρ, h⟩ := h
  exact ⟨F, ρ, h.size, h.defers, h.lt, h.base, h.new, h.below, h.hB, h.env, h.obs.sub hs, h.up, fun q hq => h.kown q (hs q hq), h.fixed⟩
theorem Obs.kill_append (id : Nat) : ∀ (a b : Obs), Obs.kill id (a ++ b) = Obs.kill id a ++ Obs.kill id b
  | [], _ => rfl
  | p :: a, b => by show (p.1, p.2.kill id) :: Obs.kill id (a ++ b) = _; rw [Obs.kill_append id a b]; rfl
theorem kill_frObs {id : Nat} : ∀ {Δ : List Fr}, (∀ g ∈ Δ, g.ob.kill id = g.ob) → Obs.kill id (frObs Δ) = frObs Δ
  | [], _ => rfl
  | g :: Δ, h => by
    show (g.id, g.ob.kill id) :: Obs.kill id (frObs Δ) = _
    rw [h g List.mem_cons_self, kill_frObs fun g hg => h g (List.mem_cons_of_mem _ hg)]
    rfl
theorem fresh_append {id : Nat} {σ : Obs} : ∀ {a : Obs}, (∀ p ∈ a, p.1 ≠ id) → Obs.fresh id σ = true → Obs.fresh id (a ++ σ) = true
  | [], _, h => h
  | p :: a, h1, h => by
    show (!(Nat.beq p.1 id) && Obs.fresh id (a ++ σ)) = true
    rw [fresh_append (fun q hq => h1 q (List.mem_cons_of_mem _ hq)) h, Bool.and_true]
    have := h1 p List.mem_cons_self
    cases hb : Nat.beq p.1 id with
    | true => exact absurd (beq_true hb) this
    | false => rfl
theorem wpAny_of_X {cx : Cx} {ops : Array Oper} {σ : Obs} {Φ : List Fr} {Q : Post} (hd : ∀ o ∈ ops.toList, DstOk cx.N o) (hone : ∀ f ∈ Φ, ∀ (i j : Nat) (o o' : Oper), ops[i]? = some o → ops[j]? = some o' → o.dst = some f.dst → o'.dst = some f.dst → i = j) (ok : FrOk cx Φ σ) :
    ∀ (fuel : Nat) (listed : Array Bool) (e : Env) (a : Act) (w : World), RelX cx ops σ Φ listed e a w →
    anyX cx ops σ Φ (fun e => (∀ f ∈ Φ, e f.dst = f.s0) ∧ Q .normal e (frObs Φ ++ σ)) fuel listed e → wpAny cx.P .any ops (lift cx Q) fuel listed a w := by
  have fin : ∀ (listed : Array Bool) (e : Env) (a : Act) (w : World), RelX cx ops σ Φ listed e a w → ((∀ f ∈ Φ, e f.dst = f.s0) ∧ Q .normal e (frObs Φ ++ σ)) → lift cx Q .normal a w := by
    rintro listed e a w ⟨Δ, h1, _, h2, h3, h4⟩ ⟨h5, h6⟩
    have hall : ∀ f ∈ Φ, f ∈ Δ := fun f hf => Classical.byContradiction fun hn => by
      have h7 := h3 f hf hn f.dst
      rw [h5 f hf, (ok.own f hf).1] at h7
      exact (ok.own f hf).2 h7.symm
    refine ⟨e, _, h6, h4.sub fun p hp => ?_⟩
    rcases List.mem_append.1 hp with hp | hp
    · obtain ⟨f, hf, rfl⟩ := List.mem_map.1 hp
      exact List.mem_append.2 (.inl (List.mem_map.2 ⟨f, hall f hf, rfl⟩))
    · exact List.mem_append.2 (.inr hp)
  have pure : ∀ {e : Env} {o : Oper} {s : S} {Δ : List Fr}, (∀ g ∈ Δ, g ∈ Φ) → (∀ g ∈ Δ, e g.dst = g.s0) → (∀ f ∈ Φ, ¬ f ∈ Δ → ∀ t, (e t).kill f.id = e t) → notDst Φ o → (∀ f ∈ Φ, ¬ f ∈ Δ → s.kill f.id = s) →
      (∀ g ∈ Δ, (e.put o.dst s) g.dst = g.s0) ∧ (∀ f ∈ Φ, ¬ f ∈ Δ → ∀ t, ((e.put o.dst s) t).kill f.id = (e.put o.dst s) t) := by
    intro e o s Δ h1 h2 h3 hn hs
    cases ho : o.dst with
    | none => exact ⟨h2, h3⟩
    | some u =>
      refine ⟨fun g hg => ?_, fun f hf hfn t => ?_⟩
      · rw [Env.put_other _ _ _ _ (fun he => hn g (h1 g hg) (by rw [ho, he]))]; exact h2 g hg
      · by_cases hu : t = u
        · subst hu; rw [Env.put_same]; exact hs f hf hfn
        · rw [Env.put_other _ _ _ _ hu]; exact h3 f hf hfn t
  intro fuel
  induction fuel with
  | zero => exact fun listed e a w hr h => ⟨h.1, fin listed e a w hr h.2⟩
  | succ fuel ih =>
    intro listed e a w hr h
    refine ⟨fun h0 => fin listed e a w hr (h.1 h0), fun i hi => ?_⟩
    obtain ⟨hui, o, ho, _⟩ := mem_ready.1 hi
    obtain ⟨s, hs, hkk⟩ := h.2 i hi o ho
    have hdo : DstOk cx.N o := hd o (Array.mem_toList_iff.2 (Array.mem_of_getElem? ho))
    have hil : i < listed.size := Nat.lt_of_not_le fun hle => by simp [Array.getD_eq_getD_getElem?, Array.getElem?_eq_none hle] at hui
    obtain ⟨Δ, h1, hL, h2, h3, hR⟩ := hr
    have hL' : ∀ g ∈ Δ, ∃ j o, ops[j]? = some o ∧ (listed.setIfInBounds i true).getD j false = true ∧ o.dst = some g.dst := fun g hg => by
      obtain ⟨j, o', q1, q2, q3⟩ := hL g hg
      exact ⟨j, o', q1, getD_set_true q2, q3⟩
    have hR' := hR
    obtain ⟨F, ρ, hr⟩ := hR'
    unfold wpOp
    simp only [ho]
    rcases hs with ⟨hg, ⟨f, hf, ⟨hdst, hop⟩, rfl⟩ | ⟨hop, hne, hsk⟩⟩ | ⟨hg, rfl, hne⟩
    · rw [if_pos (hg.wanted (fun t _ => hr.env t))]
      have hfn : ¬ f ∈ Δ := fun hfd => by
        obtain ⟨j, o', q1, q2, q3⟩ := hL f hfd
        have := hone f hf i j o o' ho q1 hdst q3
        subst this
        rw [getD_tf hil false true, hui] at q2
        simp at q2
      have hgi : ∀ g ∈ Δ, g.id ≠ f.id := fun g hg he => hfn (by rw [← ok.uid g (h1 g hg) f hf he]; exact hg)
      have hek : e.kill f.id = e := funext fun t => h3 f hf hfn t
      have hok : Obs.kill f.id (frObs Δ ++ σ) = frObs Δ ++ σ := by
        rw [Obs.kill_append, ok.kill f hf, kill_frObs fun g hg => (ok.other f hf g (h1 g hg) (hgi g hg)).2]
      have hfr : Obs.fresh f.id (frObs Δ ++ σ) = true := fresh_append (fun p hp => by obtain ⟨g, hg, rfl⟩ := List.mem_map.1 hp; exact hgi g hg) (ok.fresh f hf)
      have h4 := hop e (frObs Δ ++ σ) (fun p hp => List.mem_append.2 (.inr hp)) (fun _ _ => rfl) hfr a w hR
      unfold wpList at h4
      have hw : Region.wanted o (yielded ops a.tmps) = true := hg.wanted (fun t _ => hr.env t)
      rw [if_pos hw] at h4
      rw [hdst] at hkk
      refine h4.imp (wp_to2 ?_ ?_) fun h => ⟨h.1, ?_⟩
      · rintro a' w' ⟨e', σ', ⟨rfl, rfl⟩, hr'⟩
        rw [hok, hek] at hr'
        refine ih _ _ _ _ ⟨f :: Δ, fun g hg => ?_, fun g hg => ?_, fun g hg => ?_, fun k hk hkn t => ?_, hr'⟩ hkk
        · rcases List.mem_cons.1 hg with rfl | hg
          · exact hf
          · exact h1 g hg
        · rcases List.mem_cons.1 hg with rfl | hg
          · exact ⟨i, o, ho, by simp [Array.getD_eq_getD_getElem?, hil], hdst⟩
          · exact hL' g hg
        · rcases List.mem_cons.1 hg with rfl | hg
          · rw [Env.put_same]
          · rw [Env.put_other _ _ _ _ (fun he => hgi g hg (by rw [ok.udst g (h1 g hg) f hf he]))]
            exact h2 g hg
        · have hkf : f.id ≠ k.id := fun he => hkn (by rw [← ok.uid f hf k hk he]; exact List.mem_cons_self)
          by_cases ht : t = f.dst
          · subst ht; rw [Env.put_same]; exact (ok.other k hk f hf hkf).1
          · rw [Env.put_other _ _ _ _ ht]; exact h3 k hk (fun hh => hkn (List.mem_cons_of_mem _ hh)) t
      · rintro ex a' w' hne ⟨e', σ', hq, _⟩
        cases ex <;> first | exact absurd rfl hne | exact hq.elim
      · obtain ⟨a', w', e', σ', hq, _⟩ := h.2
        exact hq.elim
    · rw [if_pos (hg.wanted (fun t _ => hr.env t))]
      refine .inl (wp_to ?_ (fun _ _ _ => False.elim) (hop F ρ w a hr.lt (fun t _ => hr.env t) (hr.obs.sub fun q hq => List.mem_append.2 (.inr hq))))
      rintro a' w' ⟨v, F', rfl, hv, hE⟩
      obtain ⟨p1, p2⟩ := pure (o := o) (s := s) h1 h2 h3 hne fun f hf hfn => by
        rcases hsk f hf with hh | ⟨t, _, hh⟩
        · exact hh
        · exact absurd (h3 f hf hfn t) hh
      exact ih _ _ _ _ ⟨Δ, h1, hL', p1, p2, F', ρ, hr.put hE hv hdo⟩ hkk
    · rw [if_neg (by rw [hg.wanted (fun t _ => hr.env t)]; simp)]
      obtain ⟨p1, p2⟩ := pure (o := o) (s := .d (.v undef)) h1 h2 h3 hne (fun _ _ _ => rfl)
      exact ih _ _ _ _ ⟨Δ, h1, hL', p1, p2, F, ρ, hr.put (Ext.refl hr.lt) repS_undef hdo⟩ hkk
section
variable {cx : Cx} {ops : Array Oper} {σ : Obs} {Φ : List Fr} {e : Env} {Qe : Env → Prop} {o : Oper} {l : List Oper}
def Holds (p : Fr → Prop) : List Fr → Prop
  | [] => True
  | f :: l => p f ∧ Holds p l
theorem Holds.all {p : Fr → Prop} : ∀ {l : List Fr}, Holds p l → ∀ f ∈ l, p f
  | [], _, f, hf => by cases hf
  | g :: l, h, f, hf => by
    cases hf with
    | head => exact h.1
    | tail _ hf => exact Holds.all h.2 f hf
theorem XRun.nil (hd : Holds (fun f => e f.dst = f.s0) Φ) (h : Qe e) : XRun cx ops σ Φ [] e Qe := ⟨hd.all, h⟩
def neDst (o : Oper) (dst : Nat) : Bool := match o.dst with | none => true | some t => !(Nat.beq t dst)
theorem neDst_spec {dst : Nat} (h : neDst o dst = true) : o.dst ≠ some dst := fun he => by unfold neDst at h; rw [he] at h; simp at h
def neAll (Φ : List Fr) (o : Oper) : Bool := Φ.all fun f => neDst o f.dst
theorem neAll_spec (h : neAll Φ o = true) : notDst Φ o := fun f hf => neDst_spec (List.all_eq_true.1 h f hf)
theorem XRun.step {s : S} {t : Nat} (hg : GW ops o e true) (ht : o.dst = some t) (hd : Nat.blt t cx.N = true) (h : AOp cx.P cx.B ops o e σ s) (k : XRun cx ops σ Φ l (e.put (some t) s) Qe) (hne : neAll Φ o = true := by rfl) (hs : Holds (fun f => s.kill f.id = s ∨ ∃ t, t ∈ o.looksAt ops ∧ (e t).kill f.id ≠ e t) Φ := by first | exact ⟨.inl rfl, trivial⟩ | exact ⟨.inl rfl, .inl rfl, trivial⟩ | exact ⟨.inr ⟨_, .head _, S.noConfusion⟩, trivial⟩ | exact ⟨.inr ⟨_, .head _, S.noConfusion⟩, .inl rfl, trivial⟩ | exact ⟨.inl rfl, .inr ⟨_, .head _, S.noConfusion⟩, trivial⟩) : XRun cx ops σ Φ (o :: l) e Qe :=
  ⟨by unfold DstOk; rw [ht]; exact hd, s, .inl ⟨hg, .inr ⟨h, neAll_spec hne, hs.all⟩⟩, by rw [ht]; exact k⟩
theorem ev_same {e0 e : Env} {x : Operand} (h : ∀ t, x = .tmp t → e0 t = e t) : e0.ev x = e.ev x := by
  cases x with
  | tmp t => exact h t rfl
  | const v => rfl
  | global g => rfl
  | func f => rfl
end
def Env.killAll : List Fr → Env → Env
  | [], e => e
  | f :: l, e => Env.killAll l (e.kill f.id)
theorem kill_comm (i j : Nat) (s : S) : (s.kill i).kill j = (s.kill j).kill i := by
  cases s with
  | d x => rfl
  | own k => cases h1 : Nat.beq k i <;> cases h2 : Nat.beq k j <;> simp only [S.kill, h1, h2]
  | ptr k off => cases h1 : Nat.beq k i <;> cases h2 : Nat.beq k j <;> simp only [S.kill, h1, h2]
  | clo f caps => cases h1 : Cap.anyP (fun k => Nat.beq k i) caps <;> cases h2 : Cap.anyP (fun k => Nat.beq k j) caps <;> simp only [S.kill, h1, h2]
theorem killAll_kill (id : Nat) : ∀ (Φ : List Fr) (e : Env), (∀ t, (e t).kill id = e t) → ∀ t, (Env.killAll Φ e t).kill id = Env.killAll Φ e t
  | [], _, h => h
  | f :: l, e, h => killAll_kill id l (e.kill f.id) fun t => by unfold Env.kill; rw [kill_comm, h t]
theorem killAll_all : ∀ (Φ : List Fr) (e : Env), ∀ f ∈ Φ, ∀ t, (Env.killAll Φ e t).kill f.id = Env.killAll Φ e t
  | g :: l, e, f, hf, t => by
    rcases List.mem_cons.1 hf with rfl | hf
    · exact killAll_kill f.id l (e.kill f.id) (fun t => S.kill_kill f.id (e t)) t
    · exact killAll_all l (e.kill g.id) f hf t
theorem R.killAll {cx : Cx} {σ : Obs} {a : Act} {w : World} : ∀ (Φ : List Fr) {e : Env}, R cx e σ a w → R cx (Env.killAll Φ e) σ a w
  | [], _, h => h
  | f :: l, _, ⟨F, ρ, h⟩ => R.killAll l ⟨F, ρ, h.killEnv f.id⟩
/-- A region that draws its order; some of its first k operations make own objects; those from k on wait for all before them. -/
theorem AWP.drawFresh {cx : Cx} {rid : Nat} {l : List Oper} {e : Env} {σ : Obs} {Q : Post} (k : Nat) (Φ : List Fr) (ok : FrOk cx Φ σ) (hm : cx.P.follows .mixedOrders = true) (hB : Region.lexB .any (l.take k).toArray = true) (hC : Region.chainB l.toArray k = true) (hlk : (Φ.all fun f => (List.range (l.take k).length).all fun i => (List.range (l.take k).length).all fun j => Nat.beq i j || (((l.take k)[i]?).map fun o => neDst o f.dst).getD true || (((l.take k)[j]?).map fun o => neDst o f.dst).getD true) = true)
    (h : XRun cx (l.take k).toArray σ Φ (l.take k) (Env.killAll Φ e) (fun e => AOps cx l.toArray (l.drop k) e (frObs Φ ++ σ) Q)) : AWP cx (.region rid l.toArray true) e σ Q := by
  intro a w ⟨F, ρ, hr⟩
  simp only [Region.lexB, Bool.and_eq_true] at hB
  have hch := Chain.of hC
  have hkl : k ≤ l.length := by simpa using hch.le
  have h1 := anyX_lex (l.take k) 0 (Array.replicate (l.take k).toArray.size false) (Env.killAll Φ e) (by simp) (by simpa using hB.2) h
  have hone : ∀ f ∈ Φ, ∀ (i j : Nat) (o o' : Oper), (l.take k).toArray[i]? = some o → (l.take k).toArray[j]? = some o' → o.dst = some f.dst → o'.dst = some f.dst → i = j := fun f hf i j o o' hi hj ho ho' => by
    rw [List.getElem?_toArray] at hi hj
    have h3 := List.all_eq_true.1 (List.all_eq_true.1 (List.all_eq_true.1 hlk f hf) i (List.mem_range.2 (List.getElem?_eq_some_iff.1 hi).1)) j (List.mem_range.2 (List.getElem?_eq_some_iff.1 hj).1)
    rw [hi, hj] at h3
    simp only [Option.map_some, Option.getD_some, Bool.or_eq_true] at h3
    rcases h3 with (h3 | h3) | h3
    · exact Nat.eq_of_beq_eq_true h3
    · exact absurd ho (neDst_spec h3)
    · exact absurd ho' (neDst_spec h3)
  have h2 := wpAny_of_X (cx := cx) (ops := (l.take k).toArray) (Q := fun ex e σ => match ex with | .normal => AOps cx l.toArray (l.drop k) e σ Q | _ => False) (by simpa using XRun.dsts _ _ h) hone ok _ _ (Env.killAll Φ e) a _
    ⟨[], fun g hg => (nomatch hg), fun g hg => (nomatch hg), fun g hg => (nomatch hg), fun f hf _ t => killAll_all Φ e f hf t, R.killAll Φ ⟨F, ρ, hr.drew⟩⟩ h1
  refine wp_region_any hm (wpAny_split hch (ops0 := (l.take k).toArray) (by simp; omega) (fun j hj => by simp [hj]) ?_ ?_ (l.take k).length _ _ _ _ _ (by simp; omega) (by simp) ?_ ?_ ?_ (by simp; omega) h2)
  · rintro a w ⟨e, σ, h3, h4⟩
    have := h3 a w h4
    simpa using this
  · rintro ex a w hne ⟨e, σ, h3, _⟩
    cases ex <;> first | exact absurd rfl hne | exact h3.elim
  · intro j hj d
    have h5 : j < l.length := by omega
    have h6 : j < min k l.length := by omega
    simp [Array.getD_eq_getD_getElem?, h5, h6]
  · intro j hj hj2
    have : j < l.length := by simpa using hj2
    simp [Array.getD_eq_getD_getElem?, this]
  · intro i o ho hi
    have : i < l.length := by simpa using (Array.getElem?_eq_some_iff.1 ho).1
    simp [Array.getD_eq_getD_getElem?, this] at hi
end Go.Proofs.YtieccphckobhjaaDoor


namespace Go.Proofs.YtieccphckobhjaaDoor
open Go.RowKit
set_option linter.unusedVariables false

/-- What is so stays so while what was there is kept. -/
def Stays (T : World → Prop) : Prop := ∀ w w', Kept (fun b => w.heap.size ≤ b) w w' → T w → T w'
/-- A contract that wants T of the world. -/
def ACallT (P : Program) (T : World → Prop) (f : FuncId) (ds : List D) (d : D) : Prop := Enters P f ∧
  ∀ (F : Nat → Prop) (w : World) (vs : List Value), T w → (∀ b, F b → b < w.heap.size) → RepL F w vs ds → Calls P f vs.toArray w fun e w' => ∃ v F', e = .returned v ∧ Rep F' w' v d ∧ Ext F w F' w'
/-! ## Operations -/

end Go.Proofs.YtieccphckobhjaaDoor


namespace Go.Proofs.YtieccphckobhjaaDoor
open Go.RowKit
set_option linter.unusedVariables false

/-- The type of bytes. -/
structure U8T (P : Program) (t : TypeId) : Prop where
  hu : P.underlying t = some (.int .u8)
def at0' (l : List UInt8) (i : Nat) : UInt8 := l.getD i 0
section
variable {cx : Cx} {ops : Array Oper} {o : Oper} {rest : List Oper} {e : Env} {σ : Obs} {Q : Post}
end

section
variable {P : Program} {B : Nat} {ops : Array Oper} {o : Oper} {e : Env} {σ : Obs}
end

section
variable {P : Program} {B : Nat} {ops : Array Oper} {o : Oper} {e : Env} {σ : Obs}
end
end Go.Proofs.YtieccphckobhjaaDoor


namespace Go.Proofs.YtieccphckobhjaaDoor
open Go.RowKit
set_option linter.unusedVariables false

/-- f, called with what reads as ds, returns a new row whose elements read as els, and that nobody else has. -/
def OCall (P : Program) (f : FuncId) (ds : List D) (ee size : Nat) (els : List (List D)) : Prop := Enters P f ∧
  ∀ (F : Nat → Prop) (w : World) (vs : List Value), (∀ b, F b → b < w.heap.size) → RepL F w vs ds →
    Calls P f vs.toArray w fun r w' => ∃ v F', r = .returned v ∧ Ext F w F' w' ∧ ObOk w.heap.size F' (fun _ => v) w' 0 (.row ee size els)

theorem OCall.toA {P : Program} {f : FuncId} {ds : List D} {ee size : Nat} {els : List (List D)} (h : OCall P f ds ee size els) : ACall P f ds (.sl els) :=
  ⟨h.1, fun F w vs hF hv => (h.2 F w vs hF hv).mono fun r w' ⟨v, F', h1, h2, h3⟩ => by
    have ho : ObsOk w.heap.size F' (fun _ => v) w' [(0, .row ee size els)] := by
      refine ⟨fun p hp => ?_, fun p hp q hq hne => ?_, fun p hp q hq _ => ?_⟩
      · have : p = (0, .row ee size els) := by simpa using hp
        subst this
        exact h3
      · have h4 : p = (0, .row ee size els) := by simpa using hp
        have h5 : q = (0, .row ee size els) := by simpa using hq
        rw [h4, h5] at hne
        exact absurd rfl hne
      · have h4 : p = (0, .row ee size els) := by simpa using hp
        have h5 : q = (0, .row ee size els) := by simpa using hq
        rw [h4, h5]
    have hr := ob_rep ho (List.mem_singleton.2 rfl)
    refine ⟨v, _, h1, hr, fun b hb => .inl (h2.up b hb), ?_, ?_, h2.below⟩
    · rintro b (hb | ⟨p, hp, hb⟩)
      · exact h2.new b hb
      · have h4 : p = (0, .row ee size els) := by simpa using hp
        subst h4
        exact .inr (h3.blk_lt hb).1
    · rintro b (hb | ⟨p, hp, hb⟩)
      · exact h2.lt b hb
      · have h4 : p = (0, .row ee size els) := by simpa using hp
        subst h4
        exact (h3.blk_lt hb).2⟩

theorem obOk_base {B B' : Nat} {F : Nat → Prop} {ρ ρ' : Nat → Value} {w : World} {id id' ee size : Nat} {els : List (List D)} (h : ObOk B F ρ w id (.row ee size els)) (hB : B' ≤ B) (he : ρ id = ρ' id') : ObOk B' F ρ' w id' (.row ee size els) := by
  obtain ⟨xs, h1, h2, h3, h4⟩ := h
  rw [he] at h1 h4
  refine ⟨xs, ⟨h1.1, ?_⟩, h2, h3, h4⟩
  rcases h1.2 with h5 | ⟨g, cap, cur, h5, h6, h7⟩
  · exact .inl h5
  · exact .inr ⟨g, cap, cur, h5, Nat.le_trans hB h6, h7⟩

/-- A new own object, where more is data now. -/
theorem R0.newObF {cx : Cx} {F F' : Nat → Prop} {ρ : Nat → Value} {e : Env} {σ : Obs} {a : Act} {w w' : World} (hr : R0 cx F ρ e σ a w) {id dst : Nat} {ob : Ob} {v : Value} (hid : ∀ p ∈ σ, p.1 ≠ id) (hd : dst < cx.N) (hE : Ext F w F' w')
    (hob : ObOk cx.B F' (fun j => if j = id then v else ρ j) w' id ob) (hnew : ∀ g, blk v = some g → w.heap.size ≤ g) (hfx : cx.free id = true) :
    ∃ ρ', R0 cx F' ρ' ((e.kill id).put (some dst) (.own id)) ((id, ob) :: Obs.kill id σ) (a.put (some dst) v) w' := by
  refine ⟨fun j => if j = id then v else ρ j, ?_⟩
  have h2 := hr.turn (ρ' := fun j => if j = id then v else ρ j) (id := id) (ob := ob) (row := none) (w' := w') (F' := F') (fun j hj => by simp [hj])
    ⟨hE.below.os, hE.below.tape, hE.below.output, hE.below.size, fun k hk _ => hE.below.block k hk⟩ hfx (fun g hg => by simp at hg) hE.up hE.new hE.lt hob
    (fun g hg => by rw [if_pos rfl] at hg; exact .inr (hnew g hg)) ((id, ob) :: Obs.kill id σ) (fun p hp => by
      cases hp with
      | head => exact .inl rfl
      | tail _ hp => obtain ⟨q, hq, rfl⟩ := Obs.mem_kill hp; exact .inr ⟨q, hq, hid q hq, rfl⟩)
  exact h2.put (o := ⟨some dst, .ready 0, 0, "", #[], none⟩) (v := v) (s := .own id) (Ext.refl h2.lt) (by
      have := RepS.own (F := F') (ρ := fun j => if j = id then v else ρ j) (w := w') id
      simpa using this) (by simpa [DstOk, Nat.blt_eq] using hd)

section
variable {cx : Cx} {ops : Array Oper} {o : Oper} {rest : List Oper} {e : Env} {σ : Obs} {Q : Post}
theorem AOps.callO {f : FuncId} {xs : List Operand} {ts : Array TypeId} {ds : List D} {ee size dst : Nat} {els : List (List D)} (id : Nat) (hg : o.guard = none) (ht : o.dst = some dst) (hdn : Nat.blt dst cx.N = true)
    (ho : o.op = .call { callee := .value (.func f), args := xs.toArray, argTypes := ts }) (ha : ArgsOk e xs ds) (h : OCall cx.P f ds ee size els) (hid : Obs.fresh id σ = true)
    (k : AOps cx ops rest ((e.kill id).put (some dst) (.own id)) ((id, .row ee size els) :: Obs.kill id σ) Q) (hfx : cx.free id = true := by rfl) : AOps cx ops (o :: rest) e σ Q := by
  intro a w ⟨F, ρ, hr⟩
  have hdn' : dst < cx.N := by simpa [Nat.blt_eq] using hdn
  have h4 := h.2 F w (xs.map a.eval) hr.lt (repL_ops ha (fun x _ => ev_rep fun t _ => hr.env t))
  have h5 := h.1 (xs.map a.eval).toArray w
  have hx : (execOp a.eval o).run cx.P w = .ok (.enter f (xs.map a.eval).toArray) w := by
    unfold execOp
    simp only [ho, resolve, Deferred.ofValue, Act.eval, invoke, Sem.run_bind, Sem.run_pure, Result.andThen_ok]
    simpa using h5
  refine wpList_plain hg fun K hK => ?_
  unfold Oper.wp
  rw [hx]
  refine h4.mono fun _ w' ⟨v, F', he, hE, hob⟩ => ?_
  subst he
  obtain ⟨ρ', h6⟩ := hr.newObF (ob := .row ee size els) (v := v) (Obs.fresh_spec hid) hdn' hE (obOk_base hob hr.hB (by simp)) (fun g hg => (hob.blk_lt hg).1) hfx
  have := k _ _ ⟨F', ρ', h6⟩
  rw [← ht] at this
  exact hK _ _ this
/-- []T{}: an own row of no elements. -/
theorem AOps.build0 {t el size bytes dst : Nat} {z : Value} (id : Nat) (hg : o.guard = none) (ht : o.dst = some dst) (hdn : Nat.blt dst cx.N = true) (ho : o.op = .buildSlice t 0 #[]) (T : ElemTy cx.P t el size bytes z) (hid : Obs.fresh id σ = true)
    (k : AOps cx ops rest ((e.kill id).put (some dst) (.own id)) ((id, .row el size []) :: Obs.kill id σ) Q) (hfx : cx.free id = true := by rfl) : AOps cx ops (o :: rest) e σ Q := by
  intro a w ⟨F, ρ, hr⟩
  have hdn' : dst < cx.N := by simpa [Nat.blt_eq] using hdn
  have hrun : (execOp a.eval o).run cx.P w = .ok (.value (.slice (some ⟨w.heap.size, 0, none⟩) 0 0)) (w.alloc (.cells #[] el)) := by
    unfold execOp
    simp only [ho, Instr.buildSlice, Sem.run_bind, run_underlying T.ht, Result.andThen_ok, T.sizeOf, Nat.zero_mul]
    rw [if_neg (show ¬ (0 > 2 ^ 24) by decide), if_pos trivial]
    simp only [Sem.run_bind, Sem.run_pure, Result.andThen_ok]
    have hfl : Instr.fill (fun i => some (i * size, size)) (Array.map (fun x => (#[] : Array Value)[x % (#[] : Array Value).size]!) (Array.range 0)) (Array.map (fun (x : Nat × Operand) => (x.fst, a.eval x.snd)) #[]).toList = some #[] := by simp [Instr.fill]
    rw [hfl]
    rfl
  have hrow : (w.alloc (.cells #[] el)).ownsRow cx.B el size (.slice (some ⟨w.heap.size, 0, none⟩) 0 0) 0 [] :=
    ⟨by simp, .inr ⟨w.heap.size, 0, #[], rfl, hr.hB, heap_alloc_new w _, Nat.zero_le _, by unfold maxLen; omega, by simp, by simp⟩⟩
  obtain ⟨ρ', h5⟩ := hr.newRow (v := .slice (some ⟨w.heap.size, 0, none⟩) 0 0) (els := []) (Obs.fresh_spec hid) hdn' ((Below.refl _ _).alloc (Nat.le_refl _) (.cells #[] el))
    ⟨fun _ _ => undef, by dsimp only; rw [if_pos rfl]; exact hrow, fun i hi => by simp at hi, fun i hi => by simp at hi, fun g hg hf => by dsimp only at hg; rw [if_pos rfl] at hg; simp [blk] at hg; have := hr.lt g hf; omega⟩
    (fun g hg => by simp [blk] at hg; omega) hfx
  refine wpList_plain hg fun K hK => ?_
  unfold Oper.wp
  rw [hrun]
  have := k _ _ ⟨F, ρ', h5⟩
  rw [← ht] at this
  exact hK _ _ this

/-- Rows are data from here on; every slot and every cell as before. -/
theorem R0.freeze0 {F : Nat → Prop} {ρ : Nat → Value} {a : Act} {w : World} (h : R0 cx F ρ e σ a w) {id ee size : Nat} {els : List (List D)} (hm : (id, Ob.row ee size els) ∈ σ) :
    ∃ F', R0 cx F' ρ e (Obs.del id σ) a w ∧ Rep F' w (ρ id) (.sl els) := by
  have hF2 : ∀ b, (F b ∨ blk (ρ id) = some b) → b < w.heap.size := fun b hb => by
    rcases hb with hb | hb
    · exact h.lt b hb
    · exact ((h.obs.ok _ hm).blk_lt hb).2
  refine ⟨fun b => F b ∨ blk (ρ id) = some b, ⟨h.size, h.defers, hF2, fun b hb => .inl (h.base b hb), fun b hb => ?_, h.below, h.hB, fun u => ?_, ?_, h.up, fun p hp => h.kown p (Obs.mem_del hp).1, h.fixed⟩, h.rep_row hm (fun b hb => .inl hb) (fun g hg => .inr hg)⟩
  · rcases hb with hb | hb
    · exact h.new b hb
    · exact .inr (h.kown _ hm b hb)
  · exact RepS.turn (row := none) (h.env u) h.lt (fun g hg => by simp at hg) ⟨rfl, rfl, rfl, Nat.le_refl _, fun _ _ _ => rfl⟩ (fun b hb => .inl hb)
  · refine ⟨fun p hp => ?_, fun p hp q hq => h.obs.apart p (Obs.mem_del hp).1 q (Obs.mem_del hq).1, fun p hp q hq => h.obs.uniq p (Obs.mem_del hp).1 q (Obs.mem_del hq).1⟩
    obtain ⟨h1, h2⟩ := Obs.mem_del hp
    have h3 := h.obs.ok p h1
    have hne : ∀ g, blk (ρ p.1) = some g → blk (ρ id) ≠ some g := fun g hg => h.obs.apart p h1 _ hm h2 g hg
    exact h3.more h.lt (fun b hb => .inl hb) (fun g hg hf => by
      rcases hf with hf | hf
      · exact h3.nF hg hf
      · exact hne g hg hf)
theorem R0.freezeIn {F : Nat → Prop} {ρ : Nat → Value} {a : Act} {w : World} (h : R0 cx F ρ e σ a w) {c off id ee size : Nat} {ss : List S} {els : List (List D)} (hc : (c, Ob.cells ss) ∈ Obs.del id σ) (hs : ss[off]? = some (.own id)) (hm : (id, Ob.row ee size els) ∈ σ) :
    ∃ F', R0 cx F' ρ e (Obs.upd c (.cells (ss.set off (.d (.sl els)))) (Obs.del id σ)) a w := by
  obtain ⟨F', h1, h2⟩ := h.freeze0 hm
  exact ⟨F', h1.recell hc hs fun x hx => by cases hx; exact .d h2⟩
theorem AWP.freezeIn {cd : Code} (c off : Nat) {id ee size : Nat} {ss : List S} {els : List (List D)} (hs : ss[off]? = some (.own id)) (hc : (c, Ob.cells ss) ∈ Obs.del id σ) (hm : (id, Ob.row ee size els) ∈ σ)
    (k : AWP cx cd e (Obs.upd c (.cells (ss.set off (.d (.sl els)))) (Obs.del id σ)) Q) : AWP cx cd e σ Q := fun a w ⟨_, ρ, hr⟩ => by
  obtain ⟨F', h⟩ := hr.freezeIn hc hs hm
  exact k a w ⟨F', ρ, h⟩
/-- A slice of no elements: nil, or not. -/
theorem AWP.nilOr {cd : Code} (t : Nat) (ht : e t = .d (.sl [])) (h1 : AWP cx cd (e.put (some t) (.d (.v (.slice none 0 0)))) σ Q) (h2 : ∀ ad cap, cap ≤ 9223372036854775807 → AWP cx cd (e.put (some t) (.d (.v (.slice (some ad) 0 cap)))) σ Q) : AWP cx cd e σ Q := fun a w ⟨F, ρ, hr⟩ => by
  have h3 := hr.env t
  rw [ht] at h3
  have h4 := repS_d h3
  have key : ∀ {v : Value}, a.tmps.getD t undef = v → R cx (e.put (some t) (.d (.v v))) σ a w := fun {v} hv => ⟨F, ρ, hr.size, hr.defers, hr.lt, hr.base, hr.new, hr.below, hr.hB, fun u => by
    by_cases hu : u = t
    · subst hu
      rw [Env.put_same, hv]
      exact .d (.v _)
    · rw [Env.put_other _ _ _ _ hu]
      exact hr.env u, hr.obs, hr.up, hr.kown, hr.fixed⟩
  rcases rep_sl_sl h4 with ⟨h5, _⟩ | ⟨ad, cap, size, vs, h5, hc, hm, _⟩
  · exact h1 a w (key h5)
  · exact h2 ad cap hm a w (key (by rw [h5]; rfl))
end

theorem Le.empty {ad : Addr} {cap : Nat} (h : cap ≤ 9223372036854775807) : Le (.v (.slice (some ad) 0 cap)) (.sl []) := fun F w x hx => by
  rw [rep_v hx]
  exact .sl ad cap 0 [] (fun _ _ => undef) (Nat.zero_le _) h (fun h => absurd h (by simp)) (fun i hi => by simp at hi) (fun i j hi => by simp at hi) (fun i j hi => by simp at hi) (fun i hi => by simp at hi)
theorem AOps.le {cx : Cx} {ops : Array Oper} {rest : List Oper} {e : Env} {σ : Obs} {Q : Post} (t : Nat) {s' : S} {s : S} (ht : e t = s) (h : SLe s s') (k : AOps cx ops rest (e.put (some t) s') σ Q) : AOps cx ops rest e σ Q := fun a w ⟨F, ρ, hr⟩ =>
  k a w ⟨F, ρ, hr.size, hr.defers, hr.lt, hr.base, hr.new, hr.below, hr.hB, fun u => by
    by_cases hu : u = t
    · subst hu
      rw [Env.put_same]
      have := hr.env u
      rw [ht] at this
      exact h F ρ w _ this
    · rw [Env.put_other _ _ _ _ hu]
      exact hr.env u, hr.obs, hr.up, hr.kown, hr.fixed⟩

section
variable {P : Program} {B : Nat} {ops : Array Oper} {o : Oper} {e : Env} {σ : Obs}
theorem eqGuard_sl (op : BinOp) (t : TypeId) (x y : Operand) (a b : Option Addr) (n m c d : Nat) (w : World) : (eqGuard op t x y (.slice a n c) (.slice b m d)).run P w = .ok () w := by
  unfold eqGuard; cases op <;> rfl
theorem run_slice_eq_nil {t el : TypeId} (w : World) (a : Option Addr) (n c : Nat) (ht : P.underlying t = some (.slice el)) : (binOp .eql t (.slice a n c) (.slice none 0 0)).run P w = .ok (.bool a.isNone) w := by
  unfold binOp
  simp only [Sem.run_bind, run_equal_slice_nil w t el a n c ht, Result.andThen_ok]
  rfl
/-- x == nil. -/
theorem AOp.eqNilV {t ty el : TypeId} {x y : Operand} {a : Option Addr} {n c : Nat} (ho : o.op = .binOp .eql t x y ty) (ht : P.underlying t = some (.slice el)) (hx : e.ev x = .d (.v (.slice a n c))) (hy : e.ev y = .d (.v (.slice none 0 0))) :
    AOp P B ops o e σ (.d (.v (.bool a.isNone))) := .bin ho hx hy fun w => by
  rw [Sem.run_bind, eqGuard_sl]
  exact run_slice_eq_nil w a n c ht
theorem AOp.eqNilS {t ty el : TypeId} {x y : Operand} {els : List (List D)} (ho : o.op = .binOp .eql t x y ty) (ht : P.underlying t = some (.slice el)) (hx : e.ev x = .d (.sl els)) (hy : e.ev y = .d (.v (.slice none 0 0))) (hne : els ≠ []) :
    AOp P B ops o e σ (.d (.v (.bool false))) := .value fun F ρ w a hF hr _ => by
  have h1 := hr x (by rw [ho]; simp [Op.operands])
  have h2 := hr y (by rw [ho]; simp [Op.operands])
  rw [hx] at h1
  rw [hy] at h2
  refine ⟨.bool false, F, w, ?_, .d (.v _), Ext.refl hF⟩
  rcases rep_sl_sl (repS_d h1) with ⟨_, h5⟩ | ⟨ad, cap, size, vs, h5, _⟩
  · exact absurd h5 hne
  · unfold execOp
    simp only [ho, h5, repS_v h2]
    have h3 : (do eqGuard .eql t x y (.slice (some ad) els.length cap) (.slice none 0 0); binOp .eql t (.slice (some ad) els.length cap) (.slice none 0 0) : Sem Value).run P w = .ok (.bool false) w := by
      rw [Sem.run_bind, eqGuard_sl]
      exact run_slice_eq_nil w _ _ _ ht
    rw [Sem.run_bind, h3]
    rfl
end

/-! ## Contracts -/
def RetO (t ee size : Nat) (els : List (List D)) : Post := fun ex e σ => match ex with
  | .ret => ∃ id, e t = .own id ∧ (id, Ob.row ee size els) ∈ σ
  | .normal => ∃ id, e t = .own id ∧ (id, Ob.row ee size els) ∈ σ
  | _ => False
theorem ocall_of {P : Program} {f : FuncId} {fn : Func} {c : Code} {n ee size : Nat} {ds : List D} {els : List (List D)} (hf : P.funcs[f]? = some fn) (hb : fn.body = some c) (hn : (fn.name == "runtime.NumGoroutine") = false) (hN : fn.ntmps = n)
    (t : Nat) (hr : fn.results = #[.tmp t]) (hle' : Nat.ble ds.length n = true) (h : ∀ B w0 F0 fr, AWP ⟨P, n, B, w0, F0, fr, fun _ => false, fun _ => undef⟩ c (Env.args 0 ds) [] (RetO t ee size els)) : OCall P f ds ee size els := by
  have hle : ds.length ≤ n := Nat.le_of_ble_eq_true hle'
  refine ⟨Enters.of hf hn (by rw [hb]; rfl), fun F w vs hF hv => ?_⟩
  refine calls_of_wp hf hb ?_
  have hR : R ⟨P, n, w.heap.size, w, F, (fun b => w.heap.size ≤ b), fun _ => false, fun _ => undef⟩ (Env.args 0 ds) [] { tmps := vs.toArray ++ Array.replicate (fn.ntmps - vs.toArray.size) undef, defers := [] } w := by
    refine ⟨F, fun _ => undef, ?_, rfl, hF, fun b hb => hb, fun b hb => .inl hb, Kept.refl _ _, Nat.le_refl _, fun t => ?_, ⟨fun p hp => by simp at hp, fun p hp => by simp at hp, fun p hp => by simp at hp⟩, fun b hb => hb, fun p hp => by simp at hp, fun i hi => by simp at hi⟩
    · simp [hN, hv.1]; omega
    · by_cases ht : t < ds.length
      · have := Env.args_get ds 0 t ht
        rw [Nat.zero_add] at this
        rw [this]
        have hvt : t < vs.length := by rw [hv.1]; exact ht
        have : (vs.toArray ++ Array.replicate (fn.ntmps - vs.toArray.size) undef).getD t undef = vs[t] := by
          rw [Array.getD_eq_getD_getElem?, Array.getElem?_append_left (by simpa using hvt)]
          simp [hvt]
        rw [this]
        exact .d (hv.2 t hvt ht)
      · have := Env.args_out ds 0 t (by omega)
        rw [Nat.zero_add] at this
        rw [this]
        exact .d (.any _)
  refine wp_mono (h _ _ _ _ _ _ hR) ?_
  rintro ex a w' ⟨e', σ', hq, F', ρ', hr'⟩
  have hres : (results fn a.tmps).run P w' = .ok (a.tmps.getD t undef) w' := by
    have key : ∀ (ts : List Nat), (List.mapM (fun r => match r with | .tmp t => pure (a.tmps.getD t undef) | .cell b t => do loadVar t (← asAddr (a.tmps.getD b undef))) (ts.map ResultVar.tmp) : Sem (List Value)).run P w' = .ok (ts.map fun t => a.tmps.getD t undef) w' := by
      intro ts
      induction ts with
      | nil => rfl
      | cons t ts ih =>
        rw [List.map_cons, List.mapM_cons, Sem.run_bind]
        simp only [Sem.run_pure, Result.andThen_ok, Sem.run_bind, ih, List.map_cons]
    unfold results
    rw [hr, Sem.run_bind]
    have h2 : (Array.mapM (fun r => match r with | ResultVar.tmp t => pure (a.tmps.getD t undef) | ResultVar.cell b t => do loadVar t (← asAddr (a.tmps.getD b undef))) (([t] : List Nat).map ResultVar.tmp).toArray : Sem (Array Value)).run P w' = .ok (([t] : List Nat).map fun t => a.tmps.getD t undef).toArray w' := by
      rw [List.mapM_toArray, Sem.run_map, key]
      rfl
    refine (congrArg (fun r => Result.andThen r _) h2).trans ?_
    simp only [Result.andThen_ok]
    rfl
  have hends : (∃ id, e' t = .own id ∧ (id, Ob.row ee size els) ∈ σ') → bodyPost P fn (fun r w' => ∃ v F', r = .returned v ∧ Ext F w F' w' ∧ ObOk w.heap.size F' (fun _ => v) w' 0 (.row ee size els)) .ret a w' := by
    rintro ⟨id, h1, h2⟩
    have h3 := hr'.env t
    rw [h1] at h3
    have h4 : a.tmps.getD t undef = ρ' id := by generalize a.tmps.getD t undef = v at h3; cases h3; rfl
    refine ⟨hr'.defers, _, hres, _, F', rfl, ⟨hr'.base, fun b hb => (hr'.new b hb).imp (fun x => x) fun x => x, hr'.lt, ⟨hr'.below.os, hr'.below.tape, hr'.below.output, hr'.below.size, fun k hk => hr'.below.block k hk (fun hf => by have h5 : w.heap.size ≤ k := hf; omega)⟩⟩, obOk_base (hr'.obs.ok _ h2) (Nat.le_refl _) h4.symm⟩
  cases ex with
  | ret => exact hends hq
  | normal => exact hends hq
  | exit id => exact hq.elim
  | goto l => exact hq.elim
  | panic c => exact hq.elim
  | outgrown => exact hq.elim
theorem XRun.callO {cx : Cx} {ops : Array Oper} {σ : Obs} {Φ : List Fr} {e : Env} {Qe : Env → Prop} {o : Oper} {l : List Oper} {fn : FuncId} {xs : List Operand} {ts : Array TypeId} {ds : List D} {ee size : Nat} {els : List (List D)} (f : Fr) (hf : f ∈ Φ) (hg : GW ops o e true) (hgn : o.guard = none) (ht : o.dst = some f.dst) (hd : Nat.blt f.dst cx.N = true)
    (ho : o.op = .call { callee := .value (.func fn), args := xs.toArray, argTypes := ts }) (ha : ArgsOk e xs ds) (h : OCall cx.P fn ds ee size els) (hob : f.ob = .row ee size els) (hs : f.s0 = .own f.id) (k : XRun cx ops σ Φ l (e.put (some f.dst) f.s0) Qe) (hfx : cx.free f.id = true := by rfl) : XRun cx ops σ Φ (o :: l) e Qe :=
  ⟨by unfold DstOk; rw [ht]; exact hd, _, .inl ⟨hg, .inl ⟨f, hf, ⟨ht, fun e0 σ _ he hfr => by
    have hev : ∀ x ∈ xs, e0.ev x = e.ev x := fun x hx => ev_same fun t hxt => he t (looks_op (by rw [ho, ← hxt]; simp [Op.operands, Call.operands, hx]))
    have ha0 : ArgsOk e0 xs ds := by
      have key : ∀ (xs : List Operand) (ds : List D), (∀ x ∈ xs, e0.ev x = e.ev x) → ArgsOk e xs ds → ArgsOk e0 xs ds := by
        intro xs
        induction xs with
        | nil => intro ds _ h; cases ds <;> exact h
        | cons x xs ih =>
          intro ds hx h
          cases ds with
          | nil => exact h
          | cons d ds =>
            obtain ⟨⟨d0, h1, h2⟩, h3⟩ := h
            exact ⟨⟨d0, (hx x (by simp)).trans h1, h2⟩, ih ds (fun y hy => hx y (by simp [hy])) h3⟩
      exact key xs ds hev ha
    exact AOps.callO f.id hgn ht hd ho ha0 h hfr (.nil ⟨by rw [hs], by rw [hob]⟩) hfx⟩, rfl⟩⟩, by rw [ht]; exact k⟩
end Go.Proofs.YtieccphckobhjaaDoor


namespace Go.Proofs.YtieccphckobhjaaDoor
open Go.RowKit
set_option linter.unusedVariables false

/-- One operation, from worlds that keep what was there at the beginning. -/
def AOpK (cx : Cx) (ops : Array Oper) (o : Oper) (e : Env) (σ : Obs) (s : S) : Prop :=
  ∀ (F : Nat → Prop) (ρ : Nat → Value) (w : World) (a : Act), Kept cx.fr cx.w0 w → (∀ b, F b → b < w.heap.size) → (∀ t, t ∈ o.looksAt ops → RepS F ρ w (a.tmps.getD t undef) (e t)) → ObsOk cx.B F ρ w σ →
    o.wp cx.P a w (fun a' w' => ∃ v F', a' = a.put o.dst v ∧ RepS F' ρ w' v s ∧ Ext F w F' w') (fun _ _ _ => False)
def KRun (cx : Cx) (ops : Array Oper) (σ : Obs) : List Oper → Env → (Env → Prop) → Prop
  | [], e, Qe => Qe e
  | o :: l, e, Qe => DstOk cx.N o ∧ ((∃ s, GW ops o e true ∧ AOpK cx ops o e σ s ∧ KRun cx ops σ l (e.put o.dst s) Qe) ∨ (GW ops o e false ∧ KRun cx ops σ l (e.put o.dst (.d (.v undef))) Qe))

def KStep (cx : Cx) (ops : Array Oper) (σ : Obs) (o : Oper) (e : Env) (s : S) : Prop :=
  (GW ops o e true ∧ AOpK cx ops o e σ s) ∨ (GW ops o e false ∧ s = .d (.v undef))

def anyK (cx : Cx) (ops : Array Oper) (σ : Obs) (Qe : Env → Prop) : Nat → Array Bool → Env → Prop
  | 0, listed, e => Region.ready .any ops listed = [] ∧ Qe e
  | fuel + 1, listed, e => (Region.ready .any ops listed = [] → Qe e) ∧
      ∀ i ∈ Region.ready .any ops listed, ∀ o, ops[i]? = some o → ∃ s, KStep cx ops σ o e s ∧ anyK cx ops σ Qe fuel (listed.setIfInBounds i true) (e.put o.dst s)

end Go.Proofs.YtieccphckobhjaaDoor


namespace Go.Proofs.YtieccphckobhjaaDoor
open Go.RowKit
set_option linter.unusedVariables false

/-- What it is as data, while the own objects rest. -/
inductive Snap (σ : Obs) : S → D → Prop where
  | d (x : D) : Snap σ (.d x) x
  | any (s : S) : Snap σ s .any
  | le {s : S} {d d' : D} (h : Snap σ s d) (k : Le d d') : Snap σ s d'
  | row {id e size : Nat} {els : List (List D)} (h : (id, Ob.row e size els) ∈ σ) : Snap σ (.own id) (.sl els)
  | rowS {id e size : Nat} {els : List (List S)} {ds : List (List D)} (h : (id, Ob.rowS e size els) ∈ σ) (hl : els.length = ds.length) (hs : ∀ i (h1 : i < els.length) (h2 : i < ds.length), els[i].length = ds[i].length)
      (hr : ∀ i (h1 : i < els.length) (h2 : i < ds.length) j (h3 : j < els[i].length) (h4 : j < ds[i].length), Snap σ els[i][j] ds[i][j]) : Snap σ (.own id) (.sl ds)
  | val {id : Nat} {ss : List S} {ds : List D} (h : (id, Ob.val ss) ∈ σ) (hl : ss.length = ds.length) (hr : ∀ i (h1 : i < ss.length) (h2 : i < ds.length), Snap σ ss[i] ds[i]) : Snap σ (.own id) (.agg ds)
  | ptr {id off : Nat} {ss : List S} {ds : List D} (h : (id, Ob.cells ss) ∈ σ) (hl : off + ds.length ≤ ss.length) (hr : ∀ i (h1 : off + i < ss.length) (h2 : i < ds.length), Snap σ ss[off + i] ds[i]) : Snap σ (.ptr id off) (.fp ds)
  | ptrS {id e size k : Nat} {els : List (List S)} {ds : List D} (h : (id, Ob.rowS e size els) ∈ σ) (hk : k < els.length) (hl : els[k].length = ds.length) (hr : ∀ j (h1 : j < els[k].length) (h2 : j < ds.length), Snap σ els[k][j] ds[j]) : Snap σ (.ptr id (k * size)) (.fp ds)
  | clo {f : FuncId} {caps : List Cap} {ds : List D} (hl : caps.length = ds.length) (hr : ∀ i (h1 : i < caps.length) (h2 : i < ds.length), Snap σ caps[i].toS ds[i]) : Snap σ (.clo f caps) (.clo (.func f) ds)

theorem obS_row {B : Nat} {F : Nat → Prop} {ρ : Nat → Value} {w : World} {σ : Obs} (h : ObsOk B F ρ w σ) {id ee size : Nat} {els : List (List S)} (hm : (id, Ob.rowS ee size els) ∈ σ) (hne : 0 < els.length) :
    ∃ g cap, ∃ vs : Nat → Nat → Value, ρ id = .slice (some ⟨g, 0, none⟩) els.length cap ∧ blk (ρ id) = some g ∧ els.length ≤ cap ∧ cap ≤ 9223372036854775807 ∧ (∀ k j, k < els.length → j < size → w.cell? ⟨g, k * size + j, none⟩ = some (vs k j)) ∧
      (∀ k (hk : k < els.length), els[k].length = size) ∧ (∀ k (hk : k < els.length) j (hj : j < els[k].length), (vs k j).oneCell' = true ∧ RepS F ρ w (vs k j) els[k][j]) := by
  obtain ⟨xs, h1, h2, h3, _⟩ := h.ok _ hm
  dsimp only at h1
  rcases h1.2 with ⟨_, h4⟩ | ⟨g, cap, cur, h4, h5, h6, h7, h8, _⟩
  · omega
  · exact ⟨g, cap, xs, h4, by rw [h4]; rfl, h7, by unfold maxLen at h8; omega, fun k j hk hj => row_cell h1 h4 h6 hk hj, h2, h3⟩

theorem Snap.rep {B : Nat} {F : Nat → Prop} {ρ : Nat → Value} {w : World} {σ : Obs} (hσ : ObsOk B F ρ w σ) {s : S} {d : D} (h : Snap σ s d) : ∀ x, RepS F ρ w x s → Rep (endF F ρ σ) w x d := by
  induction h with
  | d y => exact fun x hx => (repS_d hx).mono (fun b hb => .inl hb) fun _ _ => rfl
  | any s => exact fun x _ => .any x
  | le h k ih => exact fun x hx => k _ _ _ (ih x hx)
  | row hm =>
    intro x hx
    cases hx
    exact ob_rep hσ hm
  | @rowS id e size els ds hm hl hs hr ih =>
    intro x hx
    cases hx
    by_cases hne : 0 < els.length
    · obtain ⟨g, cap, vs, h1, h2, h3, h4, h5, h6, h7⟩ := obS_row hσ hm hne
      rw [h1, hl]
      refine .sl ⟨g, 0, none⟩ cap size ds vs (by omega) h4 (fun _ => .inr ⟨_, hm, h2⟩) (fun i hi => by rw [← hs i (by omega) hi]; exact h6 i (by omega)) (fun i j hi hj => ?_) (fun i j hi hj => ?_) (fun i hi j hj => ?_)
      · rw [addr_add, Nat.zero_add]; exact h5 i j (by omega) hj
      · exact (h7 i (by omega) j (by rw [h6 i (by omega)]; exact hj)).1
      · exact ih i (by omega) hi j (by rw [hs i (by omega) hi]; exact hj) hj _ (h7 i (by omega) j (by rw [hs i (by omega) hi]; exact hj)).2
    · obtain ⟨xs, h1, _⟩ := hσ.ok _ hm
      dsimp only at h1
      have h0 : els.length = 0 := by omega
      have hds : ds = [] := List.eq_nil_of_length_eq_zero (by omega)
      subst hds
      rcases h1.2 with ⟨h4, _⟩ | ⟨g, cap, cur, h4, h5, h6, h7, h8, _⟩
      · rw [h4]; exact .nil
      · rw [h4, h0]
        exact .sl ⟨g, 0, none⟩ cap size [] (fun _ _ => undef) (by simp) (by unfold maxLen at h8; omega) (fun h => absurd h (by simp)) (fun i hi => absurd hi (by simp)) (fun i j hi => absurd hi (by simp)) (fun i j hi => absurd hi (by simp)) (fun i hi => absurd hi (by simp))
  | @val id ss ds hm hl hr ih =>
    intro x hx
    cases hx
    obtain ⟨cs, h1, h2, h3⟩ := hσ.ok _ hm
    dsimp only at h1
    rw [h1]
    exact .agg cs ds (by omega) (fun i hi => (h3 i hi (by omega)).1) (fun i hi hi2 => ih i (by omega) hi2 _ (h3 i hi (by omega)).2)
  | @ptr id off ss ds hm hl hr ih =>
    intro x hx
    obtain ⟨g, ty, cs, h1, h2, h3, h4, h5, h6⟩ := hσ.ok _ hm
    dsimp only at h1
    have hv := ptr_at hx (g := g) (by rw [h1]; rfl)
    rw [hv]
    refine .fp ⟨g, off, none⟩ ds (fun j => cs.getD (off + j) undef) (.inr ⟨_, hm, by rw [h1]; rfl⟩) (fun j hj => ?_) (fun j hj => ?_) (fun j hj => ?_)
    · have hjc : off + j < cs.length := by omega
      rw [addr_add, cell_of_row w g (off + j) cs.toArray ty (0, 0) h4]
      simp [hjc]
    · have hjc : off + j < cs.length := by omega
      have := (h6 (off + j) hjc (by omega)).1
      simpa [hjc] using this
    · have hjc : off + j < cs.length := by omega
      have := ih j (by omega) hj _ (h6 (off + j) hjc (by omega)).2
      simpa [hjc] using this
  | @ptrS id e size k els ds hm hk hl hr ih =>
    intro x hx
    obtain ⟨g, cap, vs, h1, h2, h3, h4, h5, h6, h7⟩ := obS_row hσ hm (by omega)
    have hv := ptr_at hx (g := g) h2
    rw [hv]
    refine .fp ⟨g, k * size, none⟩ ds (fun j => vs k j) (.inr ⟨_, hm, h2⟩) (fun j hj => ?_) (fun j hj => ?_) (fun j hj => ?_)
    · rw [addr_add]
      exact h5 k j hk (by rw [← h6 k hk]; omega)
    · exact (h7 k hk j (by omega)).1
    · exact ih j (by omega) hj _ (h7 k hk j (by omega)).2
  | @clo f caps ds hl hr ih =>
    intro x hx
    cases hx with
    | clo _ cs _ hcs =>
      have h1 := hcs.toS
      have h2 : cs.length = caps.length := by simpa using h1.1
      refine .clo (.func f) cs ds (by omega) fun i hi hi2 => ih i (by omega) hi2 _ ?_
      have h3 := h1.2 i hi (by simp; omega)
      rw [List.getElem_map] at h3
      exact h3

/-- Data that holds no memory. -/
inductive Plain : D → Prop where
  | v (x : Value) : Plain (.v x)
  | any : Plain .any
  | agg (ds : List D) (h : ∀ d ∈ ds, Plain d) : Plain (.agg ds)
  | tup (ds : List D) (h : ∀ d ∈ ds, Plain d) : Plain (.tup ds)
theorem Plain.rep {d : D} (h : Plain d) {F F' : Nat → Prop} {w w' : World} : ∀ x, Rep F w x d → Rep F' w' x d := by
  induction h with
  | v y => intro x hx; cases hx; exact .v _
  | any => exact fun x _ => .any x
  | agg ds h ih =>
    intro x hx
    cases hx with
    | agg cs _ hl hone hr => exact .agg cs ds hl hone fun i h1 h2 => ih _ (List.getElem_mem h2) _ (hr i h1 h2)
  | tup ds h ih =>
    intro x hx
    cases hx with
    | tup cs _ hl hr => exact .tup cs ds hl fun i h1 h2 => ih _ (List.getElem_mem h2) _ (hr i h1 h2)

def SnapArgs (e : Env) (σ : Obs) : List Operand → List D → Prop
  | [], [] => True
  | x :: xs, d :: ds => Snap σ (e.ev x) d ∧ SnapArgs e σ xs ds
  | _, _ => False
theorem SnapArgs.nil {e : Env} {σ : Obs} : SnapArgs e σ [] [] := trivial
theorem SnapArgs.cons {e : Env} {σ : Obs} {x : Operand} {d : D} {xs : List Operand} {ds : List D} {s : S} (hx : e.ev x = s) (h : Snap σ s d) (k : SnapArgs e σ xs ds) : SnapArgs e σ (x :: xs) (d :: ds) := ⟨hx ▸ h, k⟩
theorem SnapArgs.rep {B : Nat} {e : Env} {σ : Obs} {F : Nat → Prop} {ρ : Nat → Value} {w : World} {a : Act} (h : ObsOk B F ρ w σ) : ∀ {xs : List Operand} {ds : List D}, SnapArgs e σ xs ds → (∀ x ∈ xs, RepS F ρ w (a.eval x) (e.ev x)) → RepL (endF F ρ σ) w (xs.map a.eval) ds
  | [], [], _, _ => RepL.nil
  | x :: xs, d :: ds, hd, ha => RepL.cons (hd.1.rep h _ (ha x (by simp))) (SnapArgs.rep h hd.2 fun y hy => ha y (List.mem_cons_of_mem _ hy))
  | [], _ :: _, h, _ => h.elim
  | _ :: _, [], h, _ => h.elim
section
variable {P : Program} {B : Nat} {ops : Array Oper} {o : Oper} {e : Env} {σ : Obs}
/-- A call that only reads, of whatever is made of own objects. -/
theorem AOp.callSnap {f : FuncId} {xs : List Operand} {ts : Array TypeId} {ds : List D} {d : D}
    (ho : o.op = .call { callee := .value (.func f), args := xs.toArray, argTypes := ts }) (ha : SnapArgs e σ xs ds) (h : ACall P f ds d) (hp : Plain d) : AOp P B ops o e σ (.d d) := by
  intro F ρ w a hF hr hσ
  have hr' : ∀ y ∈ o.op.operands.toList, RepS F ρ w (a.eval y) (e.ev y) := fun y hy => ev_rep fun t ht => hr t (looks_op (by rw [← ht]; exact hy))
  have h1 := ha.rep (a := a) hσ fun x hx => hr' x (by rw [ho]; simp [Op.operands, Call.operands, hx])
  have hF2 : ∀ b, endF F ρ σ b → b < w.heap.size := by
    rintro b (hb | ⟨p, hp, hb⟩)
    · exact hF b hb
    · exact ((hσ.ok p hp).blk_lt hb).2
  have h2 := h.2 (endF F ρ σ) w _ hF2 h1
  have h3 := h.1 (xs.map a.eval).toArray w
  have hx : (execOp a.eval o).run P w = .ok (.enter f (xs.map a.eval).toArray) w := by
    unfold execOp
    simp only [ho, resolve, Deferred.ofValue, Act.eval, invoke, Sem.run_bind, Sem.run_pure, Result.andThen_ok]
    simpa using h3
  unfold Oper.wp
  rw [hx]
  refine h2.mono fun _ w' ⟨v, F', he, hv, hE⟩ => ?_
  subst he
  exact ⟨v, F, rfl, .d (hp.rep _ hv), Ext.of_below hF hE.below⟩

/-- One cell of a row of rows. -/
theorem AOp.loadRowS {t : TypeId} {x : Operand} {id off ee size : Nat} {els : List (List S)} {ss : List S} {s : S} (ho : o.op = .load t x) (hT : Scal P t) (hx : e.ev x = .ptr id off) (hm : (id, Ob.rowS ee size els) ∈ σ) (k j : Nat) (hoff : off = k * size + j) (hk : els[k]? = some ss) (hd : ss[j]? = some s) :
    AOp P B ops o e σ s :=
  .value fun F ρ w a hF hr hσ => by
  have h1 := hr x (by rw [ho]; simp [Op.operands])
  rw [hx] at h1
  have hlt : k < els.length := (List.getElem?_eq_some_iff.1 hk).1
  have hde : els[k] = ss := (List.getElem?_eq_some_iff.1 hk).2
  have hjl : j < ss.length := (List.getElem?_eq_some_iff.1 hd).1
  have hdd : ss[j] = s := (List.getElem?_eq_some_iff.1 hd).2
  obtain ⟨g, cap, vs, _, h2, _, _, h5, h6, h7⟩ := obS_row hσ hm (by omega)
  have hv := ptr_at h1 (g := g) h2
  have hsz := h6 k hlt
  rw [hde] at hsz
  have hc := h5 k j hlt (by omega)
  have hrep := (h7 k hlt j (by rw [hde]; exact hjl)).2
  refine ⟨vs k j, F, w, ?_, ?_, Ext.refl hF⟩
  · unfold execOp
    simp only [ho, hv, hoff, Instr.loadAt, Instr.sureAddr, loadVar, Sem.run_bind, Sem.run_pure, Result.andThen_ok, hT w, Bool.false_eq_true, if_false, run_load, hc]
  · simp only [hde, hdd] at hrep
    exact hrep
/-- What of it is data. -/
def S.weak : S → D
  | .d x => x
  | _ => .any
def Ob.weak : Ob → Ob
  | .rowS e size els => .row e size (els.map fun ss => ss.map S.weak)
  | o => o
def Obs.weak : Obs → Obs
  | [] => []
  | p :: l => (p.1, p.2.weak) :: Obs.weak l
theorem Obs.mem_weak : ∀ {σ : Obs} {p : Nat × Ob}, p ∈ Obs.weak σ → ∃ q ∈ σ, p = (q.1, q.2.weak)
  | [], _, h => by cases h
  | x :: l, p, h => by
    unfold Obs.weak at h
    cases h with
    | head => exact ⟨x, by simp, rfl⟩
    | tail _ h => obtain ⟨q, hq, he⟩ := Obs.mem_weak h; exact ⟨q, List.mem_cons_of_mem _ hq, he⟩
theorem Obs.weak_mem : ∀ {σ : Obs} {p : Nat × Ob}, p ∈ σ → (p.1, p.2.weak) ∈ Obs.weak σ
  | [], _, h => by cases h
  | x :: l, p, h => by
    unfold Obs.weak
    cases h with
    | head => exact .head _
    | tail _ h => exact .tail _ (Obs.weak_mem h)
theorem ObOk.weak {B : Nat} {F : Nat → Prop} {ρ : Nat → Value} {w : World} {id : Nat} {o : Ob} (h : ObOk B F ρ w id o) : ObOk B F ρ w id o.weak := by
  cases o with
  | rowS e size els =>
    obtain ⟨xs, h1, h2, h3, h4⟩ := h
    refine ⟨xs, by rw [List.length_map]; exact h1, fun k hk => by rw [List.getElem_map, List.length_map]; exact h2 k (by simpa using hk), fun k hk j hj => ?_, h4⟩
    have hk' : k < els.length := by simpa using hk
    have hj' : j < els[k].length := by simpa using hj
    simp only [List.getElem_map]
    refine ⟨(h3 k hk' j hj').1, ?_⟩
    have h5 := (h3 k hk' j hj').2
    cases hs : els[k][j] with
    | d x => rw [hs] at h5; exact repS_d h5
    | own i => exact .any _
    | ptr i off => exact .any _
    | clo f caps => exact .any _
  | row e size els => exact h
  | cells ss => exact h
  | map M => exact h
  | bts l => exact h
  | val ss => exact h
theorem ObsOk.weak {B : Nat} {F : Nat → Prop} {ρ : Nat → Value} {w : World} {σ : Obs} (h : ObsOk B F ρ w σ) : ObsOk B F ρ w (Obs.weak σ) := by
  refine ⟨fun p hp => ?_, fun p hp q hq => ?_, fun p hp q hq he => ?_⟩
  · obtain ⟨q, hq, rfl⟩ := Obs.mem_weak hp
    exact (h.ok q hq).weak
  · obtain ⟨p', hp', rfl⟩ := Obs.mem_weak hp
    obtain ⟨q', hq', rfl⟩ := Obs.mem_weak hq
    exact h.apart p' hp' q' hq'
  · obtain ⟨p', hp', rfl⟩ := Obs.mem_weak hp
    obtain ⟨q', hq', rfl⟩ := Obs.mem_weak hq
    rw [h.uniq p' hp' q' hq' he]
/-- What only reads data of a row of rows. -/
theorem AOp.weak {s : S} (h : AOp P B ops o e (Obs.weak σ) s) : AOp P B ops o e σ s := fun F ρ w a hF hr hσ => h F ρ w a hF hr hσ.weak
end
section
variable {cx : Cx} {ops : Array Oper} {o : Oper} {rest : List Oper} {e : Env} {σ : Obs} {Q : Post}
/-- Own objects, told anew. -/
theorem AWP.obs {c : Code} {σ' : Obs} (h : ∀ p ∈ σ', p ∈ σ) (k : AWP cx c e σ' Q) : AWP cx c e σ Q := fun a w ⟨F, ρ, hr⟩ => k a w ⟨F, ρ, hr.size, hr.defers, hr.lt, hr.base, hr.new, hr.below, hr.hB, hr.env, hr.obs.sub h, hr.up, fun p hp => hr.kown p (h p hp), hr.fixed⟩
theorem AOps.obs {σ' : Obs} (h : ∀ p ∈ σ', p ∈ σ) (k : AOps cx ops rest e σ' Q) : AOps cx ops rest e σ Q := fun a w ⟨F, ρ, hr⟩ => k a w ⟨F, ρ, hr.size, hr.defers, hr.lt, hr.base, hr.new, hr.below, hr.hB, hr.env, hr.obs.sub h, hr.up, fun p hp => hr.kown p (h p hp), hr.fixed⟩
theorem AWP.obsEq {c : Code} (σ' : Obs) (h : σ = σ') (k : AWP cx c e σ' Q) : AWP cx c e σ Q := h ▸ k
theorem AllIn.of {σ : Obs} : ∀ {l : Obs}, (∀ p ∈ l, p ∈ σ) → AllIn σ l
  | [], _ => trivial
  | x :: l, h => ⟨h x (by simp), AllIn.of fun p hp => h p (List.mem_cons_of_mem _ hp)⟩
end
end Go.Proofs.YtieccphckobhjaaDoor


namespace Go.Proofs.YtieccphckobhjaaDoor
open Go.RowKit
set_option linter.unusedVariables false

/-- One cell's worth. -/
def OneS (σ : Obs) (s : S) : Prop := (∃ x : D, s = .d x ∧ x.one = true ∧ x.parts = [x]) ∨ ∃ i ee size els, s = .own i ∧ (i, Ob.row ee size els) ∈ σ
theorem OneS.own {σ : Obs} {i ee size : Nat} {els : List (List D)} (h : (i, Ob.row ee size els) ∈ σ) : OneS σ (.own i) := .inr ⟨i, ee, size, els, rfl, h⟩
theorem OneS.cell {σ : Obs} {s : S} (h : OneS σ s) {B : Nat} {F : Nat → Prop} {ρ : Nat → Value} {w : World} (hσ : ObsOk B F ρ w σ) {u : Value} (hu : RepS F ρ w u s) : ∃ c, u.cells = #[c] ∧ c.oneCell' = true ∧ RepS F ρ w c s := by
  rcases h with ⟨x, rfl, h1, h2⟩ | ⟨i, ee, size, els, rfl, hm⟩
  · obtain ⟨h3, h4⟩ := parts_rep (repS_d hu) h1
    have hl := h3.1
    rw [h2] at hl
    have hs : u.cells.size = 1 := by simpa using hl
    obtain ⟨c, hc⟩ : ∃ c, u.cells = #[c] := by
      have : u.cells.toList.length = 1 := by simpa using hl
      obtain ⟨c, hc⟩ := List.length_eq_one_iff.1 this
      exact ⟨c, by rw [← Array.toList_inj]; exact hc⟩
    refine ⟨c, hc, h4 c (by rw [hc]; simp), .d ?_⟩
    have := h3.2 0 (by rw [hc]; simp) (by rw [h2]; simp)
    simp only [hc, h2] at this
    simpa using this
  · obtain ⟨xs, hown, _⟩ := hσ.ok _ hm
    dsimp only at hown
    have hv : u = ρ i := by cases hu; rfl
    refine ⟨ρ i, ?_, ?_, .own i⟩
    · rw [hv]; rcases hown.2 with ⟨h3, _⟩ | ⟨g', cap, cur, h3, _⟩ <;> rw [h3] <;> rfl
    · rcases hown.2 with ⟨h3, _⟩ | ⟨g', cap, cur, h3, _⟩ <;> rw [h3] <;> rfl
section
variable {cx : Cx} {ops : Array Oper} {o : Oper} {rest : List Oper} {e : Env} {σ : Obs} {Q : Post}
theorem EOp.storeRowS {t id off ee size : Nat} {x y : Operand} {s : S} {els : List (List S)} {ss : List S} (ht : o.dst = none) (ho : o.op = .store t x y) (hs : ∀ w, (sizeOf t).run cx.P w = .ok 1 w) (hx : e.ev x = .ptr id off) (hm : (id, Ob.rowS ee size els) ∈ σ)
    (hy : e.ev y = s) (h1 : OneS σ s) (k j : Nat) (hoff : off = k * size + j) (hd : els[k]? = some ss) (hj : j < size) :
    EOp cx ops o e σ (Obs.upd id (.rowS ee size (els.set k (ss.set j s))) σ) := by
  intro F ρ a w e0 hr ha
  have hop : ∀ y ∈ o.op.operands.toList, RepS F ρ w (a.eval y) (e.ev y) := fun y hy => ev_rep fun t ht => ha t (looks_op (by rw [← ht]; exact hy))
  have r1 := hop x (by rw [ho]; simp [Op.operands])
  have r2 := hop y (by rw [ho]; simp [Op.operands])
  rw [hx] at r1
  rw [hy] at r2
  obtain ⟨c, hc, hone, hcr⟩ := h1.cell hr.obs r2
  have hlt : k < els.length := (List.getElem?_eq_some_iff.1 hd).1
  have hde : els[k] = ss := (List.getElem?_eq_some_iff.1 hd).2
  obtain ⟨xs, hown, hlen, hrep, hnF⟩ := hr.obs.ok _ hm
  dsimp only at hown hnF
  have hown' : w.ownsRow cx.B ee size (ρ id) els.length (flat xs els.length size) := hown
  rcases hown'.2 with ⟨_, h0⟩ | ⟨g, cap, cur, hv, hB, hh, hn, hmx, hcs, htk⟩
  · omega
  have hblk : blk (ρ id) = some g := by rw [hv]; rfl
  have hxv := ptr_at r1 hblk
  have hle : k * size + size ≤ els.length * size := by rw [← Nat.succ_mul]; exact Nat.mul_le_mul_right _ hlt
  have hcap : els.length * size ≤ cap * size := Nat.mul_le_mul_right _ hn
  obtain ⟨w', h5, h6, h7⟩ := storeVar_run (P := cx.P) (off := off) (v := a.eval y) (size := 1) hs (by rw [hc]; rfl) (cur := cur.toList) (by simpa using hh) (by rw [Array.length_toList]; omega) (by rw [hc]; intro u hu; simp at hu; rw [hu]; exact hone)
  unfold Oper.wp execOp
  simp only [ho, Instr.storeAt, hxv, Instr.sureAddr, Sem.run_bind, Sem.run_pure, Result.andThen_ok, h5]
  refine ⟨by rw [ht]; rfl, fun e2 hr2 => ⟨F, ρ, ?_⟩⟩
  have keep : ∀ {u : Value} {s : S}, RepS F ρ w u s → RepS F ρ w' u s := fun h => h.turn hr.lt (fun g' hg' => by rw [← Option.some.inj hg']; exact hnF g hblk) h6 (fun b hb => hb)
  rw [hc] at h7
  refine hr2.writeOb hblk hm hB (hnF g hblk) h6 ⟨fun i p => if i = k ∧ j ≤ p ∧ p < j + [c].length then [c].getD (p - j) undef else xs i p, ?_, fun i hi => ?_, fun i hi p hp => ?_, hnF⟩
  · rw [List.length_set]
    have hst := flat_store xs els.length size k j [c] hlt (by simp; omega)
    refine ⟨flat_length _ _ _, .inr ⟨g, cap, _, hv, hB, h7, hn, hmx, ?_, ?_⟩⟩
    · simp only [List.size_toArray, List.length_append, List.length_take, List.length_drop, Array.length_toList, hcs, List.length_cons, List.length_nil]
      omega
    · refine Eq.trans ?_ hst
      rw [← htk]
      have hcl : cur.toList.length = cap * size := by rw [Array.length_toList]; exact hcs
      rw [hoff]
      apply List.ext_getElem?
      intro p
      by_cases hp : p < els.length * size
      · rw [List.getElem?_take, if_pos hp, get3, get3]
        simp only [List.length_take, hcl, List.getElem?_take, List.getElem?_drop, List.length_cons, List.length_nil]
        rw [Nat.min_eq_left (show k * size + j ≤ cap * size by omega), Nat.min_eq_left (show k * size + j ≤ min (els.length * size) (cap * size) by omega)]
        by_cases c1 : p < k * size + j
        · simp [c1, hp]
        · by_cases c2 : p < k * size + j + (0 + 1)
          · simp only [c1, c2, if_false, if_true]
          · simp only [c1, c2, if_false]
            rw [if_pos (by omega)]
      · rw [List.getElem?_eq_none (by rw [List.length_take]; omega), List.getElem?_eq_none (by
          simp only [List.length_append, List.length_take, List.length_drop, hcl, List.length_cons, List.length_nil]
          omega)]
  · rw [List.getElem_set]
    split
    · rw [List.length_set]
      have := hlen k hlt
      rw [hde] at this
      exact this
    · exact hlen i _
  · rw [List.length_set] at hi
    have hk2 := hlen k hlt
    rw [hde] at hk2
    simp only [List.getElem_set] at hp ⊢
    by_cases hik : k = i
    · subst hik
      simp only [if_true, List.length_set] at hp ⊢
      by_cases c1 : p = j
      · subst c1
        rw [if_pos ⟨trivial, Nat.le_refl _, by simp⟩]
        refine ⟨by simpa using hone, ?_⟩
        rw [List.getElem_set_self]
        simpa using keep hcr
      · rw [if_neg (by rintro ⟨_, h8, h9⟩; simp at h9; omega)]
        have h10 := hrep k hlt p (by rw [hde]; exact hp)
        simp only [hde] at h10
        rw [List.getElem_set_ne (fun h => c1 h.symm)]
        exact ⟨h10.1, keep h10.2⟩
    · simp only [hik, if_false] at hp ⊢
      rw [if_neg (by rintro ⟨h8, _⟩; exact hik h8.symm)]
      exact ⟨(hrep i hi p hp).1, keep (hrep i hi p hp).2⟩
/-- A row is a row of whatever. -/
theorem ObOk.toS {B : Nat} {F : Nat → Prop} {ρ : Nat → Value} {w : World} {id e size : Nat} {els : List (List D)} (h : ObOk B F ρ w id (.row e size els)) : ObOk B F ρ w id (.rowS e size (els.map fun ds => ds.map S.d)) := by
  obtain ⟨xs, h1, h2, h3, h4⟩ := h
  refine ⟨xs, by rw [List.length_map]; exact h1, fun k hk => by rw [List.getElem_map, List.length_map]; exact h2 k (by simpa using hk), fun k hk j hj => ?_, h4⟩
  have hk' : k < els.length := by simpa using hk
  have hj' : j < els[k].length := by simpa using hj
  simp only [List.getElem_map]
  exact ⟨(h3 k hk' j hj').1, .d (h3 k hk' j hj').2⟩
theorem R0.reOb {F : Nat → Prop} {ρ : Nat → Value} {a : Act} {w : World} (h : R0 cx F ρ e σ a w) {id : Nat} {o o' : Ob} (hm : (id, o) ∈ σ) (ho : ObOk cx.B F ρ w id o') : R0 cx F ρ e (Obs.upd id o' σ) a w := by
  refine ⟨h.size, h.defers, h.lt, h.base, h.new, h.below, h.hB, h.env, ⟨fun p hp => ?_, fun p hp q hq hne => ?_, fun p hp q hq he => ?_⟩, h.up, fun p hp => ?_, h.fixed⟩
  · rcases Obs.mem_upd hp with ⟨rfl, _⟩ | ⟨h1, _⟩
    · exact ho
    · exact h.obs.ok p h1
  · rcases Obs.mem_upd hp with ⟨rfl, _⟩ | ⟨h1, _⟩
    · rcases Obs.mem_upd hq with ⟨rfl, _⟩ | ⟨h2, _⟩
      · exact absurd rfl hne
      · exact h.obs.apart (id, o) hm q h2 hne
    · rcases Obs.mem_upd hq with ⟨rfl, _⟩ | ⟨h2, _⟩
      · exact h.obs.apart p h1 (id, o) hm hne
      · exact h.obs.apart p h1 q h2 hne
  · rcases Obs.mem_upd hp with ⟨rfl, _⟩ | ⟨h1, h3⟩
    · rcases Obs.mem_upd hq with ⟨rfl, _⟩ | ⟨h2, h4⟩
      · rfl
      · exact absurd he.symm h4
    · rcases Obs.mem_upd hq with ⟨rfl, _⟩ | ⟨h2, _⟩
      · exact absurd he h3
      · exact h.obs.uniq p h1 q h2 he
  · rcases Obs.mem_upd hp with ⟨rfl, _⟩ | ⟨h1, _⟩
    · exact h.kown (id, o) hm
    · exact h.kown p h1
theorem AWP.rowToS {c : Code} (id : Nat) {ee size : Nat} {els : List (List D)} (hm : (id, Ob.row ee size els) ∈ σ) (k : AWP cx c e (Obs.upd id (.rowS ee size (els.map fun ds => ds.map S.d)) σ) Q) : AWP cx c e σ Q :=
  fun a w ⟨F, ρ, hr⟩ => k a w ⟨F, ρ, hr.reOb hm (hr.obs.ok _ hm).toS⟩
/-- A struct with own parts, loaded out of own cells. -/
theorem AOps.loadVal {t dst : Nat} {x : Operand} {cid off size : Nat} {ss : List S} (id : Nat) (hg : o.guard = none) (ht : o.dst = some dst) (hdn : Nat.blt dst cx.N = true) (ho : o.op = .load t x) (hT : AggT cx.P t size) (hx : e.ev x = .ptr cid off) (hm : (cid, Ob.cells ss) ∈ σ) (hl : off + size ≤ ss.length) (hid : Obs.fresh id σ = true)
    (k : AOps cx ops rest ((e.kill id).put (some dst) (.own id)) ((id, .val (((ss.drop off).take size).map (S.kill id))) :: Obs.kill id σ) Q) (hfx : cx.free id = true := by rfl) : AOps cx ops (o :: rest) e σ Q := by
  intro a w ⟨F, ρ, hr⟩
  have h1 := ev_rep (e := e) (x := x) (a := a) (fun t _ => hr.env t)
  rw [hx] at h1
  obtain ⟨g, ty, cs, h2, h3, h4, h5, h6, h7⟩ := hr.obs.ok _ hm
  dsimp only at h2
  have hv := ptr_at h1 (g := g) (by rw [h2]; rfl)
  have hl2 : ((cs.drop off).take size).length = size := by rw [List.length_take, List.length_drop]; omega
  have hcells : (loadCells ⟨g, off, none⟩ ((cs.drop off).take size).length).run cx.P w = .ok ((cs.drop off).take size).toArray w := run_loadCells_list w _ _ (fun j v hj => by
    have hlt := (List.getElem?_eq_some_iff.1 hj).1
    rw [hl2] at hlt
    rw [addr_add, cell_of_row w g (off + j) cs.toArray ty (0, 0) h5, ← hj]
    simp [hlt])
  rw [hl2] at hcells
  refine wpList_plain hg fun K hK => ?_
  unfold Oper.wp execOp
  simp only [ho, hv, Instr.loadAt, Instr.sureAddr, loadVar, Sem.run_bind, Sem.run_pure, Result.andThen_ok, hT.agg w, hT.size w, if_true, hcells]
  obtain ⟨ρ', h8⟩ := hr.newObF (id := id) (dst := dst) (ob := .val (((ss.drop off).take size).map (S.kill id))) (v := .agg ((cs.drop off).take size).toArray) (Obs.fresh_spec hid) (by simpa [Nat.blt_eq] using hdn) (Ext.refl hr.lt) (by
    refine ⟨(cs.drop off).take size, by simp, by rw [hl2, List.length_map, List.length_take, List.length_drop]; omega, fun j hj hj' => ?_⟩
    have hj1 : j < size := by rw [hl2] at hj; exact hj
    simp only [List.getElem_map, List.getElem_take, List.getElem_drop]
    exact ⟨(h7 (off + j) (by omega) (by omega)).1, (h7 (off + j) (by omega) (by omega)).2.kill id (fun i hi => by simp [hi])⟩) (fun g hg => by simp [blk] at hg) hfx
  have := k _ _ ⟨F, ρ', h8⟩
  rw [← ht] at this
  exact hK _ _ this
end
/-! A family of own rows: the numbers b + k, b + k + 1, .. -/
def fam (e size : Nat) : Nat → List (List (List D)) → Obs
  | _, [] => []
  | b, x :: l => (b, .row e size x) :: fam e size (b + 1) l
theorem fam_get {e size : Nat} : ∀ {b : Nat} {l : List (List (List D))} {k : Nat} {x : List (List D)}, l[k]? = some x → (b + k, Ob.row e size x) ∈ fam e size b l
  | b, y :: l, 0, x, h => by
    have : y = x := by simpa using h
    subst this
    exact .head _
  | b, y :: l, k + 1, x, h => by
    have := fam_get (e := e) (size := size) (b := b + 1) (l := l) (k := k) (x := x) (by simpa using h)
    rw [show b + 1 + k = b + (k + 1) by omega] at this
    exact .tail _ this
theorem fam_mem {e size : Nat} : ∀ {b : Nat} {l : List (List (List D))} {p : Nat × Ob}, p ∈ fam e size b l → ∃ k x, l[k]? = some x ∧ p = (b + k, .row e size x)
  | b, y :: l, p, h => by
    cases h with
    | head => exact ⟨0, y, rfl, rfl⟩
    | tail _ h =>
      obtain ⟨k, x, h1, h2⟩ := fam_mem h
      exact ⟨k + 1, x, by simpa using h1, by rw [h2, show b + 1 + k = b + (k + 1) by omega]⟩
theorem fam_kill {e size id : Nat} : ∀ {b : Nat} {l : List (List (List D))}, Obs.kill id (fam e size b l) = fam e size b l
  | _, [] => rfl
  | b, y :: l => by unfold fam Obs.kill; rw [fam_kill]; rfl
theorem fam_upd_low {e size id : Nat} {o : Ob} : ∀ {b : Nat} {l : List (List (List D))}, id < b → Obs.upd id o (fam e size b l) = fam e size b l
  | _, [], _ => rfl
  | b, y :: l, h => by
    unfold fam Obs.upd
    have : Nat.beq b id = false := by rw [Bool.eq_false_iff]; intro hh; have := Nat.eq_of_beq_eq_true hh; omega
    dsimp only
    rw [this, fam_upd_low (by omega)]
theorem fam_fresh {e size id : Nat} : ∀ {b : Nat} {l : List (List (List D))}, id < b → Obs.fresh id (fam e size b l) = true
  | _, [], _ => rfl
  | b, y :: l, h => by
    unfold fam Obs.fresh
    have h2 := fam_fresh (e := e) (size := size) (id := id) (b := b + 1) (l := l) (by omega)
    have : Nat.beq b id = false := by rw [Bool.eq_false_iff]; intro hh; have := Nat.eq_of_beq_eq_true hh; omega
    simp [h2, this]
end Go.Proofs.YtieccphckobhjaaDoor


namespace Go.Proofs.YtieccphckobhjaaDoor
open Go.RowKit Go.Shelf
set_option linter.unusedVariables false

theorem setCells_turn (g : Nat) : ∀ (vs : List Value) (o : Nat) (w : World), Turn w (w.setCells g o vs) (some g)
  | [], _, _ => ⟨rfl, rfl, rfl, Nat.le_refl _, fun _ _ _ => rfl⟩
  | v :: vs, o, w => (setCell_turn w g o v).trans (setCells_turn g vs (o + 1) _)
theorem setCells_heap {g : Nat} {e : TypeId} : ∀ (vs : List Value) (o : Nat) (w : World) (cur : List Value), w.heap[g]? = some (.cells cur.toArray e (0, 0)) → o + vs.length ≤ cur.length →
    (w.setCells g o vs).heap[g]? = some (.cells (cur.take o ++ vs ++ cur.drop (o + vs.length)).toArray e (0, 0))
  | [], o, w, cur, h, _ => by simpa [World.setCells] using h
  | v :: vs, o, w, cur, h, hl => by
    simp only [List.length_cons] at hl
    have hset : (w.setCell ⟨g, o, none⟩ v).heap[g]? = some (.cells (cur.set o v).toArray e (0, 0)) := by
      unfold World.setCell
      simp [Array.getElem?_modify, h]
    rw [World.setCells, setCells_heap vs (o + 1) _ _ hset (by simp; omega)]
    congr 3
    have hn : o < cur.length := by omega
    apply List.ext_getElem?
    intro k
    rw [get3, get3]
    simp only [List.length_take, List.length_set, List.length_cons, Nat.min_eq_left (show o + 1 ≤ cur.length by omega), Nat.min_eq_left (show o ≤ cur.length by omega)]
    by_cases k1 : k < o
    · rw [if_pos (by omega), if_pos k1, List.getElem?_take, List.getElem?_take, if_pos (by omega), if_pos k1, List.getElem?_set, if_neg (by omega)]
    · by_cases k2 : k = o
      · subst k2
        rw [if_pos (by omega), if_neg (by omega), if_pos (by omega), List.getElem?_take, if_pos (by omega), List.getElem?_set, if_pos rfl, if_pos hn, Nat.sub_self]
        rfl
      · rw [if_neg (show ¬ k < o + 1 by omega), if_neg k1]
        by_cases k3 : k < o + 1 + vs.length
        · rw [if_pos k3, if_pos (by omega), show k - o = (k - (o + 1)) + 1 by omega, List.getElem?_cons_succ]
        · rw [if_neg k3, if_neg (by omega), List.getElem?_drop, List.getElem?_drop, List.getElem?_set, if_neg (by omega)]
          congr 1
          omega

/-- What Insert does with an own row. -/
structure InsEnd (B : Nat) (e : TypeId) (w : World) (v : Value) (n : Nat) (ys : List Value) (v' : Value) (w' : World) : Prop where
  own : w'.ownsRow B e 1 v' n ys
  turn : Turn w w' (blk v)
  new : ∀ g, blk v' = some g → blk v = some g ∨ w.heap.size ≤ g

theorem drew_turn (w : World) (row : Option Nat) : Turn w w.drew row := ⟨rfl, rfl, rfl, Nat.le_refl _, fun _ _ _ => rfl⟩
theorem alloc_turn (w : World) (o : Obj) (row : Option Nat) : Turn w (w.alloc o) row :=
  have h := (Below.refl w.heap.size w).alloc (Nat.le_refl _) o
  ⟨h.os, h.tape, h.output, h.size, fun k hk _ => h.block k hk⟩
/-- A block that was not there: the world as it was is what counts. -/
theorem Turn.behind {w a b : World} {g : Nat} {row : Option Nat} (h : Turn w a row) (hg : w.heap.size ≤ g) (k : Turn a b (some g)) : Turn w b row :=
  ⟨k.os.trans h.os, k.tape.trans h.tape, k.output.trans h.output, Nat.le_trans h.size k.size, fun i hi hne => (k.block i (Nat.lt_of_lt_of_le hi h.size) (fun e => by have := Option.some.inj e; omega)).trans (h.block i hi hne)⟩

theorem alloc_at (w : World) (o : Obj) : (w.alloc o).heap[w.heap.size]? = some o := (MapKept.heap_alloc w o).1

end Go.Proofs.YtieccphckobhjaaDoor


namespace Go.Proofs.YtieccphckobhjaaDoor
open Go.RowKit
set_option linter.unusedVariables false

/-- From k on each one waits for all before it but for the first b. -/
def Region.chain1B (ops : Array Oper) (b k : Nat) : Bool := Region.downB ops && Nat.ble k ops.size && Nat.ble b k && (List.range (ops.size - 1)).all fun j =>
  Nat.blt j b || (List.range ops.size).any fun m => Nat.blt j m && (Nat.ble m k || Nat.ble m (j + 1)) && Region.edge ops m j
structure Chain1 (ops : Array Oper) (b k : Nat) : Prop where
  down : Region.downB ops = true
  le : k ≤ ops.size
  bk : b ≤ k
  next : ∀ j, b ≤ j → j < ops.size - 1 → ∃ m, j < m ∧ (m ≤ k ∨ m ≤ j + 1) ∧ Region.edge ops m j = true
theorem Chain1.of {ops : Array Oper} {b k : Nat} (h : Region.chain1B ops b k = true) : Chain1 ops b k := by
  unfold Region.chain1B at h
  simp only [Bool.and_eq_true] at h
  obtain ⟨⟨⟨h1, h2⟩, h5⟩, h3⟩ := h
  refine ⟨h1, Nat.le_of_ble_eq_true h2, Nat.le_of_ble_eq_true h5, fun j hb hj => ?_⟩
  have h4 := List.all_eq_true.1 h3 j (List.mem_range.2 hj)
  rw [Bool.or_eq_true] at h4
  rcases h4 with h4 | h4
  · rw [Nat.blt_eq] at h4; omega
  · obtain ⟨m, _, hm⟩ := List.any_eq_true.1 h4
    simp only [Bool.and_eq_true, Bool.or_eq_true, Nat.blt_eq] at hm
    exact ⟨m, hm.1.1, hm.1.2.imp Nat.le_of_ble_eq_true Nat.le_of_ble_eq_true, hm.2⟩
theorem Chain1.before {ops : Array Oper} {b k : Nat} (hC : Chain1 ops b k) {listed : Array Bool} (hc : Closed ops listed) {i : Nat} (hi : i ∈ Region.ready .any ops listed) (hk : k ≤ i) : ∀ d j, b ≤ j → j + d = i → 0 < d → listed.getD j false = true := by
  obtain ⟨_, oi, hoi, hall⟩ := mem_ready.1 hi
  have hlt : i < ops.size := (Array.getElem?_eq_some_iff.1 hoi).1
  intro d
  induction d using Nat.strongRecOn with
  | ind d ih =>
    intro j hbj hj hd
    obtain ⟨m, h1, h2, h3⟩ := hC.next j hbj (by omega)
    obtain ⟨o, ho, e, he, hb, heq⟩ := Region.edge_spec h3
    by_cases hmi : m = i
    · subst hmi
      rw [hoi] at ho; cases ho
      rw [← heq]; exact hall e he hb
    · have := ih (i - m) (by omega) m (by omega) (by omega) (by omega)
      rw [← heq]; exact hc m o ho this e he hb
section
variable {P : Program} {ops : Array Oper} {Q Q0 : Exit → Act → World → Prop} {b k : Nat}
theorem wpAny_chain1 (hC : Chain1 ops b k) : ∀ (l : List Oper) (i : Nat) (listed : Array Bool) (fuel : Nat) (a : Act) (w : World), (∀ j, l[j]? = ops[i + j]?) → i + l.length = ops.size → k ≤ i → listed.size = ops.size →
    (∀ j, j < i → listed.getD j false = true) → (∀ j, i ≤ j → j < ops.size → listed.getD j true = false) → Closed ops listed → l.length ≤ fuel → wpList P ops Q l a w → wpAny P .any ops Q fuel listed a w
  | [], i, listed, fuel, a, w, hl, hsz, hk, hls, h1, h2, hc, hf, h => by
    have hr : Region.ready .any ops listed = [] := by
      refine List.eq_nil_iff_forall_not_mem.2 fun m hm => ?_
      obtain ⟨hu, o, ho, _⟩ := mem_ready.1 hm
      have hlt : m < ops.size := (Array.getElem?_eq_some_iff.1 ho).1
      have := h1 m (by simp at hsz; omega)
      rw [getD_tf (by omega) false true, hu] at this
      simp at this
    cases fuel with
    | zero => exact ⟨hr, h⟩
    | succ f => exact ⟨fun _ => h, fun m hm => by rw [hr] at hm; cases hm⟩
  | o :: l, i, listed, fuel, a, w, hl, hsz, hk, hls, h1, h2, hc, hf, h => by
    have h0 : ops[i]? = some o := by simpa using (hl 0).symm
    have hlt : i < ops.size := (Array.getElem?_eq_some_iff.1 h0).1
    have hl' : ∀ j, l[j]? = ops[i + 1 + j]? := fun j => by have := hl (j + 1); simpa [Nat.add_assoc, Nat.add_comm 1 j] using this
    have hui := h2 i (Nat.le_refl _) hlt
    have hir : i ∈ Region.ready .any ops listed := mem_ready.2 ⟨hui, o, h0, fun e he hb => h1 _ ((Region.down_spec hC.down h0).1 e he hb)⟩
    have hnext : ∀ (a' : Act) (w' : World), wpList P ops Q l a' w' → wpAny P .any ops Q (fuel - 1) (listed.setIfInBounds i true) a' w' := fun a' w' h' =>
      wpAny_chain1 hC l (i + 1) _ _ a' w' hl' (by simp at hsz; omega) (by omega) (by simp [hls]) (fun j hj => by
        by_cases hji : i = j
        · subst hji
          simp [Array.getD_eq_getD_getElem?, hls, hlt]
        · rw [getD_set_ne false hji]; exact h1 j (by omega)) (fun j hj hj2 => by rw [getD_set_ne true (by omega)]; exact h2 j (by omega) hj2) (hc.set hir) (by simp at hf; omega) h'
    obtain ⟨f, rfl⟩ : ∃ f, fuel = f + 1 := ⟨fuel - 1, by simp at hf; omega⟩
    refine ⟨fun hr => (by rw [hr] at hir; cases hir), fun m hm => ?_⟩
    obtain ⟨hu, o', ho', _⟩ := mem_ready.1 hm
    have hm2 : m = i := by
      have hmlt : m < ops.size := (Array.getElem?_eq_some_iff.1 ho').1
      rcases Nat.lt_trichotomy m i with hh | hh | hh
      · have := h1 m hh
        rw [getD_tf (by omega) false true, hu] at this
        simp at this
      · exact hh
      · have := hC.before hc hm (by omega) (m - i) i (by have := hC.bk; omega) (by omega) (by omega)
        rw [getD_tf (by omega) false true, hui] at this
        simp at this
    subst hm2
    unfold wpOp
    simp only [h0]
    unfold wpList at h
    by_cases hw : Region.wanted o (yielded ops a.tmps) = true
    · rw [if_pos hw] at h ⊢
      exact h.imp (Oper.wp_mono hnext) id
    · rw [if_neg hw] at h ⊢
      exact hnext _ _ h
theorem wpAny_split1 (hC : Chain1 ops b k) {ops0 : Array Oper} (h0 : ops0.size = k) (hpre : ∀ j, j < k → ops0[j]? = ops[j]?) (hN : ∀ a w, Q0 .normal a w → wpList P ops Q (ops.toList.drop k) a w) (hE : ∀ e a w, e ≠ .normal → Q0 e a w → Q e a w) :
    ∀ (fuel0 : Nat) (listed0 listed : Array Bool) (fuel : Nat) (a : Act) (w : World), listed0.size = k → listed.size = ops.size → (∀ j, j < k → ∀ d, listed0.getD j d = listed.getD j d) → (∀ j, k ≤ j → j < ops.size → listed.getD j true = false) →
      Closed ops listed → (∀ j, j < b → listed.getD j false = true) → fuel0 + (ops.size - k) ≤ fuel → wpAny P .any ops0 Q0 fuel0 listed0 a w → wpAny P .any ops Q fuel listed a w := by
  have hle := hC.le
  have hd0 : Region.downB ops0 = true := by
    unfold Region.downB
    refine List.all_eq_true.2 fun i hi => ?_
    have hik := List.mem_range.1 hi
    have h1 := List.all_eq_true.1 hC.down i (List.mem_range.2 (by omega))
    rw [hpre i (by omega)]
    exact h1
  have all : ∀ (fuel0 : Nat) (listed0 listed : Array Bool) (fuel : Nat) (a : Act) (w : World), listed0.size = k → listed.size = ops.size → (∀ j, j < k → ∀ d, listed0.getD j d = listed.getD j d) → (∀ j, k ≤ j → j < ops.size → listed.getD j true = false) →
      Closed ops listed → (∀ j, j < b → listed.getD j false = true) → fuel0 + (ops.size - k) ≤ fuel → wpAny P .any ops0 Q0 fuel0 listed0 a w → (∀ j, j < k → listed.getD j false = true) → wpAny P .any ops Q fuel listed a w := by
    intro fuel0 listed0 listed fuel a w hs0 hs hag hun hc hbl hf H hall
    have hr0 : Region.ready .any ops0 listed0 = [] := by
      refine List.eq_nil_iff_forall_not_mem.2 fun m hm => ?_
      obtain ⟨hu, o, ho, _⟩ := mem_ready.1 hm
      have hlt : m < ops0.size := (Array.getElem?_eq_some_iff.1 ho).1
      have h1 := hall m (by omega)
      rw [← hag m (by omega), getD_tf (by omega) false true, hu] at h1
      simp at h1
    have hQ : Q0 .normal a w := by
      cases fuel0 with
      | zero => exact H.2
      | succ f => exact H.1 hr0
    exact wpAny_chain1 hC (ops.toList.drop k) k listed fuel a w (fun j => by rw [List.getElem?_drop, Array.getElem?_toList]) (by rw [List.length_drop, Array.length_toList]; omega) (Nat.le_refl _) hs hall hun hc (by rw [List.length_drop, Array.length_toList]; omega) (hN a w hQ)
  intro fuel0
  induction fuel0 with
  | zero =>
    intro listed0 listed fuel a w hs0 hs hag hun hc hbl hf H
    refine all 0 listed0 listed fuel a w hs0 hs hag hun hc hbl hf H fun j hj => ?_
    cases hh : listed.getD j false with
    | true => rfl
    | false =>
      rw [← hag j hj, getD_tf (by omega) false true] at hh
      obtain ⟨m, _, hm⟩ := ready_least hd0 (by omega) j (by omega) hh
      rw [H.1] at hm; cases hm
  | succ fuel0 ih =>
    intro listed0 listed fuel a w hs0 hs hag hun hc hbl hf H
    by_cases hall : ∀ j, j < k → listed.getD j false = true
    · exact all _ listed0 listed fuel a w hs0 hs hag hun hc hbl hf H hall
    · simp only [Classical.not_forall] at hall
      obtain ⟨j, hj, hjn⟩ := hall
      have hju : listed.getD j true = false := by rw [getD_tf (by omega) true false]; simpa using hjn
      obtain ⟨f, rfl⟩ : ∃ f, fuel = f + 1 := ⟨fuel - 1, by omega⟩
      refine ⟨fun hr => ?_, fun m hm => ?_⟩
      · obtain ⟨m, _, hm⟩ := ready_least hC.down hs j (by omega) hju
        rw [hr] at hm; cases hm
      · obtain ⟨hu, o, ho, hdep⟩ := mem_ready.1 hm
        have hmlt : m < ops.size := (Array.getElem?_eq_some_iff.1 ho).1
        have hmk : m < k := by
          refine Nat.lt_of_not_le fun hkm => hjn ?_
          exact hC.before hc hm hkm (m - j) j (Nat.le_of_not_lt fun hh => hjn (hbl j hh)) (by omega) (by omega)
        have ho0 : ops0[m]? = some o := by rw [hpre m hmk]; exact ho
        have hm0 : m ∈ Region.ready .any ops0 listed0 := mem_ready.2 ⟨by rw [hag m hmk]; exact hu, o, ho0, fun e he hb => by
          have := (Region.down_spec hC.down ho).1 e he hb
          rw [hag _ (by omega)]; exact hdep e he hb⟩
        have h1 := H.2 m hm0
        unfold wpOp at h1 ⊢
        simp only [ho, ho0] at h1 ⊢
        rw [wanted_same (ops := ops) fun p hp => hpre _ (by have := (Region.down_spec hC.down ho).2 p hp; omega)] at h1
        have hnext : ∀ (a' : Act) (w' : World), wpAny P .any ops0 Q0 fuel0 (listed0.setIfInBounds m true) a' w' → wpAny P .any ops Q f (listed.setIfInBounds m true) a' w' := fun a' w' h' =>
          ih _ _ f a' w' (by simp [hs0]) (by simp [hs]) (fun j hj d => by
            by_cases hmj : m = j
            · subst hmj
              simp [Array.getD_eq_getD_getElem?, hs0, hs, hmk, hmlt]
            · rw [getD_set_ne d hmj, getD_set_ne d hmj]; exact hag j hj d) (fun j hj hj2 => by rw [getD_set_ne true (by omega)]; exact hun j hj hj2) (hc.set hm) (fun j hj => getD_set_true (hbl j hj)) (by omega) h'
        by_cases hw : Region.wanted o (yielded ops a.tmps) = true
        · rw [if_pos hw] at h1 ⊢
          exact h1.imp (wp_to2 hnext hE) fun h => ⟨h.1, h.2.imp fun _ => Exists.imp fun _ => hE _ _ _ (by simp)⟩
        · rw [if_neg hw] at h1 ⊢
          exact hnext _ _ h1
end

theorem put_swap (a : Act) (x y : Option Nat) (u v : Value) (h : ∀ t, x = some t → y ≠ some t) : (a.put x u).put y v = (a.put y v).put x u := by
  cases x with
  | none => rfl
  | some i =>
    cases y with
    | none => rfl
    | some j =>
      have hne : i ≠ j := fun he => h i rfl (by rw [he])
      simp only [Act.put]
      rw [Array.setIfInBounds_comm _ _ hne]
theorem eval_put_other (a : Act) (dst : Option Nat) (u : Value) (y : Operand) (h : ∀ t, y = .tmp t → dst ≠ some t) : (a.put dst u).eval y = a.eval y := Act.eval_put fun d hd hyd => h d hyd hd
theorem wp_put {P : Program} {o : Oper} {ops : Array Oper} {a : Act} {w : World} {d : Nat} {v : Value} {K K' : Act → World → Prop} {Q : Exit → Act → World → Prop} (hs : ∀ cs b, o.op ≠ .select cs b) (hl : d ∉ o.looksAt ops) (hd : o.dst ≠ some d) (hQ : ∀ e a w, e ≠ .normal → ¬ Q e a w)
    (hK : ∀ a' w', (∀ y : Operand, (∀ t, y = .tmp t → o.dst ≠ some t) → a'.eval y = a.eval y) → K (a'.put (some d) v) w' → K' a' w') (h : o.wp P (a.put (some d) v) w K Q) : o.wp P a w K' Q := by
  unfold Oper.wp at *
  rw [execOp_put (ops := ops) o hs a (some d) v (fun t ht => by cases ht; exact hl)] at h
  have sw : ∀ (b : Act) (u : Value), (b.put (some d) v).put o.dst u = (b.put o.dst u).put (some d) v := fun b u => put_swap b (some d) o.dst v u (fun t ht he => by cases ht; exact hd he)
  have ev : ∀ (u : Value) (y : Operand), (∀ t, y = .tmp t → o.dst ≠ some t) → (a.put o.dst u).eval y = a.eval y := fun u y hy => eval_put_other a o.dst u y hy
  generalize (execOp a.eval o).run P w = r at *
  cases r with
  | ok n w' =>
    cases n with
    | value u => simp only [Oper.upon] at h ⊢; rw [sw] at h; exact hK _ _ (ev u) h
    | skip => simp only [Oper.upon] at h ⊢; rw [sw] at h; exact hK _ _ (ev _) h
    | defer c =>
      simp only [Oper.upon] at h ⊢
      refine hK _ _ (fun y hy => ?_) ?_
      · rw [eval_put_other _ o.dst undef y hy]
        cases y <;> rfl
      · rw [← sw]; exact h
    | enter f args =>
      simp only [Oper.upon] at h ⊢
      refine Calls.mono h fun e w'' he => ?_
      cases e with
      | returned u => simp only at he ⊢; rw [sw] at he; exact hK _ _ (ev u) he
      | panicked c => exact absurd he (hQ _ _ _ (by simp))
      | outgrown => obtain ⟨a1, w1, h1⟩ := he; exact absurd h1 (hQ _ _ _ (by simp))
    | row r args =>
      simp only [Oper.upon] at h ⊢
      exact Rows.mono h fun u w'' he => by rw [sw] at he; exact hK _ _ (ev u) he
    | _ => simp only [Oper.upon] at h
  | halt x w' =>
    cases x <;> simp only [Oper.upon] at h ⊢ <;> first | exact absurd h (hQ _ _ _ (by simp)) | exact h
def notSelect (o : Oper) : Bool := match o.op with | .select _ _ => false | _ => true
theorem notSelect_spec {o : Oper} (h : notSelect o = true) : ∀ cs b, o.op ≠ .select cs b := fun cs b he => by unfold notSelect at h; rw [he] at h; simp at h
/-- A move that is ready may be made first. -/
theorem wpAny_move {P : Program} {ops : Array Oper} {Q : Exit → Act → World → Prop} {i d : Nat} {oi : Oper} {x : Operand} (hi : ops[i]? = some oi) (hop : oi.op = .move x) (hd : oi.dst = some d) (hg : oi.guard = none) (hsel : ∀ (j : Nat) (oj : Oper), ops[j]? = some oj → notSelect oj = true) (hQ : ∀ e a w, e ≠ .normal → ¬ Q e a w) :
    ∀ (fuel : Nat) (listed : Array Bool) (a : Act) (w : World),
      (∀ (j : Nat) (oj : Oper), ops[j]? = some oj → j ≠ i → listed.getD j true = false → (∀ e ∈ oj.after, Region.binds .any e = true → e.on ≠ i) → oi.apart ops oj = true) →
      i ∈ Region.ready .any ops listed → wpAny P .any ops Q fuel (listed.setIfInBounds i true) (a.put (some d) (a.eval x)) w → wpAny P .any ops Q (fuel + 1) listed a w := by
  have self : ∀ {fuel : Nat} {listed : Array Bool} {a : Act} {w : World}, wpAny P .any ops Q fuel (listed.setIfInBounds i true) (a.put (some d) (a.eval x)) w → wpOp P ops Q i (wpAny P .any ops Q fuel (listed.setIfInBounds i true)) a w := by
    intro fuel listed a w H
    unfold wpOp
    simp only [hi]
    have hw : Region.wanted oi (yielded ops a.tmps) = true := by simp [Region.wanted, hg]
    rw [if_pos hw]
    refine .inl ?_
    unfold Oper.wp execOp
    simp only [hop, Sem.run_pure, Oper.upon, hd]
    exact H
  intro fuel
  induction fuel with
  | zero =>
    intro listed a w _ hr H
    refine ⟨fun h => (by rw [h] at hr; cases hr), fun j hj => ?_⟩
    by_cases hji : j = i
    · subst hji; exact self H
    · have := ready_mono hj hji
      rw [H.1] at this
      cases this
  | succ fuel ih =>
    intro listed a w hfree hr H
    refine ⟨fun h => (by rw [h] at hr; cases hr), fun j hj => ?_⟩
    by_cases hji : j = i
    · subst hji; exact self H
    · have H2 := H.2 j (ready_mono hj hji)
      obtain ⟨hjun, oj, hoj, hall⟩ := mem_ready.1 hj
      have hnot : ∀ e ∈ oj.after, Region.binds .any e = true → e.on ≠ i := fun e he hb heq => by
        have h1 := hall e he hb
        have h0 := (mem_ready.1 hr).1
        rw [heq] at h1
        rcases Nat.lt_or_ge i listed.size with h' | h'
        · simp [h'] at h0 h1; rw [h0] at h1; cases h1
        · simp [Array.getElem?_eq_none h'] at h1
      obtain ⟨a1, a2, a3⟩ := Oper.apart_spec (hfree j oj hoj hji hjun hnot)
      have hdl : d ∉ oj.looksAt ops := a1 d hd
      have hdd : oj.dst ≠ some d := fun he => a2 d hd he
      have hx : ∀ t, x = .tmp t → oj.dst ≠ some t := fun t ht he => a3 t he (looks_op (by rw [hop, ht]; simp [Op.operands]))
      have next : ∀ a' w', (∀ y : Operand, (∀ t, y = .tmp t → oj.dst ≠ some t) → a'.eval y = a.eval y) → wpAny P .any ops Q fuel ((listed.setIfInBounds i true).setIfInBounds j true) (a'.put (some d) (a.eval x)) w' → wpAny P .any ops Q (fuel + 1) (listed.setIfInBounds j true) a' w' := by
        intro a' w' he h
        refine ih _ _ _ (fun k ok hk hki hun hno => ?_) (ready_mono hr (Ne.symm hji)) ?_
        · refine hfree k ok hk hki ?_ hno
          by_cases hjk : j = k
          · subst hjk; exact hjun
          · rw [getD_set_ne true hjk] at hun; exact hun
        · rw [he x hx, Array.setIfInBounds_comm _ _ hji]
          exact h
      unfold wpOp at H2 ⊢
      simp only [hoj] at H2 ⊢
      rw [wanted_put (ops := ops) oj a (some d) (a.eval x) (fun t ht => by cases ht; exact hdl)] at H2
      by_cases hw : Region.wanted oj (yielded ops a.tmps) = true
      · rw [if_pos hw] at H2 ⊢
        rcases H2 with H2 | ⟨_, a1, w1, h1⟩
        · exact .inl (wp_put (ops := ops) (notSelect_spec (hsel j oj hoj)) hdl hdd hQ next H2)
        · exact absurd h1 (hQ _ _ _ (by simp))
      · rw [if_neg hw] at H2 ⊢
        refine next _ _ (fun y hy => eval_put_other a oj.dst undef y hy) ?_
        rw [put_swap a oj.dst (some d) undef (a.eval x) (fun t ht he => hdd (by rw [ht, he]))]
        exact H2
end Go.Proofs.YtieccphckobhjaaDoor


namespace Go.Proofs.YtieccphckobhjaaDoor
open Go.RowKit Go.Shelf
set_option linter.unusedVariables false

def intC (n : Int) : List D := [.v (.int .i64 n)]
section
variable {cx : Cx} {ops : Array Oper} {o : Oper} {rest : List Oper} {e : Env} {σ : Obs} {Q : Post}
end
section
variable {cx : Cx} {ops : Array Oper} {o : Oper} {rest : List Oper} {e : Env} {σ : Obs} {Q : Post}
end
def apartB (ops : Array Oper) (o0 : Oper) : Bool := (List.range ops.size).all fun j => Nat.beq j 0 || Region.edge ops j 0 || ((ops[j]?).map fun oj => o0.apart ops oj).getD true
theorem apartB_spec {ops : Array Oper} {o0 : Oper} (h : apartB ops o0 = true) {j : Nat} {oj : Oper} (hj : ops[j]? = some oj) (h0 : j ≠ 0) (hn : ∀ e ∈ oj.after, Region.binds .any e = true → e.on ≠ 0) : o0.apart ops oj = true := by
  have h1 := List.all_eq_true.1 h j (List.mem_range.2 (Array.getElem?_eq_some_iff.1 hj).1)
  rw [hj] at h1
  simp only [Option.map_some, Option.getD_some, Bool.or_eq_true] at h1
  rcases h1 with (h1 | h1) | h1
  · exact absurd (Nat.eq_of_beq_eq_true h1) h0
  · obtain ⟨o, ho, e, he, hb, heq⟩ := Region.edge_spec h1
    rw [hj] at ho; cases ho
    exact absurd heq (hn e he hb)
  · exact h1
def dstB (Φ : List Fr) (l : List Oper) : Bool := Φ.all fun f => (List.range l.length).all fun i => (List.range l.length).all fun j => Nat.beq i j || ((l[i]?).map fun o => neDst o f.dst).getD true || ((l[j]?).map fun o => neDst o f.dst).getD true
def openB (l : List Oper) (k2 k : Nat) (o0 : Oper) : Bool := Nat.blt 0 k2 && Nat.ble k2 k && Region.chainB l.toArray k && Region.chain1B (l.take k).toArray 1 k2 && (l.take k).all notSelect && apartB (l.take k).toArray o0 && (Array.all o0.after fun e => !(Region.binds .any e)) && Region.lexFrom .any (l.take k2).toArray (k2 - 1) 1 ((Array.replicate k2 false).setIfInBounds 0 true)
/-- A region that draws its order, whose first operation is a move: it may be made first; then the operations up to k2 in any order, then one after the other. -/
theorem AWP.drawMove {cx : Cx} {rid : Nat} {o0 : Oper} {l1 : List Oper} {e : Env} {σ : Obs} {Q : Post} {x : Operand} {d0 : Nat} {s0 : S} (k2 k : Nat) (Φ : List Fr) (ok : FrOk cx Φ σ) (hm : cx.P.follows .mixedOrders = true) (hB : openB (o0 :: l1) k2 k o0 = true)
    (hop : o0.op = .move x) (hd : o0.dst = some d0) (hg : o0.guard = none) (hdn : Nat.blt d0 cx.N = true) (hx : e.ev x = s0) (hlk : dstB Φ ((o0 :: l1).take k2) = true)
    (h : XRun cx ((o0 :: l1).take k2).toArray σ Φ ((o0 :: l1).take k2).tail (Env.killAll Φ (e.put (some d0) s0)) (fun e => AOps cx ((o0 :: l1).take k).toArray (((o0 :: l1).take k).drop k2) e (frObs Φ ++ σ) (fun ex e σ => match ex with | .normal => AOps cx (o0 :: l1).toArray ((o0 :: l1).drop k) e σ Q | _ => False))) :
    AWP cx (.region rid (o0 :: l1).toArray true) e σ Q := by
  intro a w ⟨F, ρ, hr⟩
  unfold openB at hB
  simp only [Bool.and_eq_true] at hB
  obtain ⟨⟨⟨⟨⟨⟨⟨hB1, hB2⟩, hB3⟩, hB4⟩, hB5⟩, hB6⟩, hB7⟩, hB8⟩ := hB
  generalize hl : (o0 :: l1) = l at *
  have hk2 : 0 < k2 := by simpa [Nat.blt_eq] using hB1
  have hkk : k2 ≤ k := Nat.le_of_ble_eq_true hB2
  have hch := Chain.of hB3
  have hkl : k ≤ l.length := by simpa using hch.le
  have hch1 := Chain1.of hB4
  have hl0 : l[0]? = some o0 := by rw [← hl]; rfl
  have hone : ∀ f ∈ Φ, ∀ (i j : Nat) (o o' : Oper), (l.take k2).toArray[i]? = some o → (l.take k2).toArray[j]? = some o' → o.dst = some f.dst → o'.dst = some f.dst → i = j := fun f hf i j o o' hi hj ho ho' => by
    rw [List.getElem?_toArray] at hi hj
    have h3 := List.all_eq_true.1 (List.all_eq_true.1 (List.all_eq_true.1 hlk f hf) i (List.mem_range.2 (List.getElem?_eq_some_iff.1 hi).1)) j (List.mem_range.2 (List.getElem?_eq_some_iff.1 hj).1)
    rw [hi, hj] at h3
    simp only [Option.map_some, Option.getD_some, Bool.or_eq_true] at h3
    rcases h3 with (h3 | h3) | h3
    · exact Nat.eq_of_beq_eq_true h3
    · exact absurd ho (neDst_spec h3)
    · exact absurd ho' (neDst_spec h3)
  -- the state after the move
  have hput : R cx (e.put (some d0) s0) σ (a.put (some d0) (a.eval x)) { w with drawn := w.drawn + 1 } := by
    have h1 := hr.drew.put (o := o0) (v := a.eval x) (s := s0) (Ext.refl hr.drew.lt) (by rw [← hx]; exact ev_rep fun t _ => hr.drew.env t) (by unfold DstOk; rw [hd]; exact hdn)
    rw [hd] at h1
    exact ⟨F, ρ, h1⟩
  have hlen2 : (l.take k2).length = k2 := by rw [List.length_take]; omega
  have htail : ∀ j, (l.take k2).tail[j]? = (l.take k2).toArray[1 + j]? := fun j => by rw [List.getElem?_toArray, List.getElem?_tail, Nat.add_comm]
  have htl : (l.take k2).tail.length = k2 - 1 := by rw [List.length_tail, hlen2]
  have h1 := anyX_lex (l.take k2).tail 1 ((Array.replicate k2 false).setIfInBounds 0 true) _ htail (by rw [htl]; exact hB8) h
  have hdst : ∀ o ∈ (l.take k2).toArray.toList, DstOk cx.N o := fun o ho => by
    have ho' : o ∈ l.take k2 := by simpa using ho
    have hcons : l.take k2 = o0 :: (l.take k2).tail := by
      rw [← hl]
      cases k2 with
      | zero => omega
      | succ n => rfl
    rw [hcons] at ho'
    rcases List.mem_cons.1 ho' with rfl | ho'
    · unfold DstOk; rw [hd]; exact hdn
    · exact XRun.dsts _ _ h o ho'
  have h2 := wpAny_of_X (cx := cx) (ops := (l.take k2).toArray) (Q := fun ex e σ => match ex with | .normal => AOps cx (l.take k).toArray ((l.take k).drop k2) e σ (fun ex e σ => match ex with | .normal => AOps cx l.toArray (l.drop k) e σ Q | _ => False) | _ => False) hdst hone ok _ _ (Env.killAll Φ (e.put (some d0) s0)) _ _
    ⟨[], fun g hg => (nomatch hg), fun g hg => (nomatch hg), fun g hg => (nomatch hg), fun f hf _ t => killAll_all Φ _ f hf t, R.killAll Φ hput⟩ h1
  rw [htl] at h2
  have hlenk : (l.take k).length = k := by rw [List.length_take]; omega
  have hsz : (l.take k).toArray.size = k := by simp; omega
  -- up to k
  have h3 : wpAny cx.P .any (l.take k).toArray (lift cx fun ex e σ => match ex with | .normal => AOps cx l.toArray (l.drop k) e σ Q | _ => False) (k - 1) ((Array.replicate k false).setIfInBounds 0 true) (a.put (some d0) (a.eval x)) { w with drawn := w.drawn + 1 } := by
    refine wpAny_split1 hch1 (ops0 := (l.take k2).toArray) (by simp; omega) (fun j hj => ?_) ?_ ?_ (k2 - 1) _ _ _ _ _ (by simp) (by simp [hsz]) ?_ ?_ ?_ ?_ (by rw [hsz]; omega) h2
    · rw [List.getElem?_toArray, List.getElem?_toArray, List.getElem?_take, List.getElem?_take, if_pos hj, if_pos (by omega)]
    · rintro a w ⟨e, σ, h3, h4⟩
      have := h3 a w h4
      simpa using this
    · rintro ex a w hne ⟨e, σ, h3, _⟩
      cases ex <;> first | exact absurd rfl hne | exact h3.elim
    · intro j hj d
      by_cases hj0 : 0 = j
      · subst hj0
        simp [Array.getD_eq_getD_getElem?, hk2, show 0 < k by omega]
      · rw [getD_set_ne d hj0, getD_set_ne d hj0]
        simp [Array.getD_eq_getD_getElem?, hj, show j < k by omega]
    · intro j hj hj2
      rw [hsz] at hj2
      rw [getD_set_ne true (by omega)]
      simp [Array.getD_eq_getD_getElem?, hj2]
    · intro i o ho hi e he hb
      by_cases hi0 : 0 = i
      · subst hi0
        rw [List.getElem?_toArray, List.getElem?_take, if_pos (by omega), hl0] at ho
        cases ho
        have := Array.all_eq_true_iff_forall_mem.1 hB7 e he
        rw [hb] at this
        simp at this
      · rw [getD_set_ne false hi0] at hi
        have hik : i < k := by have := (Array.getElem?_eq_some_iff.1 ho).1; omega
        simp [Array.getD_eq_getD_getElem?, hik] at hi
    · intro j hj
      have : j = 0 := by omega
      subst this
      simp [Array.getD_eq_getD_getElem?, show 0 < k by omega]
  have h4 : wpAny cx.P .any (l.take k).toArray (lift cx fun ex e σ => match ex with | .normal => AOps cx l.toArray (l.drop k) e σ Q | _ => False) (k - 1 + 1) (Array.replicate k false) a { w with drawn := w.drawn + 1 } := by
    refine wpAny_move (i := 0) (oi := o0) (x := x) (d := d0) (by rw [List.getElem?_toArray, List.getElem?_take, if_pos (by omega), hl0]) hop hd hg (fun j oj hj => ?_) ?_ _ _ _ _ (fun j oj hj hj0 _ hn => apartB_spec hB6 hj hj0 hn) (mem_ready.2 ⟨by simp [Array.getD_eq_getD_getElem?, show 0 < k by omega], o0, by rw [List.getElem?_toArray, List.getElem?_take, if_pos (by omega), hl0], fun e he hb => ?_⟩) h3
    · rw [List.getElem?_toArray] at hj
      exact List.all_eq_true.1 hB5 _ (List.mem_of_getElem? hj)
    · rintro ex a w hne ⟨e, σ, h3, _⟩
      cases ex <;> first | exact absurd rfl hne | exact h3.elim
    · have := Array.all_eq_true_iff_forall_mem.1 hB7 e he
      rw [hb] at this
      simp at this
  have h5 : wpAny cx.P .any (l.take k).toArray (lift cx fun ex e σ => match ex with | .normal => AOps cx l.toArray (l.drop k) e σ Q | _ => False) (l.take k).length (Array.replicate (l.take k).toArray.size false) a { w with drawn := w.drawn + 1 } := by
    rw [hlenk, hsz]
    rw [show k - 1 + 1 = k by omega] at h4
    exact h4
  refine wp_region_any hm (wpAny_split hch (ops0 := (l.take k).toArray) (by simp; omega) (fun j hj => by simp [hj]) ?_ ?_ (l.take k).length _ _ _ _ _ (by simp; omega) (by simp) ?_ ?_ ?_ (by simp; omega) h5)
  · rintro a w ⟨e, σ, h3, h4⟩
    have := h3 a w h4
    simpa using this
  · rintro ex a w hne ⟨e, σ, h3, _⟩
    cases ex <;> first | exact absurd rfl hne | exact h3.elim
  · intro j hj d
    have h5 : j < l.length := by omega
    have h6 : j < min k l.length := by omega
    simp [Array.getD_eq_getD_getElem?, h5, h6]
  · intro j hj hj2
    have : j < l.length := by simpa using hj2
    simp [Array.getD_eq_getD_getElem?, this]
  · intro i o ho hi
    have : i < l.length := by simpa using (Array.getElem?_eq_some_iff.1 ho).1
    simp [Array.getD_eq_getD_getElem?, this] at hi
end Go.Proofs.YtieccphckobhjaaDoor


namespace Go.Proofs.YtieccphckobhjaaDoor
open Go.RowKit
set_option linter.unusedVariables false

def OneC (σ : Obs) (s : S) : Prop := OneS σ s ∨ ∃ id off, s = .ptr id off
section
variable {cx : Cx} {ops : Array Oper} {o : Oper} {rest : List Oper} {e : Env} {σ : Obs} {Q : Post}
theorem val_at {B : Nat} {F : Nat → Prop} {ρ : Nat → Value} {w : World} {vid : Nat} {ss : List S} {v : Value} (hσ : ObsOk B F ρ w σ) (hm : (vid, Ob.val ss) ∈ σ) (h : RepS F ρ w v (.own vid)) : ∃ cs : List Value, v = .agg cs.toArray ∧ cs.length = ss.length ∧ ∀ j (h1 : j < cs.length) (h2 : j < ss.length), cs[j].oneCell' = true ∧ RepS F ρ w cs[j] ss[j] := by
  obtain ⟨cs, h1, h2, h3⟩ := hσ.ok _ hm
  dsimp only at h1
  refine ⟨cs, ?_, h2, h3⟩
  cases h
  exact h1
theorem set_mid {α : Type} (cs vs : List α) (off size j : Nat) (hv : vs.length = size) (hle : off + size ≤ cs.length) (hj : j < (cs.take off ++ vs ++ cs.drop (off + size)).length) : (cs.take off ++ vs ++ cs.drop (off + size))[j] = if h : off ≤ j ∧ j < off + size then vs[j - off]'(by omega) else cs[j]'(by simp at hj; omega) := by
  by_cases j1 : j < off
  · rw [dif_neg (by omega), List.getElem_append_left (by simp; omega), List.getElem_append_left (by simp; omega), List.getElem_take]
  · by_cases j2 : j < off + size
    · rw [dif_pos ⟨by omega, j2⟩, List.getElem_append_left (by simp; omega), List.getElem_append_right (by simp; omega)]
      have e1 : (List.take off cs).length = off := by simp; omega
      simp only [e1]
    · rw [dif_neg (by omega), List.getElem_append_right (by simp; omega), List.getElem_drop]
      have e1 : (List.take off cs ++ vs).length = off + size := by simp; omega
      have e2 : off + size + (j - (off + size)) = j := by omega
      simp only [e1, e2]
/-- A struct with own parts, stored. -/
theorem EOp.storeVal {t id off size vid : Nat} {x y : Operand} {ss ss' : List S} (ht : o.dst = none) (ho : o.op = .store t x y) (hs : ∀ w, (sizeOf t).run cx.P w = .ok size w) (hx : e.ev x = .ptr id off) (hm : (id, Ob.cells ss) ∈ σ) (hy : e.ev y = .own vid) (hmv : (vid, Ob.val ss') ∈ σ) (hl' : ss'.length = size)
    (hle : off + size ≤ ss.length) : EOp cx ops o e σ (Obs.upd id (.cells (ss.take off ++ ss' ++ ss.drop (off + size))) σ) := by
  intro F ρ a w e0 hr ha
  have hop : ∀ y ∈ o.op.operands.toList, RepS F ρ w (a.eval y) (e.ev y) := fun y hy => ev_rep fun t ht => ha t (looks_op (by rw [← ht]; exact hy))
  have r1 := hop x (by rw [ho]; simp [Op.operands])
  have r2 := hop y (by rw [ho]; simp [Op.operands])
  rw [hx] at r1
  rw [hy] at r2
  obtain ⟨cs, hv, hl, hc⟩ := val_at hr.obs hmv r2
  obtain ⟨g, ty, cs0, hρ, hB, hF, hh, hcl, hcs⟩ := hr.obs.ok _ hm
  dsimp only at hρ
  have hxv := ptr_at r1 (g := g) (by rw [hρ]; rfl)
  have h4 : ∀ u ∈ (a.eval y).cells.toList, u.oneCell' = true := fun u hu => by
    rw [hv] at hu
    simp only [Value.cells] at hu
    obtain ⟨j, hj, rfl⟩ := List.getElem_of_mem hu
    have hj' : j < cs.length := by simpa using hj
    simpa using (hc j hj' (by omega)).1
  have hsz : (a.eval y).cells.size = size := by rw [hv]; simp [Value.cells]; omega
  obtain ⟨w', h5, h6, h7⟩ := storeVar_run (P := cx.P) (off := off) hs hsz hh (by omega) h4
  unfold Oper.wp execOp
  simp only [ho, Instr.storeAt, hxv, Instr.sureAddr, Sem.run_bind, Sem.run_pure, Result.andThen_ok, h5]
  refine ⟨by rw [ht]; rfl, fun e2 hr2 => ⟨F, ρ, ?_⟩⟩
  have hcl2 : (a.eval y).cells.toList = cs := by rw [hv]; simp [Value.cells]
  rw [hcl2] at h7
  refine hr2.write hρ hm hB hF h6 h7 (by simp; omega) (fun j hj hj' => ?_)
  rw [set_mid cs0 cs off size j (by omega) (by omega) hj, set_mid ss ss' off size j hl' hle hj']
  by_cases hjj : off ≤ j ∧ j < off + size
  · rw [dif_pos hjj, dif_pos hjj]
    exact hc _ _ _
  · rw [dif_neg hjj, dif_neg hjj]
    exact hcs _ _ _
end
/-! One object takes another's place. -/
def S.ren (i j : Nat) : S → S
  | .own k => match Nat.beq k i with | true => .own j | false => match Nat.beq k j with | true => .d .any | false => .own k
  | .ptr k off => match Nat.beq k i with | true => .ptr j off | false => match Nat.beq k j with | true => .d .any | false => .ptr k off
  | .d x => .d x
  | .clo f caps => .d .any
def Ob.ren (i j : Nat) : Ob → Ob
  | .row e size els => .row e size els
  | .cells ss => .cells (ss.map (S.ren i j))
  | .map M => .map M
  | .rowS e size els => .rowS e size (els.map fun ss => ss.map (S.ren i j))
  | .bts l => .bts l
  | .val ss => .val (ss.map (S.ren i j))
section
variable {cx : Cx} {ops : Array Oper} {rest : List Oper} {e : Env} {σ : Obs} {Q : Post}
end
/-- A function that is handed on is a closure that captured nothing. -/
theorem ArgOk.fn {e : Env} {x : Operand} {f : Fn} (h : e.ev x = .d (.v (.func f #[] #[]))) : ArgOk e x (.clo f []) := ⟨_, h, fun F w y hy => by
  rw [rep_v hy]
  exact .clo f [] [] rfl (fun i h1 => absurd h1 (by simp))⟩
end Go.Proofs.YtieccphckobhjaaDoor


namespace Go.Proofs.YtieccphckobhjaaDoor
open Go.RowKit
set_option linter.unusedVariables false

/-! Types. -/
namespace TyP1
theorem et_75 : ElemTy Tryd.prog 75 3 1 8 (.int .i64 0) := ⟨by kernel_rfl, by kernel_rfl, by kernel_rfl, by decide⟩
theorem sc_3 : Scal Tryd.prog 3 := .of (by kernel_rfl)
end TyP1
open TyP1


/-- The binary search: the number to which it comes. -/
def bsr (lt : Nat → Bool) (i j : Nat) : Nat := if h : i < j then (if lt ((i + j) / 2) = true then bsr lt ((i + j) / 2 + 1) j else bsr lt i ((i + j) / 2)) else i
termination_by j - i
decreasing_by all_goals omega
theorem bsr_up {lt : Nat → Bool} {i j : Nat} (h : i < j) (h2 : lt ((i + j) / 2) = true) : bsr lt i j = bsr lt ((i + j) / 2 + 1) j := by rw [bsr, dif_pos h, if_pos h2]
theorem bsr_dn {lt : Nat → Bool} {i j : Nat} (h : i < j) (h2 : lt ((i + j) / 2) = false) : bsr lt i j = bsr lt i ((i + j) / 2) := by rw [bsr, dif_pos h, if_neg (by rw [h2]; simp)]
theorem bsr_end {lt : Nat → Bool} {i j : Nat} (h : ¬ i < j) : bsr lt i j = i := by rw [bsr, dif_neg h]
theorem bsr_le {lt : Nat → Bool} : ∀ (n i j : Nat), j - i ≤ n → i ≤ j → i ≤ bsr lt i j ∧ bsr lt i j ≤ j
  | 0, i, j, h, hij => by rw [bsr_end (by omega)]; omega
  | n + 1, i, j, h, hij => by
    by_cases hlt : i < j
    · by_cases hb : lt ((i + j) / 2) = true
      · rw [bsr_up hlt hb]
        have := bsr_le (lt := lt) n ((i + j) / 2 + 1) j (by omega) (by omega)
        omega
      · rw [bsr_dn hlt (by simpa using hb)]
        have := bsr_le (lt := lt) n i ((i + j) / 2) (by omega) (by omega)
        omega
    · rw [bsr_end hlt]; omega
def ltI (l : List Int) (x : Int) (k : Nat) : Bool := decide (l.getD k 0 < x)
def posI (l : List Int) (x : Int) : Nat := bsr (ltI l x) 0 l.length
def hasI (l : List Int) (x : Int) : Bool := decide (posI l x < l.length) && decide (l.getD (posI l x) 0 = x)
end Go.Proofs.YtieccphckobhjaaDoor


namespace Go.Proofs.YtieccphckobhjaaDoor
open Go.RowKit
set_option linter.unusedVariables false

/-! Types. -/
namespace TyP2
theorem ag_77 : AggT Tryd.prog 77 7 := .of (by kernel_rfl)
theorem bu_77 : StructT Tryd.prog 77 (fun i => (#[(0, 1), (1, 1), (2, 1), (3, 1), (4, 1), (5, 1), (6, 1)] : Array (Nat × Nat))[i]?) [(.string ⟨#[]⟩), (.string ⟨#[]⟩), (.string ⟨#[]⟩), (.int .i64 0), (.int .i64 0), (.int .i64 0), (.slice none 0 0)] := .of (by kernel_rfl) (by kernel_rfl) (by decide)
theorem et_24 : ElemTy Tryd.prog 24 77 7 96 (.agg #[(.string ⟨#[]⟩), (.string ⟨#[]⟩), (.string ⟨#[]⟩), (.int .i64 0), (.int .i64 0), (.int .i64 0), (.slice none 0 0)]) := ⟨by kernel_rfl, by kernel_rfl, by kernel_rfl, by decide⟩
theorem fo_26_2 : fieldOff Tryd.prog 26 2 = some 2 := by kernel_rfl
theorem sc_24 : Scal Tryd.prog 24 := .of (by kernel_rfl)
end TyP2
open TyP2


def zC : Cpy := ⟨⟨#[]⟩, ⟨#[]⟩, ⟨#[]⟩, 0, 0, 0, []⟩
def keyC (it ca : ByteArray) : Cpy := { zC with item := it, carrier := ca }
def ltC (l : List Cpy) (t : Cpy) (k : Nat) : Bool := decide (cpyCmp (l.getD k zC) t < 0)
def posC (l : List Cpy) (t : Cpy) : Nat := bsr (ltC l t) 0 l.length
def hasC (l : List Cpy) (t : Cpy) : Bool := decide (posC l t < l.length) && decide (cpyCmp (l.getD (posC l t) zC) t = 0)
theorem posC_le (l : List Cpy) (t : Cpy) : posC l t ≤ l.length := (bsr_le _ 0 l.length (Nat.le_refl _) (Nat.zero_le _)).2
theorem ltC_t {l : List Cpy} {t : Cpy} {k : Nat} (hk : k < l.length) (h : cpyCmp l[k] t < 0) : ltC l t k = true := by unfold ltC; rw [List.getD_eq_getElem?_getD, List.getElem?_eq_getElem hk]; simpa using h
theorem ltC_f {l : List Cpy} {t : Cpy} {k : Nat} (hk : k < l.length) (h : ¬ cpyCmp l[k] t < 0) : ltC l t k = false := by unfold ltC; rw [List.getD_eq_getElem?_getD, List.getElem?_eq_getElem hk]; simpa using h
theorem hasC_eq {l : List Cpy} {t : Cpy} {k : Nat} (hk : k < l.length) (hp : posC l t = k) : hasC l t = decide (cpyCmp l[k] t = 0) := by unfold hasC; rw [hp, List.getD_eq_getElem?_getD, List.getElem?_eq_getElem hk]; simp [hk]
theorem Le.aggLast (ds : List D) : Le (.agg (ds ++ [.v (.slice none 0 0)])) (.agg (ds ++ [.sl []])) := fun F w x hx => by
  cases hx with
  | agg cs _ hl hone h =>
    refine .agg cs _ (by simpa using hl) hone fun i h1 h2 => ?_
    have h3 := h i h1 (by simpa using h2)
    by_cases hi : i < ds.length
    · rw [List.getElem_append_left hi] at h3 ⊢
      exact h3
    · have : i = ds.length := by simp at h2; omega
      subst this
      rw [List.getElem_append_right (Nat.le_refl _)] at h3 ⊢
      simp only [Nat.sub_self, List.getElem_cons_zero] at h3 ⊢
      exact Le.nil _ _ _ h3
theorem keyLe (it ca : ByteArray) : Le (.agg [.v (.string it), .v (.string ca), .v (.string ⟨#[]⟩), .v (.int .i64 0), .v (.int .i64 0), .v (.int .i64 0), .v (.slice none 0 0)]) (.agg (keyC it ca).ds) := Le.aggLast [.v (.string it), .v (.string ca), .v (.string ⟨#[]⟩), .v (.int .i64 0), .v (.int .i64 0), .v (.int .i64 0)]
theorem hasC_t {l : List Cpy} {t : Cpy} {k : Nat} (hk : k < l.length) (hp : posC l t = k) (h : cpyCmp l[k] t = 0) : hasC l t = true := by unfold hasC; rw [hp, List.getD_eq_getElem?_getD, List.getElem?_eq_getElem hk]; simp [hk, h]
theorem hasC_e {l : List Cpy} {t : Cpy} {k : Nat} (hk : ¬ k < l.length) (hp : posC l t = k) : hasC l t = false := by unfold hasC; rw [hp]; simp [hk]


set_option maxRecDepth 100000 in
set_option maxHeartbeats 1000000 in
theorem c_bsC (l : List Cpy) (x : Cpy) (hl : l.length ≤ 100000) : ACall Tryd.prog 97 [.sl (l.map Cpy.ds), .agg x.ds, .clo (.func 79) []] (.tup [.v (.int .i64 (posC l x : Int)), .v (.bool (hasC l x))]) := by
  refine acall_of (n := 49) (ds' := [.v (.int .i64 (posC l x : Int)), .v (.bool (hasC l x))]) Tryd.func97 rfl (by kernel_rfl) rfl [6, 7] rfl rfl ?_
  intro B w0 F0 fr
  refine AWP.seq (AWP.region ?_)
  refine AOps.step rfl rfl rfl (AOp.box rfl rfl rfl) ?_
  refine AOps.aD rfl rfl rfl rfl rfl ?_
  refine AOps.aD rfl rfl rfl rfl rfl (.nil ?_)
  refine AWP.seq (AWP.region ?_)
  refine AOps.mD rfl rfl rfl rfl rfl ?_
  refine AOps.step rfl rfl rfl (AOp.lenSl rfl et_24.ht rfl) ?_
  refine AOps.aD rfl rfl rfl rfl rfl (.nil ?_)
  refine AWP.seq (AWP.region ?_)
  refine AOps.mD rfl rfl rfl rfl rfl ?_
  refine AOps.aD rfl rfl rfl rfl rfl ?_
  refine AOps.aD rfl rfl rfl rfl rfl (.nil ?_)
  refine AWP.seq ?_
  refine AWP.block ?_
  refine AWP.loop (G := Nat × Nat) (fun g => Env.of [(9, .d (.v (.int .i64 (g.1 : Int)))), (10, .d (.v (.int .i64 (g.2 : Int)))), (8, .d (.v (.int .i64 (l.length : Int)))), (0, .d (.sl (l.map Cpy.ds))), (4, .d (.fp x.ds)), (2, .d (.clo (.func 79) []))]) (fun g => []) (fun g => g.1 ≤ g.2 ∧ g.2 ≤ l.length ∧ posC l x = bsr (ltC l x) g.1 g.2) (fun g => g.2 - g.1) (0, l.length) ⟨Nat.zero_le _, Nat.le_refl _, rfl⟩ (Sub.less ⟨(SLe.i64 rfl), (SLe.i64 (by simp)), (SLe.i64 (by simp)), SLe.refl _, SLe.refl _, SLe.refl _, trivial⟩ (fun _ h => h)) ?_
  rintro ⟨i, j⟩ ⟨hij, hjl, hb⟩
  dsimp only at hij hjl hb ⊢
  refine AWP.seq ?_
  refine AWP.seq (AWP.region ?_)
  refine AOps.mD rfl rfl rfl rfl rfl ?_
  refine AOps.mD rfl rfl rfl rfl rfl ?_
  refine AOps.step rfl rfl rfl (AOp.lss rfl rfl rfl) (.nil ?_)
  refine AWP.cond rfl (fun h1 => ?_) (fun h1 => ?_)
  · replace h1 := of_decide_eq_true h1
    have hlt : i < j := by omega
    refine AWP.skip ?_
    refine AWP.block ?_
    refine AWP.seq (AWP.region ?_)
    refine AOps.mD rfl rfl rfl rfl rfl ?_
    refine AOps.mD rfl rfl rfl rfl rfl ?_
    refine AOps.step rfl rfl rfl (AOp.add64 rfl rfl rfl (by omega) (by omega)) ?_
    refine AOps.step rfl rfl rfl (AOp.convSame rfl (by kernel_rfl) rfl (wrapU64 (by omega) (by omega))) ?_
    refine AOps.step rfl rfl rfl (AOp.half rfl rfl rfl) ?_
    refine AOps.step rfl rfl rfl (AOp.convSame rfl (by kernel_rfl) rfl (w64 (by omega) (by omega))) ?_
    refine AOps.aD rfl rfl rfl rfl rfl (.nil ?_)
    refine AWP.seq ?_
    refine AWP.draw (by kernel_rfl) (by kernel_rfl) ?_
    refine DRun.step rfl rfl rfl (AOp.moveD rfl rfl) ?_
    refine DRun.step rfl rfl rfl (AOp.moveD rfl rfl) ?_
    refine DRun.step rfl rfl rfl (AOp.moveD rfl rfl) ?_
    refine DRun.step rfl rfl rfl (AOp.indexAddr rfl et_24 rfl rfl ((i + j) / 2) (by omega) (at_list (by omega)) rfl) ?_
    refine DRun.step rfl rfl rfl (AOp.loadAgg rfl ag_77 rfl rfl) ?_
    refine DRun.step rfl rfl rfl (AOp.loadAgg rfl ag_77 rfl rfl) ?_
    refine DRun.step rfl rfl rfl (AOp.callClo rfl rfl (.cons (ArgOk.rfl' rfl) (.cons (ArgOk.rfl' rfl) .nil)) (c_cmpCopies l[(i + j) / 2] x)) ?_
    refine DRun.step rfl rfl rfl (AOp.lss rfl rfl rfl) ?_
    refine DRun.nil ?_
    refine AWP.cond rfl (fun h2 => ?_) (fun h2 => ?_)
    · replace h2 := of_decide_eq_true h2
      have HB := bsr_up hlt (ltC_t (by omega) h2)
      refine AWP.region ?_
      refine AOps.mD rfl rfl rfl rfl rfl ?_
      refine AOps.step rfl rfl rfl (AOp.add64 rfl rfl rfl (by omega) (by omega)) ?_
      refine AOps.aD rfl rfl rfl rfl rfl (.nil ?_)
      refine ⟨((i + j) / 2 + 1, j), ⟨by dsimp only; omega, by dsimp only; omega, by dsimp only; rw [hb]; exact HB⟩, (by dsimp only; omega), Sub.less ⟨(SLe.i64 (by dsimp only; omega)), (SLe.refl _), SLe.refl _, SLe.refl _, SLe.refl _, SLe.refl _, trivial⟩ (fun _ h => h)⟩
    replace h2 := of_decide_eq_false h2
    have HB := bsr_dn hlt (ltC_f (by omega) h2)
    refine AWP.region ?_
    refine AOps.mD rfl rfl rfl rfl rfl ?_
    refine AOps.aD rfl rfl rfl rfl rfl (.nil ?_)
    refine ⟨(i, (i + j) / 2), ⟨by dsimp only; omega, by dsimp only; omega, by dsimp only; rw [hb]; exact HB⟩, (by dsimp only; omega), Sub.less ⟨(SLe.refl _), (SLe.i64 (by dsimp only; omega)), SLe.refl _, SLe.refl _, SLe.refl _, SLe.refl _, trivial⟩ (fun _ h => h)⟩
  replace h1 := of_decide_eq_false h1
  rw [bsr_end (by omega)] at hb
  refine AWP.exit ?_
  refine AWP.seq ?_
  refine AWP.draw (by kernel_rfl) (by kernel_rfl) ?_
  refine DRun.step rfl rfl rfl (AOp.moveD rfl rfl) ?_
  refine DRun.step rfl rfl rfl (AOp.moveD rfl rfl) ?_
  refine DRun.step rfl rfl rfl (AOp.moveD rfl rfl) ?_
  refine DRun.step rfl rfl rfl (AOp.lss rfl rfl rfl) ?_
  refine DRun.step rfl rfl rfl (AOp.moveD rfl rfl) ?_
  refine DRun.split 39 rfl (fun g3 => ?_) (fun g3 => ?_)
  · replace g3 := of_decide_eq_true g3
    have hil : i < l.length := by omega
    refine DRun.step ⟨39, rfl, .inl ⟨_, rfl, rfl⟩⟩ rfl rfl (AOp.moveD rfl rfl) ?_
    refine DRun.step ⟨39, rfl, .inl ⟨_, rfl, rfl⟩⟩ rfl rfl (AOp.moveD rfl rfl) ?_
    refine DRun.step ⟨39, rfl, .inl ⟨_, rfl, rfl⟩⟩ rfl rfl (AOp.moveD rfl rfl) ?_
    refine DRun.step ⟨39, rfl, .inl ⟨_, rfl, rfl⟩⟩ rfl rfl (AOp.indexAddr rfl et_24 rfl rfl i rfl (at_list hil) rfl) ?_
    refine DRun.step ⟨39, rfl, .inl ⟨_, rfl, rfl⟩⟩ rfl rfl (AOp.loadAgg rfl ag_77 rfl rfl) ?_
    refine DRun.step ⟨39, rfl, .inl ⟨_, rfl, rfl⟩⟩ rfl rfl (AOp.loadAgg rfl ag_77 rfl rfl) ?_
    refine DRun.step ⟨39, rfl, .inl ⟨_, rfl, rfl⟩⟩ rfl rfl (AOp.callClo rfl rfl (.cons (ArgOk.rfl' rfl) (.cons (ArgOk.rfl' rfl) .nil)) (c_cmpCopies l[i] x)) ?_
    refine DRun.step ⟨39, rfl, .inl ⟨_, rfl, rfl⟩⟩ rfl rfl (AOp.eql rfl rfl rfl) ?_
    refine DRun.step rfl rfl rfl (AOp.pickT rfl rfl rfl) ?_
    refine DRun.step rfl rfl rfl (AOp.assignD rfl rfl) ?_
    refine DRun.step rfl rfl rfl (AOp.assignD rfl rfl) ?_
    refine DRun.nil ?_
    refine AWP.ret ?_
    refine ⟨RetD.eq rfl ?_, RetD.eq rfl ?_, trivial⟩
    all_goals (first | rfl | rw [hb] | rw [HX] | rw [hasC_eq hil hb])
  replace g3 := of_decide_eq_false g3
  have HX : hasC l x = false := hasC_e (by omega) hb
  refine DRun.pass ⟨39, rfl, .inl ⟨_, rfl, rfl⟩⟩ rfl rfl ?_
  refine DRun.pass ⟨39, rfl, .inl ⟨_, rfl, rfl⟩⟩ rfl rfl ?_
  refine DRun.pass ⟨39, rfl, .inl ⟨_, rfl, rfl⟩⟩ rfl rfl ?_
  refine DRun.pass ⟨39, rfl, .inl ⟨_, rfl, rfl⟩⟩ rfl rfl ?_
  refine DRun.pass ⟨39, rfl, .inl ⟨_, rfl, rfl⟩⟩ rfl rfl ?_
  refine DRun.pass ⟨39, rfl, .inl ⟨_, rfl, rfl⟩⟩ rfl rfl ?_
  refine DRun.pass ⟨39, rfl, .inl ⟨_, rfl, rfl⟩⟩ rfl rfl ?_
  refine DRun.pass ⟨39, rfl, .inl ⟨_, rfl, rfl⟩⟩ rfl rfl ?_
  refine DRun.step rfl rfl rfl (AOp.pickF rfl rfl rfl) ?_
  refine DRun.step rfl rfl rfl (AOp.assignD rfl rfl) ?_
  refine DRun.step rfl rfl rfl (AOp.assignD rfl rfl) ?_
  refine DRun.nil ?_
  refine AWP.ret ?_
  refine ⟨RetD.eq rfl ?_, RetD.eq rfl ?_, trivial⟩
  all_goals (first | rfl | rw [hb] | rw [HX] | rw [hasC_eq hil hb])

set_option maxRecDepth 100000 in
set_option maxHeartbeats 1000000 in
theorem c_copyAt (v : Vlt) (it ca : ByteArray) (hl : v.copies.length ≤ 100000) : ACall Tryd.prog 71 [.agg v.ds, .v (.string it), .v (.string ca)] (.tup [.v (.int .i64 (posC v.copies (keyC it ca) : Int)), .v (.bool (hasC v.copies (keyC it ca)))]) := by
  refine acall_of (n := 16) (ds' := [.v (.int .i64 (posC v.copies (keyC it ca) : Int)), .v (.bool (hasC v.copies (keyC it ca)))]) Tryd.func71 rfl (by kernel_rfl) rfl [6, 7] rfl rfl ?_
  intro B w0 F0 fr
  refine AWP.seq (AWP.region ?_)
  refine AOps.step rfl rfl rfl (AOp.box rfl rfl rfl) ?_
  refine AOps.aD rfl rfl rfl rfl rfl ?_
  refine AOps.aD rfl rfl rfl rfl rfl (.nil ?_)
  refine AWP.seq (AWP.region ?_)
  refine AOps.step rfl rfl rfl (AOp.fieldAddr rfl fo_26_2 rfl) ?_
  refine AOps.step rfl rfl rfl (AOp.load rfl sc_24 rfl) ?_
  refine AOps.mD rfl rfl rfl rfl rfl ?_
  refine AOps.mD rfl rfl rfl rfl rfl ?_
  refine AOps.step rfl rfl rfl (AOp.build rfl bu_77 (.cons rfl rfl (.cons rfl rfl .nil)) rfl) ?_
  refine AOps.step rfl rfl rfl (AOp.call rfl (.cons (ArgOk.rfl' rfl) (.cons ⟨_, rfl, keyLe it ca⟩ (.cons (ArgOk.fn rfl) .nil))) (c_bsC v.copies (keyC it ca) hl)) ?_
  refine AOps.step rfl rfl rfl (AOp.extract rfl rfl rfl) ?_
  refine AOps.step rfl rfl rfl (AOp.extract rfl rfl rfl) ?_
  refine AOps.aD rfl rfl rfl rfl rfl ?_
  refine AOps.aD rfl rfl rfl rfl rfl (.nil ?_)
  refine AWP.ret ?_
  refine ⟨RetD.eq rfl ?_, RetD.eq rfl ?_, trivial⟩
  all_goals (rfl)

end Go.Proofs.YtieccphckobhjaaDoor


namespace Go.Proofs.YtieccphckobhjaaDoor
open Go.RowKit
set_option linter.unusedVariables false

/-! Types. -/
namespace TyP3
theorem ag_77 : AggT Tryd.prog 77 7 := .of (by kernel_rfl)
theorem et_24 : ElemTy Tryd.prog 24 77 7 96 (.agg #[(.string ⟨#[]⟩), (.string ⟨#[]⟩), (.string ⟨#[]⟩), (.int .i64 0), (.int .i64 0), (.int .i64 0), (.slice none 0 0)]) := ⟨by kernel_rfl, by kernel_rfl, by kernel_rfl, by decide⟩
theorem fo_77_0 : fieldOff Tryd.prog 77 0 = some 0 := by kernel_rfl
theorem fo_77_1 : fieldOff Tryd.prog 77 1 = some 1 := by kernel_rfl
theorem fo_77_6 : fieldOff Tryd.prog 77 6 = some 6 := by kernel_rfl
theorem sc_3 : Scal Tryd.prog 3 := .of (by kernel_rfl)
theorem sc_75 : Scal Tryd.prog 75 := .of (by kernel_rfl)
theorem sc_9 : Scal Tryd.prog 9 := .of (by kernel_rfl)
end TyP3
open TyP3


/-- Is the block right in another copy of the same item? -/
def whole1 (c : Cpy) (n : Int) (x : Cpy) : Bool := decide (x.item = c.item) && (decide (x.carrier ≠ c.carrier) && !decide (n ∈ x.bad))


end Go.Proofs.YtieccphckobhjaaDoor


namespace Go.Proofs.YtieccphckobhjaaDoor
open Go.RowKit
set_option linter.unusedVariables false

/-! Types. -/
namespace TyP4

end TyP4
open TyP4


def cpyS (b : Nat) (c : Cpy) : List S := [.d (.v (.string c.item)), .d (.v (.string c.carrier)), .d (.v (.string c.frm)), .d (.v (.int .i64 c.day)), .d (.v (.int .i64 c.last)), .d (.v (.int .i64 c.gen)), .own b]
/-- The copies as cells: the damaged blocks of each lie in an own row, numbered from b on. -/
def cpysS : Nat → List Cpy → List (List S)
  | _, [] => []
  | b, c :: l => cpyS b c :: cpysS (b + 1) l
theorem cpysS_len : ∀ (b : Nat) (l : List Cpy), (cpysS b l).length = l.length
  | _, [] => rfl
  | b, c :: l => by simp [cpysS, cpysS_len (b + 1) l]
theorem cpysS_get : ∀ {b : Nat} {l : List Cpy} {k : Nat} {c : Cpy}, l[k]? = some c → (cpysS b l)[k]? = some (cpyS (b + k) c)
  | b, d :: l, 0, c, h => by
    have : d = c := by simpa using h
    subst this; rfl
  | b, d :: l, k + 1, c, h => by
    have := cpysS_get (b := b + 1) (l := l) (k := k) (c := c) (by simpa using h)
    rw [show b + 1 + k = b + (k + 1) by omega] at this
    simpa [cpysS] using this
theorem cpysS_at {b : Nat} {l : List Cpy} {k : Nat} (h : k < l.length) : (cpysS b l)[k]'(by rw [cpysS_len]; exact h) = cpyS (b + k) l[k] := by
  have := cpysS_get (b := b) (List.getElem?_eq_getElem h)
  rw [List.getElem?_eq_getElem (by rw [cpysS_len]; exact h)] at this
  exact Option.some.inj this
/-- Who does not hold it does not lose it. -/
theorem cpysS_kill {id : Nat} : ∀ {b : Nat} {l : List Cpy}, id < b → (cpysS b l).map (fun ss => ss.map (S.kill id)) = cpysS b l
  | _, [], _ => rfl
  | b, c :: l, h => by
    have hb : Nat.beq b id = false := by rw [Bool.eq_false_iff]; intro hh; have := Nat.eq_of_beq_eq_true hh; omega
    have ih := cpysS_kill (id := id) (b := b + 1) (l := l) (by omega)
    simp only [cpysS, List.map_cons, ih]
    simp [cpyS, S.kill, hb]
def badsD (l : List Cpy) : List (List (List D)) := l.map fun c => c.bad.map intD
def famC (l : List Cpy) : Obs := fam 3 1 1000 (badsD l)
def vaultS (v : Vlt) : List S := [.d (.sl (v.items.map Item.ds)), .d (.sl (v.carrs.map Carr.ds)), .own 101]
/-- The copies of a vault of the program's own, as objects. -/
def vObs (l : List Cpy) : Obs := (101, .rowS 77 7 (cpysS 1000 l)) :: famC l
theorem badsD_get {l : List Cpy} {k : Nat} (h : k < l.length) : (badsD l)[k]? = some (l[k].bad.map intD) := by simp [badsD, h]
theorem famC_get {l : List Cpy} {k : Nat} (h : k < l.length) : (1000 + k, Ob.row 3 1 (l[k].bad.map intD)) ∈ famC l := fam_get (badsD_get h)
theorem snap_cpy {σ : Obs} {l : List Cpy} (h : ∀ p ∈ famC l, p ∈ σ) {k : Nat} (hk : k < l.length) : ∀ j (h1 : j < (cpyS (1000 + k) l[k]).length) (h2 : j < l[k].ds.length), Snap σ (cpyS (1000 + k) l[k])[j] l[k].ds[j] := by
  intro j h1 h2
  have hj : j < 7 := by simpa [cpyS] using h1
  match j, hj with
  | 0, _ => exact .d _
  | 1, _ => exact .d _
  | 2, _ => exact .d _
  | 3, _ => exact .d _
  | 4, _ => exact .d _
  | 5, _ => exact .d _
  | 6, _ => exact .row (h _ (famC_get hk))
end Go.Proofs.YtieccphckobhjaaDoor
