/- Walks and laws over abstract values, merged by tools/merge.py. No statement of the seat. -/
import Derived.MapKept
import Derived.Carry
import Derived.Test.YtieccphckobhjaaDoorLk5

namespace Go.Proofs.YtieccphckobhjaaDoor
open Go.RowKit Go.MapKept
set_option linter.unusedVariables false

/-- m[key] = d: what the map holds then. -/
def MPut (M : List (Value × D)) (key : Value) (d : D) (M' : List (Value × D)) : Prop :=
  (∃ i d0, M[i]? = some (key, d0) ∧ (∀ (j : Nat) (p : Value × D), M[j]? = some p → p.1 = key → j = i) ∧ M' = M.set i (key, d)) ∨ ((∀ p ∈ M, p.1 ≠ key) ∧ M' = M ++ [(key, d)])
/-- m[key]; z: the zero value. -/
def MGet (M : List (Value × D)) (key : Value) (z d : D) : Prop := (∃ i, M[i]? = some (key, d) ∧ ∀ (j : Nat) (p : Value × D), M[j]? = some p → p.1 = key → j = i) ∨ ((∀ p ∈ M, p.1 ≠ key) ∧ d = z)

theorem entries_get {F : Nat → Prop} {w : World} {M : List (Value × D)} {es : Array MapEntry} (hl : es.size = M.length) (h : ∀ i (h : i < es.size) (h' : i < M.length), es[i].key = M[i].1 ∧ Rep F w es[i].val M[i].2) {j : Nat} {en : MapEntry} (hj : es.toList[j]? = some en) :
    ∃ p, M[j]? = some p ∧ en.key = p.1 ∧ Rep F w en.val p.2 := by
  rw [Array.getElem?_toList] at hj
  obtain ⟨h1, h2⟩ := Array.getElem?_eq_some_iff.1 hj
  refine ⟨M[j]'(by omega), List.getElem?_eq_getElem _, ?_, ?_⟩
  · rw [← h2]; exact (h j h1 (by omega)).1
  · rw [← h2]; exact (h j h1 (by omega)).2
theorem entries_keys {F : Nat → Prop} {w : World} {M : List (Value × D)} {es : Array MapEntry} {kd : TypeDesc} (hl : es.size = M.length) (h : ∀ i (h : i < es.size) (h' : i < M.length), es[i].key = M[i].1 ∧ Rep F w es[i].val M[i].2) (hg : ∀ p ∈ M, IsKey kd p.1) : ∀ x ∈ es.toList, IsKey kd x.key := fun x hx => by
  obtain ⟨j, hj⟩ := List.mem_iff_getElem?.1 hx
  obtain ⟨p, h1, h2, _⟩ := entries_get hl h hj
  rw [h2]; exact hg p (List.mem_of_getElem? h1)
theorem setObj_turn {w : World} {b : Nat} {o : Obj} : Turn w { w with heap := w.heap.setIfInBounds b o } (some b) :=
  ⟨rfl, rfl, rfl, by simp, fun k _ hne => by
    have : b ≠ k := fun h => hne (by rw [h])
    simp [this]⟩
section
variable {cx : Cx} {ops : Array Oper} {o : Oper} {rest : List Oper} {e : Env} {σ σ' : Obs} {Q : Post}
theorem AOps.eff (hg : o.guard = none) (ht : o.dst = none) (h : EOp cx ops o e σ σ') (k : AOps cx ops rest e σ' Q) : AOps cx ops (o :: rest) e σ Q := by
  intro a w ⟨F, ρ, hr⟩
  refine wpList_plain hg fun K hK => ?_
  refine wp_to ?_ (fun _ _ _ => False.elim) (h F ρ a w e hr (fun t _ => hr.env t))
  rintro a' w' ⟨rfl, h3⟩
  obtain ⟨F', ρ', h4⟩ := h3 e hr
  exact hK _ _ (k _ _ ⟨F', ρ', h4⟩)
theorem EOp.mapUpdate {t k et : TypeId} {id : Nat} {m x v : Operand} {key : Value} {d : D} {M M' : List (Value × D)} {kd : TypeDesc} (hdst : o.dst = none) (ho : o.op = .mapUpdate t m x v) (ht : cx.P.underlying t = some (.map k et)) (hk : cx.P.underlying k = some kd) (hm : e.ev m = .own id) (hmem : (id, Ob.map M) ∈ σ)
    (hx : e.ev x = .d (.v key)) (hv : e.ev v = .d d) (hg : IsKey kd key) (hgs : ∀ p ∈ M, IsKey kd p.1) (hp : MPut M key d M') : EOp cx ops o e σ (Obs.upd id (.map M') σ) := by
  intro F ρ a w e0 hr ha
  have hop : ∀ y ∈ o.op.operands.toList, RepS F ρ w (a.eval y) (e.ev y) := fun y hy => ev_rep fun t ht => ha t (looks_op (by rw [← ht]; exact hy))
  have r1 := hop m (by rw [ho]; simp [Op.operands])
  have r2 := hop x (by rw [ho]; simp [Op.operands])
  have r3 := hop v (by rw [ho]; simp [Op.operands])
  rw [hm] at r1
  rw [hx] at r2
  rw [hv] at r3
  obtain ⟨b, es, clock, hρ, hB, hF, hh, hl, hall⟩ := hr.obs.ok _ hmem
  dsimp only at hρ
  have hmv : a.eval m = .map (some b) := by rw [← hρ]; generalize a.eval m = u at r1; cases r1; rfl
  have hxv := repS_v r2
  have r3' := repS_d r3
  have hks := entries_keys hl hall hgs
  have hblk : blk (ρ id) = some b := by rw [hρ]; rfl
  unfold Oper.wp execOp
  simp only [ho, hmv, hxv]
  rcases MapKept.findNow_spec hg es.toList 0 hks with ⟨h1, h2⟩ | ⟨j, en, h1, h2, h3⟩
  · have hrun : (Instr.mapUpdate t (.map (some b)) key (a.eval v)).run cx.P w = .ok () { w with heap := w.heap.setIfInBounds b (.map (es.push { key := key, val := a.eval v, born := clock }) (clock + 1)) } := by
      simp [Instr.mapUpdate, run_underlying ht, MapKept.run_getObj_map hh, MapKept.run_checkKey hk hg, MapKept.run_findKey hk h1, MapKept.run_setObj_map _ hh, Result.andThen]
    rw [Sem.run_bind, hrun]
    refine ⟨by rw [hdst]; rfl, fun e2 hr2 => ⟨F, ρ, hr2.writeOb hblk hmem hB hF setObj_turn ?_⟩⟩
    have hM' : M' = M ++ [(key, d)] := by
      rcases hp with ⟨i, d0, hi, _, _⟩ | ⟨_, hM'⟩
      · exfalso
        have hil : i < M.length := (List.getElem?_eq_some_iff.1 hi).1
        have h4 := (hall i (by omega) hil).1
        have h5 : M[i] = (key, d0) := (List.getElem?_eq_some_iff.1 hi).2
        rw [h5] at h4
        exact h2 es[i] (by simp) h4
      · exact hM'
    have hkeep : ∀ {u : Value} {y : D}, Rep F w u y → Rep F { w with heap := w.heap.setIfInBounds b (.map (es.push { key := key, val := a.eval v, born := clock }) (clock + 1)) } u y := fun h => h.mono (fun _ h => h) fun c hc => by
      have : b ≠ c := fun h => hF (by rw [h]; exact hc)
      simp [this]
    subst hM'
    refine ⟨b, _, _, hρ, hB, hF, (MapKept.heap_set hh).1, by simp [hl], fun i hi hi' => ?_⟩
    by_cases hc : i < es.size
    · have hc' : i < M.length := by omega
      rw [Array.getElem_push_lt hc, List.getElem_append_left hc']
      exact ⟨(hall i hc hc').1, hkeep (hall i hc hc').2⟩
    · have : i = es.size := by simp at hi; omega
      subst this
      rw [Array.getElem_push_eq, List.getElem_append_right (by omega)]
      simp only [hl, Nat.sub_self, List.getElem_cons_zero]
      exact ⟨trivial, hkeep r3'⟩
  · have hjs : j < es.size := by simpa using (List.getElem?_eq_some_iff.1 h2).1
    have hej : es[j] = en := by have := (List.getElem?_eq_some_iff.1 h2).2; simpa using this
    have hrun : (Instr.mapUpdate t (.map (some b)) key (a.eval v)).run cx.P w = .ok () { w with heap := w.heap.setIfInBounds b (.map (es.modify j fun e => { e with key := key, val := a.eval v }) clock) } := by
      have h0 : ((es[j]?).map (·.key)).getD key = key := by rw [Array.getElem?_eq_getElem hjs, hej]; simp [h3]
      simp only [Nat.zero_add] at h1
      simp only [Instr.mapUpdate, run_underlying ht, Sem.run_bind, Result.andThen_ok, MapKept.run_getObj_map hh, MapKept.run_checkKey hk hg, MapKept.run_findKey hk h1, h0, MapKept.run_keyThatStays hg, MapKept.run_setObj_map _ hh]
    rw [Sem.run_bind, hrun]
    refine ⟨by rw [hdst]; rfl, fun e2 hr2 => ⟨F, ρ, hr2.writeOb hblk hmem hB hF setObj_turn ?_⟩⟩
    have hjl : j < M.length := by omega
    have hkj : M[j].1 = key := by rw [← (hall j hjs hjl).1, hej]; exact h3
    have hM' : M' = M.set j (key, d) := by
      rcases hp with ⟨i, d0, hi, hu, hM'⟩ | ⟨hno, _⟩
      · have := hu j M[j] (List.getElem?_eq_getElem hjl) hkj
        rw [this]; exact hM'
      · exact absurd hkj (hno _ (List.getElem_mem hjl))
    have hkeep : ∀ {u : Value} {y : D}, Rep F w u y → Rep F { w with heap := w.heap.setIfInBounds b (.map (es.modify j fun e => { e with key := key, val := a.eval v }) clock) } u y := fun h => h.mono (fun _ h => h) fun c hc => by
      have : b ≠ c := fun h => hF (by rw [h]; exact hc)
      simp [this]
    subst hM'
    refine ⟨b, _, _, hρ, hB, hF, (MapKept.heap_set hh).1, by simp [hl], fun i hi hi' => ?_⟩
    have hc : i < es.size := by simpa using hi
    have hc' : i < M.length := by omega
    rw [Array.getElem_modify, List.getElem_set]
    by_cases hij : j = i
    · rw [if_pos hij, if_pos hij]
      exact ⟨rfl, hkeep r3'⟩
    · rw [if_neg hij, if_neg hij]
      exact ⟨(hall i hc hc').1, hkeep (hall i hc hc').2⟩
/-- make(map[K]V) -/
theorem AOps.makeMap {t dst : Nat} (id : Nat) (hg : o.guard = none) (ht : o.dst = some dst) (hdn : Nat.blt dst cx.N = true) (ho : o.op = .makeMap t none) (hid : Obs.fresh id σ = true)
    (k : AOps cx ops rest ((e.kill id).put (some dst) (.own id)) ((id, .map []) :: Obs.kill id σ) Q) (hfx : cx.free id = true := by rfl) : AOps cx ops (o :: rest) e σ Q := by
  intro a w ⟨F, ρ, h⟩
  refine wpList_plain hg fun K hK => ?_
  unfold Oper.wp execOp
  simp only [ho, Option.map_none, Sem.run_bind, run_makeMap, Result.andThen_ok, Sem.run_pure]
  refine hK _ _ (k _ _ ⟨F, fun j => if j = id then .map (some w.heap.size) else ρ j, ?_⟩)
  have hE : Ext F w F (w.alloc (.map #[] 0)) := Ext.of_below h.lt ((Below.refl _ _).alloc (Nat.le_refl _) _)
  have h2 := h.turn (ρ' := fun j => if j = id then .map (some w.heap.size) else ρ j) (id := id) (ob := .map []) (row := none) (w' := w.alloc (.map #[] 0)) (F' := F) (fun j hj => by simp [hj])
    ⟨hE.below.os, hE.below.tape, hE.below.output, hE.below.size, fun k hk _ => hE.below.block k hk⟩ hfx (fun g hg => by simp at hg) (fun b hb => hb) (fun b hb => .inl hb) hE.lt
    ⟨w.heap.size, #[], 0, by simp, h.hB, fun hf => by have := h.lt _ hf; omega, (MapKept.heap_alloc w _).1, rfl, fun i hi => by simp at hi⟩
    (fun g hg => by simp [blk] at hg; exact .inr (by omega)) ((id, .map []) :: Obs.kill id σ) (fun p hp => by
      cases hp with
      | head => exact .inl rfl
      | tail _ hp => obtain ⟨q, hq, rfl⟩ := Obs.mem_kill hp; exact .inr ⟨q, hq, Obs.fresh_spec hid q hq, rfl⟩)
  have h3 := h2.put (o := ⟨some dst, .ready 0, 0, "", #[], none⟩) (v := .map (some w.heap.size)) (s := .own id) (Ext.refl h2.lt) (by
    have := RepS.own (F := F) (ρ := fun j => if j = id then Value.map (some w.heap.size) else ρ j) (w := w.alloc (.map #[] 0)) id
    simpa using this) (by simpa [DstOk, Nat.blt_eq] using hdn)
  rw [ht]
  exact h3
end
section
variable {P : Program} {B : Nat} {ops : Array Oper} {o : Oper} {e : Env} {σ : Obs}
theorem AOp.lenMap {x : Operand} {t k et : TypeId} {id : Nat} {M : List (Value × D)} (ho : o.op = .call { callee := .builtin .len, args := #[x], argTypes := #[t] }) (ht : P.underlying t = some (.map k et)) (hx : e.ev x = .own id) (hm : (id, Ob.map M) ∈ σ) :
    AOp P B ops o e σ (.d (.v (.int .i64 (M.length : Int)))) := .value fun F ρ w a hF hr hσ => by
  have h1 := hr x (by rw [ho]; simp [Op.operands, Call.operands])
  rw [hx] at h1
  obtain ⟨b, es, clock, hρ, hB, hFb, hh, hl, _⟩ := hσ.ok _ hm
  dsimp only at hρ
  have hv : a.eval x = .map (some b) := by rw [← hρ]; generalize a.eval x = u at h1; cases h1; rfl
  refine ⟨.int .i64 (M.length : Int), F, w, ?_, .d (.v _), Ext.refl hF⟩
  unfold execOp
  simp only [ho, resolve, invoke, builtin, Sem.run_bind, Sem.run_pure, Result.andThen_ok, List.map_toArray, List.map_cons, List.map_nil, hv]
  simp [Builtin.len_, run_underlying ht, MapKept.run_getObj_map hh, Result.andThen, hl, goInt]
theorem AOp.lookup {x ix : Operand} {t k et : TypeId} {id : Nat} {M : List (Value × D)} {key z : Value} {d : D} {kd : TypeDesc} (ho : o.op = .lookup t x ix false) (ht : P.underlying t = some (.map k et)) (hk : P.underlying k = some kd) (hz : (P.info? et).bind (·.zero) = some z) (hx : e.ev x = .own id) (hm : (id, Ob.map M) ∈ σ)
    (hi : e.ev ix = .d (.v key)) (hg : IsKey kd key) (hgs : ∀ p ∈ M, IsKey kd p.1) (hd : MGet M key (.v z) d) : AOp P B ops o e σ (.d d) := .value fun F ρ w a hF hr hσ => by
  have h1 := hr x (by rw [ho]; simp [Op.operands])
  have h2 := hr ix (by rw [ho]; simp [Op.operands])
  rw [hx] at h1
  rw [hi] at h2
  obtain ⟨b, es, clock, hρ, hB, hFb, hh, hl, hall⟩ := hσ.ok _ hm
  dsimp only at hρ
  have hv : a.eval x = .map (some b) := by rw [← hρ]; generalize a.eval x = u at h1; cases h1; rfl
  have hks := entries_keys hl hall hgs
  obtain ⟨ti, hti, hzz⟩ := Option.bind_eq_some_iff.1 hz
  have hprog : (program : Sem Program).run P w = .ok P w := rfl
  rcases MapKept.findNow_spec hg es.toList 0 hks with ⟨h3, h4⟩ | ⟨j, en, h3, h4, h5⟩
  · refine ⟨z, F, w, ?_, ?_, Ext.refl hF⟩
    · unfold execOp
      simp only [ho, hv, repS_v h2, Sem.run_bind]
      simp [Instr.lookup, run_underlying ht, MapKept.run_getObj_map hh, MapKept.run_checkKey hk hg, MapKept.run_findKey hk h3, zeroValue, typeInfo, hti, hzz, Result.andThen]
    · rcases hd with ⟨i, hi2, _⟩ | ⟨_, rfl⟩
      · exfalso
        have hil : i < M.length := (List.getElem?_eq_some_iff.1 hi2).1
        have h6 := (hall i (by omega) hil).1
        rw [(List.getElem?_eq_some_iff.1 hi2).2] at h6
        exact h4 es[i] (by simp) h6
      · exact .d (.v _)
  · have hjs : j < es.size := by simpa using (List.getElem?_eq_some_iff.1 h4).1
    have hej : es[j] = en := by have := (List.getElem?_eq_some_iff.1 h4).2; simpa using this
    have hjl : j < M.length := by omega
    refine ⟨en.val, F, w, ?_, ?_, Ext.refl hF⟩
    · unfold execOp
      simp only [ho, hv, repS_v h2, Sem.run_bind]
      simp only [Nat.zero_add] at h3
      simp [Instr.lookup, run_underlying ht, MapKept.run_getObj_map hh, MapKept.run_checkKey hk hg, MapKept.run_findKey hk h3, Result.andThen]
    · have hkj : M[j].1 = key := by rw [← (hall j hjs hjl).1, hej]; exact h5
      rcases hd with ⟨i, hi2, hu⟩ | ⟨hno, _⟩
      · have := hu j M[j] (List.getElem?_eq_getElem hjl) hkj
        subst this
        have h6 := (hall j hjs hjl).2
        rw [(List.getElem?_eq_some_iff.1 hi2).2, hej] at h6
        exact .d h6
      · exact absurd hkj (hno _ (List.getElem_mem hjl))
/-! Closures. -/
def CapsOk (e : Env) : List Operand → List Cap → Prop
  | [], [] => True
  | x :: xs, .p id off :: cs => e.ev x = .ptr id off ∧ CapsOk e xs cs
  | x :: xs, .d y :: cs => e.ev x = .d y ∧ CapsOk e xs cs
  | _, _ => False
theorem CapsOk.nil : CapsOk e [] [] := trivial
theorem CapsOk.p {x : Operand} {xs : List Operand} {id off : Nat} {cs : List Cap} (h : e.ev x = .ptr id off) (k : CapsOk e xs cs) : CapsOk e (x :: xs) (.p id off :: cs) := ⟨h, k⟩
theorem CapsOk.d {x : Operand} {xs : List Operand} {y : D} {cs : List Cap} (h : e.ev x = .d y) (k : CapsOk e xs cs) : CapsOk e (x :: xs) (.d y :: cs) := ⟨h, k⟩
theorem CapsOk.rep {F : Nat → Prop} {ρ : Nat → Value} {w : World} {a : Act} : ∀ {xs : List Operand} {cs : List Cap}, CapsOk e xs cs → (∀ x ∈ xs, RepS F ρ w (a.eval x) (e.ev x)) → RepCL F ρ w (xs.map a.eval) cs
  | [], [], _, _ => trivial
  | x :: xs, .p id off :: cs, h, ha => by
    refine ⟨?_, CapsOk.rep h.2 fun y hy => ha y (List.mem_cons_of_mem _ hy)⟩
    have h1 := ha x (by simp)
    rw [h.1] at h1
    generalize a.eval x = v at h1
    cases h1 with
    | ptr _ _ g hg => exact .p id off g hg
  | x :: xs, .d y :: cs, h, ha => by
    refine ⟨?_, CapsOk.rep h.2 fun y hy => ha y (List.mem_cons_of_mem _ hy)⟩
    have h1 := ha x (by simp)
    rw [h.1] at h1
    exact .d (repS_d h1)
  | [], _ :: _, h, _ => h.elim
  | _ :: _, [], h, _ => h.elim
theorem AOp.makeClo {f : FuncId} {cs : List Operand} {caps : List Cap} (ho : o.op = .makeFunc (.func f) #[] cs.toArray) (hc : CapsOk e cs caps) : AOp P B ops o e σ (.clo f caps) := .value fun F ρ w a hF hr hσ => by
  refine ⟨.func (.func f) #[] (cs.map a.eval).toArray, F, w, ?_, .clo f _ caps (hc.rep fun x hx => hr x (by rw [ho]; simp [Op.operands, hx])), Ext.refl hF⟩
  unfold execOp
  simp only [ho]
  simp [Instr.makeFunc]
theorem AOp.moveC {x : Operand} {f : FuncId} {caps : List Cap} (ho : o.op = .move x) (hx : e.ev x = .clo f caps) : AOp P B ops o e σ (.clo f caps) := hx ▸ .move ho
theorem AOp.assignC {x : Operand} {f : FuncId} {caps : List Cap} (ho : o.op = .assign x) (hx : e.ev x = .clo f caps) : AOp P B ops o e σ (.clo f caps) := hx ▸ .assign ho
end
def Cap.toS : Cap → S
  | .p id off => .ptr id off
  | .d y => .d y
theorem RepCL.toS {F : Nat → Prop} {ρ : Nat → Value} {w : World} : ∀ {cs : List Value} {caps : List Cap}, RepCL F ρ w cs caps → RepSL F ρ w cs (caps.map Cap.toS)
  | [], [], _ => ⟨rfl, fun i h => absurd h (by simp)⟩
  | x :: xs, c :: cs, h => by
    have h1 := RepCL.toS h.2
    refine ⟨by simpa using h1.1, fun i h2 h3 => ?_⟩
    cases i with
    | zero =>
      have h4 := h.1
      cases c with
      | p id off => cases h4 with | p _ _ g hg => exact .ptr id off g hg
      | d y => cases h4 with | d h4 => exact .d h4
    | succ i => exact h1.2 i (by simpa using h2) (by simpa using h3)
  | [], _ :: _, h => h.elim
  | _ :: _, [], h => h.elim
theorem RepSL.append {F : Nat → Prop} {ρ : Nat → Value} {w : World} {vs vs' : List Value} {ss ss' : List S} (h : RepSL F ρ w vs ss) (k : RepSL F ρ w vs' ss') : RepSL F ρ w (vs ++ vs') (ss ++ ss') := by
  refine ⟨by simp [h.1, k.1], fun i h1 h2 => ?_⟩
  by_cases hi : i < vs.length
  · rw [List.getElem_append_left hi, List.getElem_append_left (by rw [← h.1]; exact hi)]
    exact h.2 _ _ _
  · rw [List.getElem_append_right (by omega), List.getElem_append_right (by rw [← h.1]; omega)]
    simp only [← h.1]
    exact k.2 _ _ _
section
variable {cx : Cx} {ops : Array Oper} {o : Oper} {rest : List Oper} {e : Env} {σ : Obs} {Q : Post}
/-- A call of such a closure. -/
theorem AOps.callXC {f : FuncId} {x : Operand} {caps : List Cap} {xs : List Operand} {ts : Array TypeId} {ss : List S} {σc σ' : Obs} {chg : Nat → Bool} {d : D} (hg : o.guard = none) (hd : DstOk cx.N o)
    (ho : o.op = .call { callee := .value x, args := xs.toArray, argTypes := ts }) (hx : e.ev x = .clo f caps) (ha : ArgsS e xs ss) (h : XCall cx.P f (ss ++ caps.map Cap.toS) σc σ' chg d) (hin : AllIn σ σc)
    (h1 : Obs.allIds (fun i => !(chg i)) (Obs.dels σc σ) = true) (h2 : Obs.allIds (fun i => Obs.allIds (fun j => !(Nat.beq i j)) (Obs.dels σc σ)) σ' = true) (h3 : ∀ i, chg i = true → cx.fixp i = false)
    (k : AOps cx ops rest ((e.killP chg).put o.dst (.d d)) (Obs.join σ' (Obs.killP chg (Obs.dels σc σ))) Q) : AOps cx ops (o :: rest) e σ Q := by
  intro a w ⟨F, ρ, hr⟩
  have hc := ev_rep (e := e) (x := x) (a := a) (fun t _ => hr.env t)
  rw [hx] at hc
  generalize hv : a.eval x = v at hc
  cases hc with
  | clo _ cs _ hcs =>
    have h4 := h.2 F ρ cx.B w _ hr.lt hr.hB (hr.obs.sub hin.mem) ((ArgsS.rep hr.env ha).append hcs.toS)
    have h5 := h.1 (xs.map a.eval ++ cs).toArray w
    have hx : (execOp a.eval o).run cx.P w = .ok (.enter f (xs.map a.eval ++ cs).toArray) w := by
      unfold execOp
      simp only [ho, resolve, Deferred.ofValue, hv, invoke, Sem.run_bind, Sem.run_pure, Result.andThen_ok]
      simpa using h5
    refine wpList_plain hg fun K hK => ?_
    unfold Oper.wp
    rw [hx]
    refine h4.mono fun _ w' ⟨v, F', ρ', he, hv, hE⟩ => ?_
    subst he
    exact hK _ _ (k _ _ ⟨F', ρ', (hr.after hin.mem hE h1 h2 h3).put (Ext.refl hE.lt) (.d hv) hd⟩)
end
/-! Cells. -/
theorem mem_ob_eq {id : Nat} {o o' : Ob} {σ : Obs} (h : (id, o) ∈ σ) (hd : o = o') : (id, o') ∈ σ := hd ▸ h
theorem R0.recell {cx : Cx} {F : Nat → Prop} {ρ : Nat → Value} {e : Env} {σ : Obs} {a : Act} {w : World} (hr : R0 cx F ρ e σ a w) {id off : Nat} {ss : List S} {s s' : S} (hm : (id, Ob.cells ss) ∈ σ) (hs : ss[off]? = some s) (h : ∀ x, RepS F ρ w x s → RepS F ρ w x s') :
    R0 cx F ρ e (Obs.upd id (.cells (ss.set off s')) σ) a w := by
  obtain ⟨g, ty, cs, h2, h3, h4, h5, h6, h7⟩ := hr.obs.ok _ hm
  dsimp only at h2
  refine hr.writeOb (g := g) (by rw [h2]; rfl) hm h3 h4 ⟨rfl, rfl, rfl, Nat.le_refl _, fun _ _ _ => rfl⟩ ⟨g, ty, cs, h2, h3, h4, h5, by simp [h6], fun j hj hj' => ⟨(h7 j hj (by simpa using hj')).1, ?_⟩⟩
  rw [List.getElem_set]
  by_cases hj2 : off = j
  · rw [if_pos hj2]
    subst hj2
    have h8 := (h7 off hj (by simpa using hj')).2
    rw [(List.getElem?_eq_some_iff.1 hs).2] at h8
    exact h _ h8
  · rw [if_neg hj2]
    exact (h7 j hj (by simpa using hj')).2
theorem R0.setSlot' {cx : Cx} {F : Nat → Prop} {ρ : Nat → Value} {e : Env} {σ : Obs} {a : Act} {w : World} {t : Nat} {s : S} (h : R0 cx F ρ (e.put (some t) s) σ a w) : R0 cx F ρ (e.put (some t) (.d .any)) σ a w := by
  have h1 := h.setSlot (t := t) (s := .d .any) (.d (.any _))
  have : ((e.put (some t) s).put (some t) (.d .any)) = e.put (some t) (.d .any) := by
    funext u
    by_cases hu : u = t
    · subst hu; rw [Env.put_same, Env.put_same]
    · rw [Env.put_other _ _ _ _ hu, Env.put_other _ _ _ _ hu, Env.put_other _ _ _ _ hu]
  rwa [this] at h1
/-- A nil slice in an own cell, taken for an own row of nothing. -/
theorem R0.adoptCell {cx : Cx} {F : Nat → Prop} {ρ : Nat → Value} {e : Env} {σ : Obs} {a : Act} {w : World} (h : R0 cx F ρ e σ a w) {id off : Nat} {ss : List S} (id2 ee size : Nat) (hm : (id, Ob.cells ss) ∈ σ) (hs : ss[off]? = some (.d (.v (.slice none 0 0)))) (hid : ∀ p ∈ σ, p.1 ≠ id2) (hfx : cx.free id2 = true) :
    ∃ ρ', R0 cx F ρ' (e.kill id2) (Obs.upd id (.cells ((ss.map (S.kill id2)).set off (.own id2))) ((id2, .row ee size []) :: Obs.kill id2 σ)) a w := by
  refine ⟨fun j => if j = id2 then .slice none 0 0 else ρ j, ?_⟩
  have h1 := h.turn (ρ' := fun j => if j = id2 then .slice none 0 0 else ρ j) (id := id2) (ob := .row ee size []) (row := none) (w' := w) (F' := F) (fun j hj => by simp [hj])
    ⟨rfl, rfl, rfl, Nat.le_refl _, fun _ _ _ => rfl⟩ hfx (fun g hg => by simp at hg) (fun b hb => hb) (fun b hb => .inl hb) h.lt
    ⟨fun _ _ => undef, by simp [World.ownsRow], fun i hi => by simp at hi, fun i hi => by simp at hi, fun g hg => by simp [blk] at hg⟩ (fun g hg => by simp [blk] at hg) ((id2, .row ee size []) :: Obs.kill id2 σ) (fun p hp => by
      cases hp with
      | head => exact .inl rfl
      | tail _ hp => obtain ⟨q, hq, rfl⟩ := Obs.mem_kill hp; exact .inr ⟨q, hq, hid q hq, rfl⟩)
  have hmk : ∀ {σ : Obs}, (id, Ob.cells ss) ∈ σ → (id, Ob.cells (ss.map (S.kill id2))) ∈ Obs.kill id2 σ := by
    intro σ hh
    induction σ with
    | nil => cases hh
    | cons p l ih =>
      cases hh with
      | head => exact .head _
      | tail _ hh => exact .tail _ (ih hh)
  refine h1.recell (s := .d (.v (.slice none 0 0))) (.tail _ (hmk hm)) (by rw [List.getElem?_map, hs]; rfl) fun x hx => ?_
  rw [repS_v hx]
  have := RepS.own (F := F) (ρ := fun j => if j = id2 then Value.slice none 0 0 else ρ j) (w := w) id2
  simpa using this
theorem AWP.adoptCell {cx : Cx} {c : Code} {e : Env} {σ : Obs} {Q : Post} (id2 ee size id off : Nat) {ss : List S} (hm : (id, Ob.cells ss) ∈ σ) (hs : ss[off]? = some (.d (.v (.slice none 0 0)))) (hid : Obs.fresh id2 σ = true)
    (k : AWP cx c (e.kill id2) (Obs.upd id (.cells ((ss.map (S.kill id2)).set off (.own id2))) ((id2, .row ee size []) :: Obs.kill id2 σ)) Q) (hfx : cx.free id2 = true := by rfl) : AWP cx c e σ Q := fun a w ⟨_, _, hr⟩ => by
  obtain ⟨ρ', h⟩ := hr.adoptCell id2 ee size hm hs (Obs.fresh_spec hid) hfx
  exact k a w ⟨_, ρ', h⟩
theorem AOps.adoptCell {cx : Cx} {ops : Array Oper} {rest : List Oper} {e : Env} {σ : Obs} {Q : Post} (id2 ee size id off : Nat) {ss : List S} (hm : (id, Ob.cells ss) ∈ σ) (hs : ss[off]? = some (.d (.v (.slice none 0 0)))) (hid : Obs.fresh id2 σ = true)
    (k : AOps cx ops rest (e.kill id2) (Obs.upd id (.cells ((ss.map (S.kill id2)).set off (.own id2))) ((id2, .row ee size []) :: Obs.kill id2 σ)) Q) (hfx : cx.free id2 = true := by rfl) : AOps cx ops rest e σ Q := fun a w ⟨_, _, hr⟩ => by
  obtain ⟨ρ', h⟩ := hr.adoptCell id2 ee size hm hs (Obs.fresh_spec hid) hfx
  exact k a w ⟨_, ρ', h⟩
/-- An own block of cells that is written no more: it is data now. -/
theorem R0.freezeCells {cx : Cx} {F : Nat → Prop} {ρ : Nat → Value} {e : Env} {σ : Obs} {a : Act} {w : World} (h : R0 cx F ρ e σ a w) {t id : Nat} {ds : List D} (ht : e t = .ptr id 0) (hm : (id, Ob.cells (ds.map S.d)) ∈ σ) :
    ∃ F', R0 cx F' ρ (e.put (some t) (.d (.fp ds))) (Obs.del id σ) a w := by
  have hF2 : ∀ b, (F b ∨ blk (ρ id) = some b) → b < w.heap.size := fun b hb => by
    rcases hb with hb | hb
    · exact h.lt b hb
    · exact ((h.obs.ok _ hm).blk_lt hb).2
  have keep : ∀ {x : Value} {s : S}, RepS F ρ w x s → RepS (fun b => F b ∨ blk (ρ id) = some b) ρ w x s := fun hx =>
    RepS.turn (row := none) hx h.lt (fun g hg => by simp at hg) ⟨rfl, rfl, rfl, Nat.le_refl _, fun _ _ _ => rfl⟩ (fun b hb => .inl hb)
  refine ⟨fun b => F b ∨ blk (ρ id) = some b, h.size, h.defers, hF2, fun b hb => .inl (h.base b hb), fun b hb => ?_, h.below, h.hB, fun u => ?_, ?_, h.up, fun p hp => h.kown p (Obs.mem_del hp).1, h.fixed⟩
  · rcases hb with hb | hb
    · exact h.new b hb
    · exact .inr (h.kown _ hm b hb)
  · by_cases hu : u = t
    · subst hu
      rw [Env.put_same]
      have h1 := h.env u
      rw [ht] at h1
      obtain ⟨g, ty, cs, h2, h3, h4, h5, h6, h7⟩ := h.obs.ok _ hm
      dsimp only at h2
      have hv := ptr_at h1 (g := g) (by rw [h2]; rfl)
      rw [hv]
      refine .d (.fp ⟨g, 0, none⟩ ds (fun j => cs.getD j undef) (.inr (by rw [h2]; rfl)) (fun j hj => ?_) (fun j hj => ?_) (fun j hj => ?_))
      · have hjc : j < cs.length := by simp at h6; omega
        rw [addr_add, cell_of_row w g (0 + j) cs.toArray ty (0, 0) h5]
        simp [hjc]
      · have hjc : j < cs.length := by simp at h6; omega
        have := (h7 j hjc (by simpa using hj)).1
        simpa [hjc] using this
      · have hjc : j < cs.length := by simp at h6; omega
        have h8 := (h7 j hjc (by simpa using hj)).2
        rw [List.getElem_map] at h8
        have h9 := repS_d (keep h8)
        simpa [hjc] using h9
    · rw [Env.put_other _ _ _ _ hu]
      exact keep (h.env u)
  · refine ⟨fun p hp => ?_, fun p hp q hq => h.obs.apart p (Obs.mem_del hp).1 q (Obs.mem_del hq).1, fun p hp q hq => h.obs.uniq p (Obs.mem_del hp).1 q (Obs.mem_del hq).1⟩
    obtain ⟨h1, h2⟩ := Obs.mem_del hp
    exact (h.obs.ok p h1).more h.lt (fun b hb => .inl hb) fun g hg hf => by
      rcases hf with hf | hf
      · exact (h.obs.ok p h1).nF hg hf
      · exact h.obs.apart p h1 _ hm h2 g hg hf
theorem AWP.freezeCells {cx : Cx} {c : Code} {e : Env} {σ : Obs} {Q : Post} (t : Nat) {id : Nat} {ds : List D} (ht : e t = .ptr id 0) (hm : (id, Ob.cells (ds.map S.d)) ∈ σ) (k : AWP cx c (e.put (some t) (.d (.fp ds))) (Obs.del id σ) Q) : AWP cx c e σ Q :=
  fun a w ⟨_, ρ, hr⟩ => by
    obtain ⟨F', h⟩ := hr.freezeCells ht hm
    exact k a w ⟨F', ρ, h⟩
theorem AOps.freezeCells {cx : Cx} {ops : Array Oper} {rest : List Oper} {e : Env} {σ : Obs} {Q : Post} (t : Nat) {id : Nat} {ds : List D} (ht : e t = .ptr id 0) (hm : (id, Ob.cells (ds.map S.d)) ∈ σ) (k : AOps cx ops rest (e.put (some t) (.d (.fp ds))) (Obs.del id σ) Q) : AOps cx ops rest e σ Q :=
  fun a w ⟨_, ρ, hr⟩ => by
    obtain ⟨F', h⟩ := hr.freezeCells ht hm
    exact k a w ⟨F', ρ, h⟩
end Go.Proofs.YtieccphckobhjaaDoor


namespace Go.Proofs.YtieccphckobhjaaDoor
open Go.RowKit
set_option linter.unusedVariables false

theorem S.kill_kill (id : Nat) (s : S) : (s.kill id).kill id = s.kill id := by
  cases s with
  | d x => rfl
  | own i => cases h : Nat.beq i id <;> simp only [S.kill, h]
  | ptr i off => cases h : Nat.beq i id <;> simp only [S.kill, h]
  | clo f caps => cases h : Cap.anyP (fun i => Nat.beq i id) caps <;> simp only [S.kill, h]
theorem Env.kill_kill (id : Nat) (e : Env) : (e.kill id).kill id = e.kill id := by funext t; exact S.kill_kill id (e t)
theorem Env.kill_put {id : Nat} {e : Env} {dst : Option Nat} {s : S} (he : e.kill id = e) (hs : s.kill id = s) : (e.put dst s).kill id = e.put dst s := by
  cases dst with
  | none => exact he
  | some t =>
    funext u
    unfold Env.kill
    by_cases hu : u = t
    · subst hu; rw [Env.put_same, hs]
    · rw [Env.put_other _ _ _ _ hu]; exact congrFun he u
theorem R0.killEnv {cx : Cx} {F : Nat → Prop} {ρ : Nat → Value} {e : Env} {σ : Obs} {a : Act} {w : World} (h : R0 cx F ρ e σ a w) (id : Nat) : R0 cx F ρ (e.kill id) σ a w :=
  ⟨h.size, h.defers, h.lt, h.base, h.new, h.below, h.hB, fun t => (h.env t).kill id (fun _ _ => rfl), h.obs, h.up, h.kown, h.fixed⟩

/-- The operation that makes the block. -/
def AllocOk (cx : Cx) (dst : Nat) (zs : List Value) (o : Oper) : Prop := o.dst = some dst ∧ ∃ t z, o.op = .alloc t ∧ (cx.P.info? t).bind (·.zero) = some z ∧ z.cells.toList = zs
def XStep (cx : Cx) (ops : Array Oper) (σ : Obs) (dst id : Nat) (zs : List Value) (o : Oper) (e : Env) (s : S) : Prop :=
  (GW ops o e true ∧ ((AllocOk cx dst zs o ∧ s = .ptr id 0) ∨ (AOp cx.P cx.B ops o e σ s ∧ o.dst ≠ some dst ∧ s.kill id = s))) ∨ (GW ops o e false ∧ s = .d (.v undef) ∧ o.dst ≠ some dst)
theorem XStep.same {cx : Cx} {ops : Array Oper} {σ : Obs} {dst id : Nat} {zs : List Value} {o : Oper} {e e' : Env} {s : S} (h : XStep cx ops σ dst id zs o e s) (he : ∀ t, t ∈ o.looksAt ops → e' t = e t) : XStep cx ops σ dst id zs o e' s := by
  rcases h with ⟨h1, h2⟩ | ⟨h1, h2⟩
  · exact .inl ⟨h1.same he, h2.imp (fun h => h) fun h => ⟨h.1.same he, h.2⟩⟩
  · exact .inr ⟨h1.same he, h2⟩
def XRun (cx : Cx) (ops : Array Oper) (σ : Obs) (dst id : Nat) (zs : List Value) : List Oper → Env → (Env → Prop) → Prop
  | [], e, Qe => e dst = .ptr id 0 ∧ Qe e
  | o :: l, e, Qe => DstOk cx.N o ∧ ∃ s, XStep cx ops σ dst id zs o e s ∧ XRun cx ops σ dst id zs l (e.put o.dst s) Qe
def anyX (cx : Cx) (ops : Array Oper) (σ : Obs) (dst id : Nat) (zs : List Value) (Qe : Env → Prop) : Nat → Array Bool → Env → Prop
  | 0, listed, e => Region.ready .any ops listed = [] ∧ Qe e
  | fuel + 1, listed, e => (Region.ready .any ops listed = [] → Qe e) ∧
      ∀ i ∈ Region.ready .any ops listed, ∀ o, ops[i]? = some o → ∃ s, XStep cx ops σ dst id zs o e s ∧ anyX cx ops σ dst id zs Qe fuel (listed.setIfInBounds i true) (e.put o.dst s)
theorem anyX_first {cx : Cx} {ops : Array Oper} {σ : Obs} {dst id : Nat} {zs : List Value} {Qe : Env → Prop} {i : Nat} {oi : Oper} {s : S} (hi : ops[i]? = some oi) :
    ∀ (fuel : Nat) (listed : Array Bool) (e : Env),
      (∀ j oj, ops[j]? = some oj → j ≠ i → listed.getD j true = false → (∀ e ∈ oj.after, Region.binds .any e = true → e.on ≠ i) → oi.apart ops oj = true) →
      i ∈ Region.ready .any ops listed → XStep cx ops σ dst id zs oi e s → anyX cx ops σ dst id zs Qe fuel (listed.setIfInBounds i true) (e.put oi.dst s) → anyX cx ops σ dst id zs Qe (fuel + 1) listed e := by
  intro fuel
  induction fuel with
  | zero =>
    intro listed e _ hr hy H
    refine ⟨fun h => (by rw [h] at hr; cases hr), fun j hj o ho => ?_⟩
    by_cases hji : j = i
    · subst hji
      rw [hi] at ho; cases ho
      exact ⟨s, hy, H⟩
    · have := ready_mono hj hji
      rw [H.1] at this
      cases this
  | succ fuel ih =>
    intro listed e hfree hr hy H
    refine ⟨fun h => (by rw [h] at hr; cases hr), fun j hj oj hoj => ?_⟩
    by_cases hji : j = i
    · subst hji
      rw [hi] at hoj; cases hoj
      exact ⟨s, hy, H⟩
    · obtain ⟨sj, h1, h2⟩ := H.2 j (ready_mono hj hji) oj hoj
      obtain ⟨hjun, oj', hoj', hall⟩ := mem_ready.1 hj
      rw [hoj] at hoj'; cases hoj'
      have hnot : ∀ e ∈ oj.after, Region.binds .any e = true → e.on ≠ i := fun e he hb heq => by
        have h1 := hall e he hb
        have h0 := (mem_ready.1 hr).1
        rw [heq] at h1
        rcases Nat.lt_or_ge i listed.size with h' | h'
        · simp [h'] at h0 h1; rw [h0] at h1; cases h1
        · simp [Array.getElem?_eq_none h'] at h1
      obtain ⟨a1, a2, a3⟩ := Oper.apart_spec (hfree j oj hoj hji hjun hnot)
      refine ⟨sj, h1.same (fun t ht => (put_looks a1 t ht).symm), ?_⟩
      refine ih (listed.setIfInBounds j true) (e.put oj.dst sj) (fun k ok hk hki hun hno => ?_) (ready_mono hr (Ne.symm hji)) (hy.same (put_looks a3)) ?_
      · refine hfree k ok hk hki ?_ hno
        by_cases hjk : j = k
        · subst hjk; exact hjun
        · rw [getD_set_ne true hjk] at hun; exact hun
      · rw [Array.setIfInBounds_comm _ _ hji, ← Env.put_comm e oi.dst oj.dst s sj a2]
        exact h2
theorem anyX_lex {cx : Cx} {ops : Array Oper} {σ : Obs} {dst id : Nat} {zs : List Value} {Qe : Env → Prop} : ∀ (l : List Oper) (k : Nat) (listed : Array Bool) (e : Env), (∀ j, l[j]? = ops[k + j]?) →
    Region.lexFrom .any ops l.length k listed = true → XRun cx ops σ dst id zs l e Qe → anyX cx ops σ dst id zs (fun e => e dst = .ptr id 0 ∧ Qe e) l.length listed e
  | [], _, _, _, _, hB, h => ⟨by simpa [Region.lexFrom] using hB, h⟩
  | o :: l, k, listed, e, hl, hB, h => by
    have h0 : ops[k]? = some o := by simpa using (hl 0).symm
    simp only [List.length_cons, Region.lexFrom, Bool.and_eq_true] at hB
    obtain ⟨⟨hr, hf⟩, hB'⟩ := hB
    have hl' : ∀ j, l[j]? = ops[k + 1 + j]? := fun j => by have := hl (j + 1); simpa [Nat.add_assoc, Nat.add_comm 1 j] using this
    obtain ⟨_, s, hs, hK⟩ := h
    exact anyX_first h0 l.length listed e (Region.free_spec h0 hf) (by simpa using hr) hs (anyX_lex l (k + 1) _ _ hl' hB' hK)
theorem XRun.dsts {cx : Cx} {ops : Array Oper} {σ : Obs} {dst id : Nat} {zs : List Value} {Qe : Env → Prop} : ∀ (l : List Oper) (e : Env), XRun cx ops σ dst id zs l e Qe → ∀ o ∈ l, DstOk cx.N o
  | [], _, _, o, ho => by cases ho
  | x :: l, e, h, o, ho => by
    obtain ⟨h1, s, _, h2⟩ := h
    cases ho with
    | head => exact h1
    | tail _ ho => exact XRun.dsts l _ h2 o ho
def RelX (cx : Cx) (σ : Obs) (dst id : Nat) (zs : List Value) (e : Env) (a : Act) (w : World) : Prop :=
  (e.kill id = e ∧ R cx e σ a w) ∨ ∃ e0 : Env, e0.kill id = e0 ∧ e = e0.put (some dst) (.ptr id 0) ∧ R cx e ((id, .cells ((zs.map D.v).map S.d)) :: σ) a w
theorem R0.dropOb {cx : Cx} {F : Nat → Prop} {ρ : Nat → Value} {e : Env} {p : Nat × Ob} {σ : Obs} {a : Act} {w : World} (h : R0 cx F ρ e (p :: σ) a w) : R0 cx F ρ e σ a w :=
  ⟨h.size, h.defers, h.lt, h.base, h.new, h.below, h.hB, h.env, h.obs.sub fun q hq => List.mem_cons_of_mem _ hq, h.up, fun q hq => h.kown q (List.mem_cons_of_mem _ hq), h.fixed⟩
theorem put_put (e : Env) (t : Nat) (s s' : S) : (e.put (some t) s).put (some t) s' = e.put (some t) s' := by
  funext u
  by_cases hu : u = t
  · subst hu; rw [Env.put_same, Env.put_same]
  · rw [Env.put_other _ _ _ _ hu, Env.put_other _ _ _ _ hu, Env.put_other _ _ _ _ hu]
theorem wpAny_of_X {cx : Cx} {ops : Array Oper} {σ : Obs} {dst id : Nat} {zs : List Value} {Q : Post} (hd : ∀ o ∈ ops.toList, DstOk cx.N o) (h1z : zs.all (·.oneCell') = true) (hid : Obs.fresh id σ = true) (hk : Obs.kill id σ = σ) (hfx : cx.free id = true) :
    ∀ (fuel : Nat) (listed : Array Bool) (e : Env) (a : Act) (w : World), RelX cx σ dst id zs e a w →
    anyX cx ops σ dst id zs (fun e => e dst = .ptr id 0 ∧ Q .normal e ((id, .cells ((zs.map D.v).map S.d)) :: σ)) fuel listed e → wpAny cx.P .any ops (lift cx Q) fuel listed a w := by
  have fin : ∀ (e : Env) (a : Act) (w : World), RelX cx σ dst id zs e a w → (e dst = .ptr id 0 ∧ Q .normal e ((id, .cells ((zs.map D.v).map S.d)) :: σ)) → lift cx Q .normal a w := by
    rintro e a w (⟨hke, _⟩ | ⟨e0, _, _, hr⟩) ⟨h1, h2⟩
    · exfalso
      have h3 := congrFun hke dst
      unfold Env.kill at h3
      rw [h1] at h3
      have hb : Nat.beq id id = true := by simp
      simp only [S.kill, hb] at h3
      exact S.noConfusion h3
    · exact ⟨e, _, h2, hr⟩
  intro fuel
  induction fuel with
  | zero => exact fun listed e a w hr h => ⟨h.1, fin e a w hr h.2⟩
  | succ fuel ih =>
    intro listed e a w hr h
    refine ⟨fun h0 => fin e a w hr (h.1 h0), fun i hi => ?_⟩
    obtain ⟨_, o, ho, _⟩ := mem_ready.1 hi
    obtain ⟨s, hs, hkk⟩ := h.2 i hi o ho
    have hdo : DstOk cx.N o := hd o (Array.mem_toList_iff.2 (Array.mem_of_getElem? ho))
    have henv : ∃ F ρ, ∀ t, RepS F ρ w (a.tmps.getD t undef) (e t) := by
      rcases hr with ⟨_, F, ρ, hr⟩ | ⟨_, _, _, F, ρ, hr⟩ <;> exact ⟨F, ρ, hr.env⟩
    obtain ⟨FF, ρρ, henv⟩ := henv
    unfold wpOp
    simp only [ho]
    rcases hs with ⟨hg, ⟨⟨hdst, t, z, hop, hz, hzc⟩, rfl⟩ | ⟨hop, hne, hsk⟩⟩ | ⟨hg, rfl, hne⟩
    · rw [if_pos (hg.wanted (fun t _ => henv t))]
      refine .inl ?_
      -- the block is made
      have hbase : ∃ e0 F ρ, e0.kill id = e0 ∧ e.put (some dst) (.ptr id 0) = e0.put (some dst) (.ptr id 0) ∧ R0 cx F ρ e0 σ a w := by
        rcases hr with ⟨hke, F, ρ, hr⟩ | ⟨e0, hke, he, F, ρ, hr⟩
        · exact ⟨e, F, ρ, hke, rfl, hr⟩
        · refine ⟨e0.put (some dst) (.d .any), F, ρ, Env.kill_put hke rfl, ?_, ?_⟩
          · rw [he, put_put, put_put]
          · have h2 := hr.dropOb
            have h3 := h2.setSlot (t := dst) (s := .d .any) (.d (.any _))
            rwa [he, put_put] at h3
      obtain ⟨e0, F, ρ, hke, hee, hr0⟩ := hbase
      have hdn : dst < cx.N := hdo.lt hdst
      obtain ⟨ρ', h5⟩ := hr0.newCells (ty := t) (cs := z.cells) (ds := zs.map D.v) (Obs.fresh_spec hid) hdn ⟨by simp [← hzc], fun i hi hi' => by simp only [List.getElem_map, ← hzc]; exact .v _⟩ (by rw [hzc]; simpa using h1z) hfx
      obtain ⟨ti, hti, hzz⟩ := Option.bind_eq_some_iff.1 hz
      have hprog : (program : Sem Program).run cx.P w = .ok cx.P w := rfl
      unfold Oper.wp execOp
      simp only [hop, Instr.alloc, Sem.run_bind, zeroValue, typeInfo, hprog, Result.andThen_ok, hti, Sem.run_pure, hzz, newVar, newRow]
      rw [hdst] at hkk
      rw [hk, hke] at h5
      rw [hee] at hkk
      have h6 := ih _ _ _ _ (.inr ⟨e0, hke, rfl, F, ρ', h5⟩) hkk
      rw [← hdst] at h6
      exact h6
    · rw [if_pos (hg.wanted (fun t _ => henv t))]
      rcases hr with ⟨hke, F, ρ, hr⟩ | ⟨e0, hke, he, F, ρ, hr⟩
      · refine .inl (wp_to ?_ (fun _ _ _ => False.elim) (hop F ρ w a hr.lt (fun t _ => hr.env t) hr.obs))
        rintro a' w' ⟨v, F', rfl, hv, hE⟩
        exact ih _ _ _ _ (.inl ⟨Env.kill_put hke hsk, F', ρ, hr.put hE hv hdo⟩) hkk
      · refine .inl (wp_to ?_ (fun _ _ _ => False.elim) (hop F ρ w a hr.lt (fun t _ => hr.env t) (hr.obs.sub fun q hq => List.mem_cons_of_mem _ hq)))
        rintro a' w' ⟨v, F', rfl, hv, hE⟩
        refine ih _ _ _ _ (.inr ⟨e0.put o.dst s, Env.kill_put hke hsk, ?_, F', ρ, hr.put hE hv hdo⟩) hkk
        rw [he]
        exact Env.put_comm e0 (some dst) o.dst _ _ fun d hd he => hne (by rw [he, ← hd])
    · rw [if_neg (by rw [hg.wanted (fun t _ => henv t)]; simp)]
      rcases hr with ⟨hke, F, ρ, hr⟩ | ⟨e0, hke, he, F, ρ, hr⟩
      · exact ih _ _ _ _ (.inl ⟨Env.kill_put hke rfl, F, ρ, hr.put (Ext.refl hr.lt) repS_undef hdo⟩) hkk
      · refine ih _ _ _ _ (.inr ⟨e0.put o.dst (.d (.v undef)), Env.kill_put hke rfl, ?_, F, ρ, hr.put (Ext.refl hr.lt) repS_undef hdo⟩) hkk
        rw [he]
        exact Env.put_comm e0 (some dst) o.dst _ _ fun d hd he => hne (by rw [he, ← hd])
section
variable {cx : Cx} {ops : Array Oper} {σ : Obs} {dst id : Nat} {zs : List Value} {e : Env} {Qe : Env → Prop} {o : Oper} {l : List Oper}
theorem XRun.nil (hd : e dst = .ptr id 0) (h : Qe e) : XRun cx ops σ dst id zs [] e Qe := ⟨hd, h⟩
def neDst (o : Oper) (dst : Nat) : Bool := match o.dst with | none => true | some t => !(Nat.beq t dst)
theorem neDst_spec (h : neDst o dst = true) : o.dst ≠ some dst := fun he => by unfold neDst at h; rw [he] at h; simp at h
theorem XRun.step {s : S} {t : Nat} (hg : GW ops o e true) (ht : o.dst = some t) (hd : Nat.blt t cx.N = true) (h : AOp cx.P cx.B ops o e σ s) (k : XRun cx ops σ dst id zs l (e.put (some t) s) Qe) (hne : neDst o dst = true := by rfl) (hs : s.kill id = s := by rfl) : XRun cx ops σ dst id zs (o :: l) e Qe :=
  ⟨by unfold DstOk; rw [ht]; exact hd, s, .inl ⟨hg, .inr ⟨h, neDst_spec hne, hs⟩⟩, by rw [ht]; exact k⟩
theorem XRun.pass {t : Nat} (hg : GW ops o e false) (ht : o.dst = some t) (hd : Nat.blt t cx.N = true) (k : XRun cx ops σ dst id zs l (e.put (some t) (.d (.v undef))) Qe) (hne : neDst o dst = true := by rfl) : XRun cx ops σ dst id zs (o :: l) e Qe :=
  ⟨by unfold DstOk; rw [ht]; exact hd, _, .inr ⟨hg, rfl, neDst_spec hne⟩, by rw [ht]; exact k⟩
theorem XRun.alloc {t : Nat} {z : Value} (hg : GW ops o e true) (ht : o.dst = some dst) (hd : Nat.blt dst cx.N = true) (ho : o.op = .alloc t) (hz : (cx.P.info? t).bind (·.zero) = some z) (hzc : z.cells.toList = zs) (k : XRun cx ops σ dst id zs l (e.put (some dst) (.ptr id 0)) Qe) : XRun cx ops σ dst id zs (o :: l) e Qe :=
  ⟨by unfold DstOk; rw [ht]; exact hd, _, .inl ⟨hg, .inl ⟨⟨ht, t, z, ho, hz, hzc⟩, rfl⟩⟩, by rw [ht]; exact k⟩
theorem XRun.split (t : Nat) {b : Bool} (ht : e t = .d (.v (.bool b))) (h1 : b = true → XRun cx ops σ dst id zs l (e.put (some t) (.d (.v (.bool true)))) Qe) (h0 : b = false → XRun cx ops σ dst id zs l (e.put (some t) (.d (.v (.bool false)))) Qe) : XRun cx ops σ dst id zs l e Qe := by
  cases b with
  | true => have := h1 rfl; rwa [Env.put_id ht] at this
  | false => have := h0 rfl; rwa [Env.put_id ht] at this
end
/-- A region that draws its order; one of its first k operations makes an own block; those from k on wait for all before them. -/
theorem AWP.drawAlloc {cx : Cx} {rid : Nat} {l : List Oper} {e : Env} {σ : Obs} {Q : Post} (k dst id : Nat) (zs : List Value) (h1z : zs.all (·.oneCell') = true) (hid : Obs.fresh id σ = true) (hk : Obs.kill id σ = σ) (hm : cx.P.follows .mixedOrders = true) (hB : Region.lexB .any (l.take k).toArray = true) (hC : Region.chainB l.toArray k = true)
    (h : XRun cx (l.take k).toArray σ dst id zs (l.take k) (e.kill id) (fun e => AOps cx l.toArray (l.drop k) e ((id, .cells ((zs.map D.v).map S.d)) :: σ) Q)) (hfx : cx.free id = true := by rfl) : AWP cx (.region rid l.toArray true) e σ Q := by
  intro a w ⟨F, ρ, hr⟩
  simp only [Region.lexB, Bool.and_eq_true] at hB
  have hch := Chain.of hC
  have hkl : k ≤ l.length := by simpa using hch.le
  have h1 := anyX_lex (l.take k) 0 (Array.replicate (l.take k).toArray.size false) (e.kill id) (by simp) (by simpa using hB.2) h
  have h2 := wpAny_of_X (cx := cx) (ops := (l.take k).toArray) (Q := fun ex e σ => match ex with | .normal => AOps cx l.toArray (l.drop k) e σ Q | _ => False) (by simpa using XRun.dsts _ _ h) h1z hid hk hfx _ _ (e.kill id) a _ (.inl ⟨Env.kill_kill id e, F, ρ, (hr.killEnv id).drew⟩) h1
  refine wp_region_any hm (wpAny_split hch (ops0 := (l.take k).toArray) (by simp; omega) (fun j hj => by simp [hj]) ?_ ?_ (l.take k).length _ _ _ _ _ (by simp; omega) (by simp) ?_ ?_ ?_ (by simp; omega) h2)
  · rintro a w ⟨e, σ, h3, h4⟩
    have := h3 a w h4
    simpa using this
  · rintro ex a w hne ⟨e, σ, h3, _⟩
    cases ex <;> first | exact absurd rfl hne | exact h3.elim
  · intro j hj d
    have h5 : j < l.length := by omega
    have h6 : j < min k l.length := by omega
    simp [Array.getD_eq_getD_getElem?, h5, h6]
  · intro j hj hj2
    have : j < l.length := by simpa using hj2
    simp [Array.getD_eq_getD_getElem?, this]
  · intro i o ho hi
    have : i < l.length := by simpa using (Array.getElem?_eq_some_iff.1 ho).1
    simp [Array.getD_eq_getD_getElem?, this] at hi
end Go.Proofs.YtieccphckobhjaaDoor


namespace Go.Proofs.YtieccphckobhjaaDoor
open Go.RowKit
set_option linter.unusedVariables false

/-! Types. -/
namespace TyL1
theorem ag_26 : AggT Tryd.prog 26 3 := .of (by kernel_rfl)
theorem ag_73 : AggT Tryd.prog 73 5 := .of (by kernel_rfl)
theorem ag_77 : AggT Tryd.prog 77 7 := .of (by kernel_rfl)
theorem et_23 : ElemTy Tryd.prog 23 73 5 64 (.agg #[(.string ⟨#[]⟩), (.string ⟨#[]⟩), (.string ⟨#[]⟩), (.int .i64 0), (.int .i64 0)]) := ⟨by kernel_rfl, by kernel_rfl, by kernel_rfl, by decide⟩
theorem et_24 : ElemTy Tryd.prog 24 77 7 96 (.agg #[(.string ⟨#[]⟩), (.string ⟨#[]⟩), (.string ⟨#[]⟩), (.int .i64 0), (.int .i64 0), (.int .i64 0), (.slice none 0 0)]) := ⟨by kernel_rfl, by kernel_rfl, by kernel_rfl, by decide⟩
theorem fo_26_1 : fieldOff Tryd.prog 26 1 = some 1 := by kernel_rfl
theorem fo_26_2 : fieldOff Tryd.prog 26 2 = some 2 := by kernel_rfl
theorem fo_28_4 : fieldOff Tryd.prog 28 4 = some 4 := by kernel_rfl
theorem fo_73_3 : fieldOff Tryd.prog 73 3 = some 3 := by kernel_rfl
theorem fo_77_0 : fieldOff Tryd.prog 77 0 = some 0 := by kernel_rfl
theorem sc_23 : Scal Tryd.prog 23 := .of (by kernel_rfl)
theorem sc_24 : Scal Tryd.prog 24 := .of (by kernel_rfl)
theorem sc_3 : Scal Tryd.prog 3 := .of (by kernel_rfl)
theorem sc_9 : Scal Tryd.prog 9 := .of (by kernel_rfl)
theorem sz_73 : ∀ w, (sizeOf 73).run Tryd.prog w = .ok 5 w := SizeT.of (by kernel_rfl)
theorem sz_77 : ∀ w, (sizeOf 77).run Tryd.prog w = .ok 7 w := SizeT.of (by kernel_rfl)
theorem zt_73 : (Tryd.prog.info? 73).bind (·.zero) = some (.agg #[(.string ⟨#[]⟩), (.string ⟨#[]⟩), (.string ⟨#[]⟩), (.int .i64 0), (.int .i64 0)]) := by kernel_rfl
theorem zt_77 : (Tryd.prog.info? 77).bind (·.zero) = some (.agg #[(.string ⟨#[]⟩), (.string ⟨#[]⟩), (.string ⟨#[]⟩), (.int .i64 0), (.int .i64 0), (.int .i64 0), (.slice none 0 0)]) := by kernel_rfl
end TyL1
open TyL1


structure Lck where
  item : ByteArray
  carrier : ByteArray
  what : Int
  many : Int
deriving DecidableEq
def Lck.ds (x : Lck) : List D := [.v (.string x.item), .v (.string x.carrier), .v (.int .i64 x.what), .v (.int .i64 x.many)]
def oldB (p : Pol) (day : Int) (x : Carr) : Bool := decide (p.old < day - x.made)
def zeroCarr : Carr := ⟨⟨#[]⟩, ⟨#[]⟩, ⟨#[]⟩, 0, 0⟩
def carrAt (v : Vlt) (nm : ByteArray) : Carr := (v.carrs[(carrIdx v nm).toNat]?).getD zeroCarr
theorem carrAt_eq {v : Vlt} {nm : ByteArray} {k : Nat} (hk : k < v.carrs.length) (e : carrIdx v nm = k) : carrAt v nm = v.carrs[k] := by
  unfold carrAt; rw [e, Int.toNat_natCast, List.getElem?_eq_getElem hk]; rfl
theorem carrAt_mem {v : Vlt} {nm : ByteArray} (h : 0 ≤ carrIdx v nm) : carrAt v nm ∈ v.carrs := by
  obtain ⟨k, hk, e, _⟩ := idxBy_some h
  rw [carrAt_eq hk e]; exact List.getElem_mem hk
theorem VOk.carr {v : Vlt} (h : VOk v) {x : Carr} (hx : x ∈ v.carrs) : nameOk x.name = true ∧ (0 ≤ x.made ∧ x.made ≤ 200000) ∧ 0 ≤ x.room ∧ x.room ≤ 1000000 := by
  obtain ⟨k, hk, rfl⟩ := List.mem_iff_getElem.1 hx
  exact carrFault_ok hk (ffst_all _ h.carrs k hk)
def goodB (v : Vlt) (p : Pol) (day : Int) (c : Cpy) : Bool := (decide ((c.bad.length : Int) = 0) && decide (c.gen ≤ p.gens)) && !oldB p day (carrAt v c.carrier)
def ofItem (it : ByteArray) (c : Cpy) : Bool := decide (c.item = it)
def copiesTo (v : Vlt) (it : ByteArray) (k : Nat) : List Cpy := (v.copies.take k).filter (ofItem it)
def copiesOf (v : Vlt) (it : ByteArray) : List Cpy := v.copies.filter (ofItem it)
theorem copiesOf_eq (v : Vlt) (it : ByteArray) : copiesTo v it v.copies.length = copiesOf v it := by unfold copiesTo copiesOf; rw [List.take_length]
theorem filter_yes {α : Type} {p : α → Bool} {l : List α} {k : Nat} (hk : k < l.length) (h : p l[k] = true) : (l.take (k + 1)).filter p = (l.take k).filter p ++ [l[k]] := by
  rw [List.take_add_one, List.getElem?_eq_getElem hk, Option.toList_some, List.filter_append, List.filter_cons, List.filter_nil, if_pos h]
theorem filter_no {α : Type} {p : α → Bool} {l : List α} {k : Nat} (hk : k < l.length) (h : p l[k] = false) : (l.take (k + 1)).filter p = (l.take k).filter p := by
  rw [List.take_add_one, List.getElem?_eq_getElem hk, Option.toList_some, List.filter_append, List.filter_cons, List.filter_nil, if_neg (by rw [h]; simp), List.append_nil]
theorem copiesTo_yes {v : Vlt} {it : ByteArray} {k : Nat} (hk : k < v.copies.length) (h : v.copies[k].item = it) : copiesTo v it (k + 1) = copiesTo v it k ++ [v.copies[k]] := filter_yes hk (decide_eq_true h)
theorem copiesTo_no {v : Vlt} {it : ByteArray} {k : Nat} (hk : k < v.copies.length) (h : ¬ v.copies[k].item = it) : copiesTo v it (k + 1) = copiesTo v it k := filter_no hk (decide_eq_false h)
theorem copiesTo_len (v : Vlt) (it : ByteArray) (k : Nat) : (copiesTo v it k).length ≤ v.copies.length := Nat.le_trans (List.length_filter_le _ _) (by rw [List.length_take]; omega)
theorem copiesOf_len (v : Vlt) (it : ByteArray) : (copiesOf v it).length ≤ v.copies.length := List.length_filter_le _ _
theorem copiesOf_mem {v : Vlt} {it : ByteArray} {c : Cpy} (h : c ∈ copiesOf v it) : c ∈ v.copies ∧ c.item = it := by
  unfold copiesOf at h
  rw [List.mem_filter] at h
  exact ⟨h.1, of_decide_eq_true h.2⟩
def goodTo (v : Vlt) (it : ByteArray) (p : Pol) (day : Int) (k : Nat) : List Carr := (((copiesOf v it).take k).filter (goodB v p day)).map fun c => carrAt v c.carrier
def goodOnes (v : Vlt) (it : ByteArray) (p : Pol) (day : Int) : List Carr := ((copiesOf v it).filter (goodB v p day)).map fun c => carrAt v c.carrier
theorem goodTo_yes {v : Vlt} {it : ByteArray} {p : Pol} {day : Int} {k : Nat} (hk : k < (copiesOf v it).length) (h : goodB v p day (copiesOf v it)[k] = true) : goodTo v it p day (k + 1) = goodTo v it p day k ++ [carrAt v (copiesOf v it)[k].carrier] := by
  unfold goodTo; rw [filter_yes hk h, List.map_append]; rfl
theorem goodTo_no {v : Vlt} {it : ByteArray} {p : Pol} {day : Int} {k : Nat} (hk : k < (copiesOf v it).length) (h : goodB v p day (copiesOf v it)[k] = false) : goodTo v it p day (k + 1) = goodTo v it p day k := by
  unfold goodTo; rw [filter_no hk h]
theorem goodTo_all (v : Vlt) (it : ByteArray) (p : Pol) (day : Int) : goodTo v it p day (copiesOf v it).length = goodOnes v it p day := by unfold goodTo goodOnes; rw [List.take_length]
theorem goodTo_len (v : Vlt) (it : ByteArray) (p : Pol) (day : Int) (k : Nat) : (goodTo v it p day k).length ≤ v.copies.length := by
  unfold goodTo
  rw [List.length_map]
  refine Nat.le_trans (List.length_filter_le _ _) ?_
  rw [List.length_take]
  have := copiesOf_len v it
  omega
/-- The same, in one go over all copies. -/
def rGoodTo (v : Vlt) (it : ByteArray) (p : Pol) (day : Int) (k : Nat) : List Carr := ((v.copies.take k).filter fun c => ofItem it c && goodB v p day c).map fun c => carrAt v c.carrier
theorem rGoodTo_all (v : Vlt) (it : ByteArray) (p : Pol) (day : Int) : rGoodTo v it p day v.copies.length = goodOnes v it p day := by
  unfold rGoodTo goodOnes copiesOf
  rw [List.take_length, List.filter_filter]
  congr 2
  funext c
  exact Bool.and_comm _ _
theorem rGoodTo_yes {v : Vlt} {it : ByteArray} {p : Pol} {day : Int} {k : Nat} (hk : k < v.copies.length) (h : (ofItem it v.copies[k] && goodB v p day v.copies[k]) = true) : rGoodTo v it p day (k + 1) = rGoodTo v it p day k ++ [carrAt v v.copies[k].carrier] := by
  unfold rGoodTo; rw [filter_yes (p := fun c => ofItem it c && goodB v p day c) hk h, List.map_append]; rfl
theorem rGoodTo_no {v : Vlt} {it : ByteArray} {p : Pol} {day : Int} {k : Nat} (hk : k < v.copies.length) (h : (ofItem it v.copies[k] && goodB v p day v.copies[k]) = false) : rGoodTo v it p day (k + 1) = rGoodTo v it p day k := by
  unfold rGoodTo; rw [filter_no (p := fun c => ofItem it c && goodB v p day c) hk h]
theorem rGoodTo_len (v : Vlt) (it : ByteArray) (p : Pol) (day : Int) (k : Nat) : (rGoodTo v it p day k).length ≤ v.copies.length := by
  unfold rGoodTo
  rw [List.length_map]
  refine Nat.le_trans (List.length_filter_le _ _) ?_
  rw [List.length_take]
  omega
/-! Sets of strings. -/
instance memDec (s : ByteArray) (l : List ByteArray) : Decidable (s ∈ l) := @List.instDecidableMemOfLawfulBEq ByteArray instBEqOfDecidableEq inferInstance s l
def addS (l : List ByteArray) (s : ByteArray) : List ByteArray := if s ∈ l then l else l ++ [s]
def uniq (l : List ByteArray) : List ByteArray := l.foldl addS []
theorem addS_in {l : List ByteArray} {s : ByteArray} (h : s ∈ l) : addS l s = l := if_pos h
theorem addS_out {l : List ByteArray} {s : ByteArray} (h : ¬ s ∈ l) : addS l s = l ++ [s] := if_neg h
theorem uniq_snoc (l : List ByteArray) (s : ByteArray) : uniq (l ++ [s]) = addS (uniq l) s := by unfold uniq; rw [List.foldl_append]; rfl
theorem addS_nodup {l : List ByteArray} {s : ByteArray} (h : l.Nodup) : (addS l s).Nodup := by
  by_cases hs : s ∈ l
  · rw [addS_in hs]; exact h
  · rw [addS_out hs, List.nodup_append]
    exact ⟨h, by simp, fun a ha b hb => by rw [List.mem_singleton] at hb; subst hb; exact fun e => hs (e ▸ ha)⟩
theorem foldl_addS_nodup : ∀ (l : List ByteArray) {acc : List ByteArray}, acc.Nodup → (l.foldl addS acc).Nodup
  | [], _, h => h
  | s :: l, _, h => foldl_addS_nodup l (addS_nodup h)
theorem uniq_nodup (l : List ByteArray) : (uniq l).Nodup := foldl_addS_nodup l .nil
theorem addS_len (l : List ByteArray) (s : ByteArray) : (addS l s).length ≤ l.length + 1 := by
  by_cases hs : s ∈ l
  · rw [addS_in hs]; omega
  · rw [addS_out hs, List.length_append]; exact Nat.le_refl _
theorem foldl_addS_len : ∀ (l acc : List ByteArray), (l.foldl addS acc).length ≤ acc.length + l.length
  | [], acc => Nat.le_refl _
  | s :: l, acc => by
    have h1 := foldl_addS_len l (addS acc s)
    have h2 := addS_len acc s
    simp only [List.foldl_cons, List.length_cons]
    omega
theorem uniq_len (l : List ByteArray) : (uniq l).length ≤ l.length := by have := foldl_addS_len l []; unfold uniq; simpa using this
def setM (l : List ByteArray) : List (Value × D) := l.map fun s => (.string s, .v (.bool true))
theorem setM_keys {l : List ByteArray} : ∀ p ∈ setM l, MapKept.IsKey .string p.1 := fun p hp => by
  obtain ⟨s, _, rfl⟩ := List.mem_map.1 hp
  trivial
theorem setM_put {l : List ByteArray} {s : ByteArray} (h : l.Nodup) : MPut (setM l) (.string s) (.v (.bool true)) (setM (addS l s)) := by
  by_cases hs : s ∈ l
  · obtain ⟨i, hi, he⟩ := List.mem_iff_getElem.1 hs
    refine .inl ⟨i, .v (.bool true), ?_, fun j p hj hp => ?_, ?_⟩
    · unfold setM; rw [List.getElem?_map, List.getElem?_eq_getElem hi, he]; rfl
    · unfold setM at hj
      rw [List.getElem?_map] at hj
      cases hjl : l[j]? with
      | none => rw [hjl] at hj; simp at hj
      | some u =>
        rw [hjl] at hj
        have hj := Option.some.inj hj
        rw [← hj] at hp
        have hu : u = s := by simpa using hp
        subst hu
        obtain ⟨hjlt, hje⟩ := List.getElem?_eq_some_iff.1 hjl
        exact (List.getElem_inj h).1 (hje.trans he.symm)
    · rw [addS_in hs]
      unfold setM
      apply List.ext_getElem?
      intro j
      rw [List.getElem?_set]
      by_cases hij : i = j
      · subst hij
        rw [if_pos rfl, List.length_map, if_pos hi, List.getElem?_map, List.getElem?_eq_getElem hi, he]; rfl
      · rw [if_neg hij]
  · refine .inr ⟨fun p hp e => ?_, by rw [addS_out hs]; unfold setM; rw [List.map_append]; rfl⟩
    obtain ⟨u, hu, rfl⟩ := List.mem_map.1 hp
    have : u = s := by simpa using e
    subst this
    exact hs hu
def lackC (p : Pol) (l : List Carr) : Int := max 0 (p.copies - (l.length : Int))
def lackP (p : Pol) (l : List Carr) : Int := max 0 (p.places - ((uniq (l.map Carr.place)).length : Int))
def lackK (p : Pol) (l : List Carr) : Int := max 0 (p.kinds - ((uniq (l.map Carr.kind)).length : Int))
def spreadDs (l : List Carr) : List D := [.v (.int .i64 (l.length : Int)), .v (.int .i64 ((uniq (l.map Carr.place)).length : Int)), .v (.int .i64 ((uniq (l.map Carr.kind)).length : Int))]


set_option maxRecDepth 100000 in
set_option maxHeartbeats 1000000 in
theorem c_old (x : Carr) (p : Pol) (day : Int) (hx : 0 ≤ x.made ∧ x.made ≤ 200000) (hd : 0 ≤ day ∧ day ≤ 200001) : ACall Tryd.prog 48 [.agg x.ds, .agg p.ds, .v (.int .i64 day)] (.v (.bool (oldB p day x))) := by
  refine acall_of (n := 14) (ds' := [.v (.bool (oldB p day x))]) Tryd.func48 rfl (by kernel_rfl) rfl [6] rfl rfl ?_
  intro B w0 F0 fr
  refine AWP.seq ?_
  refine AWP.region ?_
  refine AOps.step rfl rfl rfl (AOp.box rfl rfl rfl) ?_
  refine AOps.step rfl rfl rfl (AOp.box rfl rfl rfl) ?_
  refine AOps.step rfl rfl rfl (AOp.assignD rfl rfl) ?_
  refine AOps.nil ?_
  refine AWP.seq ?_
  refine AWP.region ?_
  refine AOps.step rfl rfl rfl (AOp.moveD rfl rfl) ?_
  refine AOps.step rfl rfl rfl (AOp.fieldAddr rfl fo_73_3 rfl) ?_
  refine AOps.step rfl rfl rfl (AOp.load rfl sc_3 rfl) ?_
  refine AOps.step rfl rfl rfl (AOp.sub64 rfl rfl rfl (by omega) (by omega)) ?_
  refine AOps.step rfl rfl rfl (AOp.fieldAddr rfl fo_28_4 rfl) ?_
  refine AOps.step rfl rfl rfl (AOp.load rfl sc_3 rfl) ?_
  refine AOps.step rfl rfl rfl (AOp.gtr rfl rfl rfl) ?_
  refine AOps.step rfl rfl rfl (AOp.assignD rfl rfl) ?_
  refine AOps.nil ?_
  refine AWP.ret ?_
  refine ⟨RetD.eq rfl ?_, trivial⟩
  all_goals (rfl)

set_option maxRecDepth 100000 in
set_option maxHeartbeats 1000000 in
theorem c_rOld (x : Carr) (p : Pol) (day : Int) (hx : 0 ≤ x.made ∧ x.made ≤ 200000) (hp : 1 ≤ p.old ∧ p.old ≤ 200000) : ACall Tryd.prog 84 [.agg x.ds, .agg p.ds, .v (.int .i64 day)] (.v (.bool (oldB p day x))) := by
  refine acall_of (n := 14) (ds' := [.v (.bool (oldB p day x))]) Tryd.func84 rfl (by kernel_rfl) rfl [6] rfl rfl ?_
  intro B w0 F0 fr
  refine AWP.seq ?_
  refine AWP.region ?_
  refine AOps.step rfl rfl rfl (AOp.box rfl rfl rfl) ?_
  refine AOps.step rfl rfl rfl (AOp.box rfl rfl rfl) ?_
  refine AOps.step rfl rfl rfl (AOp.assignD rfl rfl) ?_
  refine AOps.nil ?_
  refine AWP.seq ?_
  refine AWP.region ?_
  refine AOps.step rfl rfl rfl (AOp.moveD rfl rfl) ?_
  refine AOps.step rfl rfl rfl (AOp.fieldAddr rfl fo_73_3 rfl) ?_
  refine AOps.step rfl rfl rfl (AOp.load rfl sc_3 rfl) ?_
  refine AOps.step rfl rfl rfl (AOp.fieldAddr rfl fo_28_4 rfl) ?_
  refine AOps.step rfl rfl rfl (AOp.load rfl sc_3 rfl) ?_
  refine AOps.step rfl rfl rfl (AOp.add64 rfl rfl rfl (by omega) (by omega)) ?_
  refine AOps.step rfl rfl rfl (AOp.gtr rfl rfl rfl) ?_
  refine AOps.step rfl rfl rfl (AOp.assignD rfl rfl) ?_
  refine AOps.nil ?_
  refine AWP.ret ?_
  refine ⟨RetD.eq rfl ?_, trivial⟩
  all_goals ((unfold oldB; rw [decide_eq_decide.2 (by omega : day > x.made + p.old ↔ p.old < day - x.made)]))

set_option maxRecDepth 100000 in
set_option maxHeartbeats 1000000 in
theorem c_carrier (v : Vlt) (nm : ByteArray) (h : 0 ≤ carrIdx v nm) : ACall Tryd.prog 49 [.agg v.ds, .v (.string nm)] (.agg (carrAt v nm).ds) := by
  refine acall_ofR (n := 12) (ds' := [.agg (carrAt v nm).ds]) Tryd.func49 rfl (by kernel_rfl) rfl [.cell 4 73] rfl rfl ?_
  intro B w0 F0 fr
  obtain ⟨k, hk, e, _⟩ := idxBy_some h
  rw [carrAt_eq hk e]
  refine AWP.seq ?_
  refine AWP.region ?_
  refine AOps.step rfl rfl rfl (AOp.box rfl rfl rfl) ?_
  refine AOps.alloc 101 rfl rfl rfl rfl zt_73 rfl rfl rfl ?_
  refine AOps.nil ?_
  refine AWP.seq ?_
  refine AWP.drawTail 7 (by kernel_rfl) (by kernel_rfl) (by kernel_rfl) ?_
  refine DRun.step rfl rfl rfl (AOp.fieldAddr rfl fo_26_1 rfl) ?_
  refine DRun.step rfl rfl rfl (AOp.load rfl sc_23 rfl) ?_
  refine DRun.step rfl rfl rfl (AOp.loadAgg rfl ag_26 rfl rfl) ?_
  refine DRun.step rfl rfl rfl (AOp.moveD rfl rfl) ?_
  refine DRun.step rfl rfl rfl (AOp.call rfl (.cons (ArgOk.rfl' rfl) (.cons (ArgOk.rfl' rfl) .nil)) (c_carrAt _ _)) ?_
  refine DRun.step rfl rfl rfl (AOp.indexAddr rfl et_23 rfl rfl k e (at_list hk) rfl) ?_
  refine DRun.step rfl rfl rfl (AOp.loadAgg rfl ag_73 rfl rfl) ?_
  refine DRun.nil ?_
  refine AOps.store rfl rfl rfl sz_73 rfl (.head _) rfl rfl rfl (Nat.le_of_ble_eq_true rfl) ?_
  refine AOps.nil ?_
  refine AWP.ret ?_
  refine ⟨RetR.agg rfl (.head _) ag_73 rfl (.cons (by first | exact CellD.nil | exact CellD.d | exact CellD.eq (by simp) | (refine CellD.own (by first | exact .head _ | exact .tail _ (.head _)) ?_; rfl)) (.cons (by first | exact CellD.nil | exact CellD.d | exact CellD.eq (by simp) | (refine CellD.own (by first | exact .head _ | exact .tail _ (.head _)) ?_; rfl)) (.cons (by first | exact CellD.nil | exact CellD.d | exact CellD.eq (by simp) | (refine CellD.own (by first | exact .head _ | exact .tail _ (.head _)) ?_; rfl)) (.cons (by first | exact CellD.nil | exact CellD.d | exact CellD.eq (by simp) | (refine CellD.own (by first | exact .head _ | exact .tail _ (.head _)) ?_; rfl)) (.cons (by first | exact CellD.nil | exact CellD.d | exact CellD.eq (by simp) | (refine CellD.own (by first | exact .head _ | exact .tail _ (.head _)) ?_; rfl)) .nil))))), trivial⟩
  all_goals (rfl)

set_option maxRecDepth 100000 in
set_option maxHeartbeats 1000000 in
theorem c_copiesOf (v : Vlt) (it : ByteArray) (hn : v.copies.length ≤ 200) : ACall Tryd.prog 46 [.agg v.ds, .v (.string it)] (.sl ((copiesOf v it).map Cpy.ds)) := by
  refine acall_of (n := 25) (ds' := [.sl ((copiesOf v it).map Cpy.ds)]) Tryd.func46 rfl (by kernel_rfl) rfl [4] rfl rfl ?_
  intro B w0 F0 fr
  refine AWP.seq ?_
  refine AWP.region ?_
  refine AOps.step rfl rfl rfl (AOp.box rfl rfl rfl) ?_
  refine AOps.step rfl rfl rfl (AOp.assignD rfl rfl) ?_
  refine AOps.nil ?_
  refine AWP.seq ?_
  refine AWP.region ?_
  refine AOps.step rfl rfl rfl (AOp.assignD rfl rfl) ?_
  refine AOps.nil ?_
  refine AWP.seq ?_
  refine AWP.seq ?_
  refine AWP.region ?_
  refine AOps.step rfl rfl rfl (AOp.fieldAddr rfl fo_26_2 rfl) ?_
  refine AOps.step rfl rfl rfl (AOp.load rfl sc_24 rfl) ?_
  refine AOps.step rfl rfl rfl (AOp.lenSl rfl et_24.ht rfl) ?_
  refine AOps.step rfl rfl rfl (AOp.moveD rfl rfl) ?_
  refine AOps.nil ?_
  refine AWP.block ?_
  refine AWP.adopt 5 1 77 7 rfl rfl ?_
  refine AWP.loop (G := Nat) (fun k => Env.of [(11, .d (.v (.int .i64 (k : Int)))), (9, .d (.sl (v.copies.map Cpy.ds))), (10, .d (.v (.int .i64 ((v.copies.map Cpy.ds).length : Int)))), (1, .d (.v (.string it))), (5, .own 1)]) (fun k => [(1, .row 77 7 ((copiesTo v it k).map Cpy.ds))]) (fun k => k ≤ v.copies.length) (fun k => v.copies.length - k) 0 (Nat.zero_le _) (Sub.less ⟨(SLe.of_eq rfl), SLe.refl _, SLe.refl _, SLe.refl _, SLe.refl _, trivial⟩ (row_same rfl)) ?_
  intro k hk
  refine AWP.seq ?_
  refine AWP.region ?_
  refine AOps.step rfl rfl rfl (AOp.lss rfl rfl rfl) ?_
  refine AOps.nil ?_
  refine AWP.seq ?_
  refine AWP.cond rfl (fun h1 => ?_) (fun h1 => ?_)
  · replace h1 := of_decide_eq_true h1
    rw [List.length_map] at h1
    have hlt : k < v.copies.length := by omega
    have hcl := copiesTo_len v it k
    refine AWP.skip ?_
    refine AWP.seq ?_
    refine AWP.block ?_
    refine AWP.seq ?_
    refine AWP.region ?_
    refine AOps.step rfl rfl rfl (AOp.indexAddr rfl et_24 rfl rfl k rfl (at_list hlt) rfl) ?_
    refine AOps.step rfl rfl rfl (AOp.loadAgg rfl ag_77 rfl rfl) ?_
    refine AOps.alloc 101 rfl rfl rfl rfl zt_77 rfl rfl rfl ?_
    refine AOps.store rfl rfl rfl sz_77 rfl (.head _) rfl rfl rfl (Nat.le_of_ble_eq_true rfl) ?_
    refine AOps.nil ?_
    refine AWP.seq ?_
    refine AWP.region ?_
    refine AOps.step rfl rfl rfl (AOp.fieldAddrP rfl fo_77_0 rfl) ?_
    refine AOps.step rfl rfl rfl (AOp.loadP rfl sc_9 rfl (.head _) rfl) ?_
    refine AOps.step rfl rfl rfl (AOp.moveD rfl rfl) ?_
    refine AOps.step rfl rfl rfl (AOp.seql rfl rfl rfl) ?_
    refine AOps.nil ?_
    refine AWP.cond rfl (fun h2 => ?_) (fun h2 => ?_)
    · replace h2 := of_decide_eq_true h2
      have HY := copiesTo_yes hlt h2
      refine AWP.region ?_
      refine AOps.step rfl rfl rfl (AOp.moveO rfl rfl) ?_
      refine AOps.step rfl rfl rfl (AOp.loadPU rfl ag_77 rfl (.head _) rfl rfl) ?_
      refine AOps.step rfl rfl rfl (AOp.buildSlice rfl et_24 (.cons rfl rfl rfl .nil) rfl (by decide)) ?_
      -- append 22
      refine AOps.append rfl rfl rfl rfl et_24 rfl (.tail _ (.head _)) rfl (by simp [D.parts]; rfl) (by simp; omega) (by simp; omega) ?_
      refine AOps.step rfl rfl rfl (AOp.assignO rfl rfl) ?_
      refine AOps.nil ?_
      refine AWP.region ?_
      refine AOps.step rfl rfl rfl (AOp.add64 rfl rfl rfl (by omega) (by omega)) ?_
      refine AOps.step rfl rfl rfl (AOp.moveD rfl rfl) ?_
      refine AOps.nil ?_
      refine ⟨k + 1, (by omega), (by dsimp only; omega), Sub.less ⟨(SLe.of_eq rfl), SLe.refl _, SLe.refl _, SLe.refl _, SLe.refl _, trivial⟩ (row_same2 (by rw [HY, List.map_append]; rfl))⟩
    · replace h2 := of_decide_eq_false h2
      have HY := copiesTo_no hlt h2
      refine AWP.skip ?_
      refine AWP.region ?_
      refine AOps.step rfl rfl rfl (AOp.add64 rfl rfl rfl (by omega) (by omega)) ?_
      refine AOps.step rfl rfl rfl (AOp.moveD rfl rfl) ?_
      refine AOps.nil ?_
      refine ⟨k + 1, (by omega), (by dsimp only; omega), Sub.less ⟨(SLe.of_eq rfl), SLe.refl _, SLe.refl _, SLe.refl _, SLe.refl _, trivial⟩ (row_same2 (by rw [HY]))⟩
  · replace h1 := of_decide_eq_false h1
    rw [List.length_map] at h1
    obtain rfl : k = v.copies.length := by omega
    have HE := copiesOf_eq v it
    refine AWP.exit ?_
    refine AWP.seq ?_
    refine AWP.region ?_
    refine AOps.step rfl rfl rfl (AOp.moveO rfl rfl) ?_
    refine AOps.step rfl rfl rfl (AOp.assignO rfl rfl) ?_
    refine AOps.nil ?_
    refine AWP.ret ?_
    refine ⟨RetD.own rfl (.head _) ?_, trivial⟩
    all_goals (rw [HE])

end Go.Proofs.YtieccphckobhjaaDoor


namespace Go.Proofs.YtieccphckobhjaaDoor
open Go.RowKit
set_option linter.unusedVariables false

/-! Types. -/
namespace TyL2
theorem ag_26 : AggT Tryd.prog 26 3 := .of (by kernel_rfl)
theorem ag_28 : AggT Tryd.prog 28 6 := .of (by kernel_rfl)
theorem ag_73 : AggT Tryd.prog 73 5 := .of (by kernel_rfl)
theorem ag_77 : AggT Tryd.prog 77 7 := .of (by kernel_rfl)
theorem ag_91 : AggT Tryd.prog 91 3 := .of (by kernel_rfl)
theorem bu_91 : StructT Tryd.prog 91 (fun i => (#[(0, 1), (1, 1), (2, 1)] : Array (Nat × Nat))[i]?) [(.int .i64 0), (.int .i64 0), (.int .i64 0)] := .of (by kernel_rfl) (by kernel_rfl) (by decide)
theorem et_111 : ElemTy Tryd.prog 111 9 1 16 (.string ⟨#[]⟩) := ⟨by kernel_rfl, by kernel_rfl, by kernel_rfl, by decide⟩
theorem et_23 : ElemTy Tryd.prog 23 73 5 64 (.agg #[(.string ⟨#[]⟩), (.string ⟨#[]⟩), (.string ⟨#[]⟩), (.int .i64 0), (.int .i64 0)]) := ⟨by kernel_rfl, by kernel_rfl, by kernel_rfl, by decide⟩
theorem et_24 : ElemTy Tryd.prog 24 77 7 96 (.agg #[(.string ⟨#[]⟩), (.string ⟨#[]⟩), (.string ⟨#[]⟩), (.int .i64 0), (.int .i64 0), (.int .i64 0), (.slice none 0 0)]) := ⟨by kernel_rfl, by kernel_rfl, by kernel_rfl, by decide⟩
theorem et_75 : ElemTy Tryd.prog 75 3 1 8 (.int .i64 0) := ⟨by kernel_rfl, by kernel_rfl, by kernel_rfl, by decide⟩
theorem fo_28_0 : fieldOff Tryd.prog 28 0 = some 0 := by kernel_rfl
theorem fo_28_1 : fieldOff Tryd.prog 28 1 = some 1 := by kernel_rfl
theorem fo_28_2 : fieldOff Tryd.prog 28 2 = some 2 := by kernel_rfl
theorem fo_28_5 : fieldOff Tryd.prog 28 5 = some 5 := by kernel_rfl
theorem fo_73_1 : fieldOff Tryd.prog 73 1 = some 1 := by kernel_rfl
theorem fo_73_2 : fieldOff Tryd.prog 73 2 = some 2 := by kernel_rfl
theorem fo_77_1 : fieldOff Tryd.prog 77 1 = some 1 := by kernel_rfl
theorem fo_77_5 : fieldOff Tryd.prog 77 5 = some 5 := by kernel_rfl
theorem fo_77_6 : fieldOff Tryd.prog 77 6 = some 6 := by kernel_rfl
theorem fo_91_0 : fieldOff Tryd.prog 91 0 = some 0 := by kernel_rfl
theorem fo_91_1 : fieldOff Tryd.prog 91 1 = some 1 := by kernel_rfl
theorem fo_91_2 : fieldOff Tryd.prog 91 2 = some 2 := by kernel_rfl
theorem kk_9 : Tryd.prog.underlying 9 = some .string := by kernel_rfl
theorem mt_136 : Tryd.prog.underlying 136 = some (.map 9 4) := by kernel_rfl
theorem sc_3 : Scal Tryd.prog 3 := .of (by kernel_rfl)
theorem sc_75 : Scal Tryd.prog 75 := .of (by kernel_rfl)
theorem sc_9 : Scal Tryd.prog 9 := .of (by kernel_rfl)
theorem sz_73 : ∀ w, (sizeOf 73).run Tryd.prog w = .ok 5 w := SizeT.of (by kernel_rfl)
theorem sz_77 : ∀ w, (sizeOf 77).run Tryd.prog w = .ok 7 w := SizeT.of (by kernel_rfl)
theorem sz_91 : ∀ w, (sizeOf 91).run Tryd.prog w = .ok 3 w := SizeT.of (by kernel_rfl)
theorem zt_73 : (Tryd.prog.info? 73).bind (·.zero) = some (.agg #[(.string ⟨#[]⟩), (.string ⟨#[]⟩), (.string ⟨#[]⟩), (.int .i64 0), (.int .i64 0)]) := by kernel_rfl
theorem zt_77 : (Tryd.prog.info? 77).bind (·.zero) = some (.agg #[(.string ⟨#[]⟩), (.string ⟨#[]⟩), (.string ⟨#[]⟩), (.int .i64 0), (.int .i64 0), (.int .i64 0), (.slice none 0 0)]) := by kernel_rfl
theorem zt_91 : (Tryd.prog.info? 91).bind (·.zero) = some (.agg #[(.int .i64 0), (.int .i64 0), (.int .i64 0)]) := by kernel_rfl
end TyL2
open TyL2


theorem idxBy_mem {α : Type} {p : α → Bool} {l : List α} : 0 ≤ idxBy p l ↔ ∃ x ∈ l, p x = true := by
  constructor
  · intro h
    obtain ⟨k, hk, _, hp⟩ := idxBy_some h
    exact ⟨_, List.getElem_mem hk, hp⟩
  · rintro ⟨x, hx, hp⟩
    unfold idxBy
    rw [if_pos (List.any_eq_true.2 ⟨x, hx, hp⟩)]
    omega
theorem idx_str {l : List ByteArray} {s : ByteArray} : idxBy (fun x => decide (s = x)) l ≥ 0 ↔ s ∈ l := by
  rw [ge_iff_le, idxBy_mem]
  constructor
  · rintro ⟨x, hx, hp⟩
    rw [of_decide_eq_true hp]; exact hx
  · exact fun h => ⟨s, h, decide_eq_true rfl⟩
theorem place_next {l : List Carr} {k : Nat} (hk : k < l.length) : uniq ((l.take (k + 1)).map Carr.place) = addS (uniq ((l.take k).map Carr.place)) l[k].place := by rw [take_snoc_map Carr.place hk, uniq_snoc]
theorem kind_next {l : List Carr} {k : Nat} (hk : k < l.length) : uniq ((l.take (k + 1)).map Carr.kind) = addS (uniq ((l.take k).map Carr.kind)) l[k].kind := by rw [take_snoc_map Carr.kind hk, uniq_snoc]
theorem row_map2 {i j k2 : Nat} {A A' B B' : List (Value × D)} {o : Ob} {τ : Obs} (h1 : A = A') (h2 : B = B') : ∀ p ∈ [(i, Ob.map A'), (j, Ob.map B'), (k2, o)], p ∈ (i, Ob.map A) :: (j, Ob.map B) :: (k2, o) :: τ := fun p hp => by
  subst h1; subst h2
  rcases List.mem_cons.1 hp with rfl | hp
  · exact .head _
  · rcases List.mem_cons.1 hp with rfl | hp
    · exact .tail _ (.head _)
    · rw [List.mem_singleton] at hp; subst hp; exact .tail _ (.tail _ (.head _))
theorem uniqP_len (l : List Carr) : (uniq (l.map Carr.place)).length ≤ l.length := by have := uniq_len (l.map Carr.place); simpa using this
theorem uniqK_len (l : List Carr) : (uniq (l.map Carr.kind)).length ≤ l.length := by have := uniq_len (l.map Carr.kind); simpa using this
theorem setM_len (l : List ByteArray) : (setM l).length = l.length := by unfold setM; simp
theorem upd_map {i : Nat} {A : List (Value × D)} : True := trivial


set_option maxRecDepth 100000 in
set_option maxHeartbeats 1000000 in
theorem c_good (v : Vlt) (c : Cpy) (p : Pol) (day : Int) (vo : VOk v) (hc : 0 ≤ carrIdx v c.carrier) (hd : 0 ≤ day ∧ day ≤ 200000) : ACall Tryd.prog 83 [.agg v.ds, .agg c.ds, .agg p.ds, .v (.int .i64 day)] (.v (.bool (goodB v p day c))) := by
  refine acall_of (n := 30) (ds' := [.v (.bool (goodB v p day c))]) Tryd.func83 rfl (by kernel_rfl) rfl [8] rfl rfl ?_
  intro B w0 F0 fr
  have hcb := vo.carr (carrAt_mem hc)
  refine AWP.seq ?_
  refine AWP.region ?_
  refine AOps.step rfl rfl rfl (AOp.box rfl rfl rfl) ?_
  refine AOps.step rfl rfl rfl (AOp.box rfl rfl rfl) ?_
  refine AOps.step rfl rfl rfl (AOp.box rfl rfl rfl) ?_
  refine AOps.step rfl rfl rfl (AOp.assignD rfl rfl) ?_
  refine AOps.nil ?_
  refine AWP.seq ?_
  refine AWP.draw (by kernel_rfl) (by kernel_rfl) ?_
  refine DRun.step rfl rfl rfl (AOp.fieldAddr rfl fo_77_6 rfl) ?_
  refine DRun.step rfl rfl rfl (AOp.load rfl sc_75 rfl) ?_
  refine DRun.step rfl rfl rfl (AOp.lenSl rfl et_75.ht rfl) ?_
  refine DRun.step rfl rfl rfl (AOp.eql rfl rfl rfl) ?_
  refine DRun.step rfl rfl rfl (AOp.moveD rfl rfl) ?_
  refine DRun.split 13 rfl (fun g1 => ?_) (fun g1 => ?_)
  · replace g1 := of_decide_eq_true g1
    rw [List.length_map] at g1
    have hA := g1
    refine DRun.step ⟨13, rfl, .inl ⟨_, rfl, rfl⟩⟩ rfl rfl (AOp.fieldAddr rfl fo_77_5 rfl) ?_
    refine DRun.step ⟨13, rfl, .inl ⟨_, rfl, rfl⟩⟩ rfl rfl (AOp.load rfl sc_3 rfl) ?_
    refine DRun.step ⟨13, rfl, .inl ⟨_, rfl, rfl⟩⟩ rfl rfl (AOp.fieldAddr rfl fo_28_5 rfl) ?_
    refine DRun.step ⟨13, rfl, .inl ⟨_, rfl, rfl⟩⟩ rfl rfl (AOp.load rfl sc_3 rfl) ?_
    refine DRun.step ⟨13, rfl, .inl ⟨_, rfl, rfl⟩⟩ rfl rfl (AOp.leq rfl rfl rfl) ?_
    refine DRun.step rfl rfl rfl (AOp.pickT rfl rfl rfl) ?_
    refine DRun.step rfl rfl rfl (AOp.moveD rfl rfl) ?_
    refine DRun.split 20 rfl (fun g2 => ?_) (fun g2 => ?_)
    · replace g2 := of_decide_eq_true g2
      have HG : goodB v p day c = !oldB p day (carrAt v c.carrier) := by unfold goodB; rw [decide_eq_true hA, decide_eq_true g2]; rfl
      rw [HG]
      refine DRun.step ⟨20, rfl, .inl ⟨_, rfl, rfl⟩⟩ rfl rfl (AOp.loadAgg rfl ag_26 rfl rfl) ?_
      refine DRun.step ⟨20, rfl, .inl ⟨_, rfl, rfl⟩⟩ rfl rfl (AOp.fieldAddr rfl fo_77_1 rfl) ?_
      refine DRun.step ⟨20, rfl, .inl ⟨_, rfl, rfl⟩⟩ rfl rfl (AOp.load rfl sc_9 rfl) ?_
      refine DRun.step ⟨20, rfl, .inl ⟨_, rfl, rfl⟩⟩ rfl rfl (AOp.call rfl (.cons (ArgOk.rfl' rfl) (.cons (ArgOk.rfl' rfl) .nil)) (c_carrier v _ hc)) ?_
      refine DRun.step ⟨20, rfl, .inl ⟨_, rfl, rfl⟩⟩ rfl rfl (AOp.loadAgg rfl ag_28 rfl rfl) ?_
      refine DRun.step ⟨20, rfl, .inl ⟨_, rfl, rfl⟩⟩ rfl rfl (AOp.moveD rfl rfl) ?_
      refine DRun.step ⟨20, rfl, .inl ⟨_, rfl, rfl⟩⟩ rfl rfl (AOp.call rfl (.cons (ArgOk.rfl' rfl) (.cons (ArgOk.rfl' rfl) (.cons (ArgOk.rfl' rfl) .nil))) (c_old _ p day hcb.2.1 (by omega))) ?_
      refine DRun.step ⟨20, rfl, .inl ⟨_, rfl, rfl⟩⟩ rfl rfl (AOp.not rfl rfl) ?_
      refine DRun.step rfl rfl rfl (AOp.pickT rfl rfl rfl) ?_
      refine DRun.step rfl rfl rfl (AOp.assignD rfl rfl) ?_
      refine DRun.nil ?_
      refine AWP.ret ?_
      refine ⟨RetD.eq rfl ?_, trivial⟩
      all_goals (rfl)
    · replace g2 := of_decide_eq_false g2
      have HG : goodB v p day c = false := by unfold goodB; rw [decide_eq_true hA, decide_eq_false g2]; rfl
      rw [HG]
      refine DRun.pass ⟨20, rfl, .inl ⟨_, rfl, rfl⟩⟩ rfl rfl ?_
      refine DRun.pass ⟨20, rfl, .inl ⟨_, rfl, rfl⟩⟩ rfl rfl ?_
      refine DRun.pass ⟨20, rfl, .inl ⟨_, rfl, rfl⟩⟩ rfl rfl ?_
      refine DRun.pass ⟨20, rfl, .inl ⟨_, rfl, rfl⟩⟩ rfl rfl ?_
      refine DRun.pass ⟨20, rfl, .inl ⟨_, rfl, rfl⟩⟩ rfl rfl ?_
      refine DRun.pass ⟨20, rfl, .inl ⟨_, rfl, rfl⟩⟩ rfl rfl ?_
      refine DRun.pass ⟨20, rfl, .inl ⟨_, rfl, rfl⟩⟩ rfl rfl ?_
      refine DRun.pass ⟨20, rfl, .inl ⟨_, rfl, rfl⟩⟩ rfl rfl ?_
      refine DRun.step rfl rfl rfl (AOp.pickF rfl rfl rfl) ?_
      refine DRun.step rfl rfl rfl (AOp.assignD rfl rfl) ?_
      refine DRun.nil ?_
      refine AWP.ret ?_
      refine ⟨RetD.eq rfl ?_, trivial⟩
      all_goals (rfl)
  · replace g1 := of_decide_eq_false g1
    rw [List.length_map] at g1
    have HG : goodB v p day c = false := by unfold goodB; rw [decide_eq_false g1]; rfl
    rw [HG]
    refine DRun.pass ⟨13, rfl, .inl ⟨_, rfl, rfl⟩⟩ rfl rfl ?_
    refine DRun.pass ⟨13, rfl, .inl ⟨_, rfl, rfl⟩⟩ rfl rfl ?_
    refine DRun.pass ⟨13, rfl, .inl ⟨_, rfl, rfl⟩⟩ rfl rfl ?_
    refine DRun.pass ⟨13, rfl, .inl ⟨_, rfl, rfl⟩⟩ rfl rfl ?_
    refine DRun.pass ⟨13, rfl, .inl ⟨_, rfl, rfl⟩⟩ rfl rfl ?_
    refine DRun.step rfl rfl rfl (AOp.pickF rfl rfl rfl) ?_
    refine DRun.step rfl rfl rfl (AOp.moveD rfl rfl) ?_
    refine DRun.pass ⟨20, rfl, .inl ⟨_, rfl, rfl⟩⟩ rfl rfl ?_
    refine DRun.pass ⟨20, rfl, .inl ⟨_, rfl, rfl⟩⟩ rfl rfl ?_
    refine DRun.pass ⟨20, rfl, .inl ⟨_, rfl, rfl⟩⟩ rfl rfl ?_
    refine DRun.pass ⟨20, rfl, .inl ⟨_, rfl, rfl⟩⟩ rfl rfl ?_
    refine DRun.pass ⟨20, rfl, .inl ⟨_, rfl, rfl⟩⟩ rfl rfl ?_
    refine DRun.pass ⟨20, rfl, .inl ⟨_, rfl, rfl⟩⟩ rfl rfl ?_
    refine DRun.pass ⟨20, rfl, .inl ⟨_, rfl, rfl⟩⟩ rfl rfl ?_
    refine DRun.pass ⟨20, rfl, .inl ⟨_, rfl, rfl⟩⟩ rfl rfl ?_
    refine DRun.step rfl rfl rfl (AOp.pickF rfl rfl rfl) ?_
    refine DRun.step rfl rfl rfl (AOp.assignD rfl rfl) ?_
    refine DRun.nil ?_
    refine AWP.ret ?_
    refine ⟨RetD.eq rfl ?_, trivial⟩
    all_goals (rfl)

set_option maxRecDepth 100000 in
set_option maxHeartbeats 1000000 in
theorem c_goodOnes (v : Vlt) (it : ByteArray) (p : Pol) (day : Int) (vo : VOk v) (po : POk p) (hd : 0 ≤ day ∧ day ≤ 200000) : ACall Tryd.prog 44 [.agg v.ds, .v (.string it), .agg p.ds, .v (.int .i64 day)] (.sl ((goodOnes v it p day).map Carr.ds)) := by
  refine acall_of (n := 34) (ds' := [.sl ((goodOnes v it p day).map Carr.ds)]) Tryd.func44 rfl (by kernel_rfl) rfl [8] rfl rfl ?_
  intro B w0 F0 fr
  have hnp := vo.np
  have hol := copiesOf_len v it
  refine AWP.seq ?_
  refine AWP.region ?_
  refine AOps.step rfl rfl rfl (AOp.box rfl rfl rfl) ?_
  refine AOps.step rfl rfl rfl (AOp.box rfl rfl rfl) ?_
  refine AOps.step rfl rfl rfl (AOp.assignD rfl rfl) ?_
  refine AOps.nil ?_
  refine AWP.seq ?_
  refine AWP.region ?_
  refine AOps.step rfl rfl rfl (AOp.assignD rfl rfl) ?_
  refine AOps.nil ?_
  refine AWP.seq ?_
  refine AWP.seq ?_
  refine AWP.region ?_
  refine AOps.step rfl rfl rfl (AOp.loadAgg rfl ag_26 rfl rfl) ?_
  refine AOps.step rfl rfl rfl (AOp.moveD rfl rfl) ?_
  refine AOps.step rfl rfl rfl (AOp.call rfl (.cons (ArgOk.rfl' rfl) (.cons (ArgOk.rfl' rfl) .nil)) (c_copiesOf v it vo.np)) ?_
  refine AOps.step rfl rfl rfl (AOp.lenSl rfl et_24.ht rfl) ?_
  refine AOps.step rfl rfl rfl (AOp.moveD rfl rfl) ?_
  refine AOps.nil ?_
  refine AWP.block ?_
  refine AWP.adopt 9 1 73 5 rfl rfl ?_
  refine AWP.loop (G := Nat) (fun k => Env.of [(16, .d (.v (.int .i64 (k : Int)))), (14, .d (.sl ((copiesOf v it).map Cpy.ds))), (15, .d (.v (.int .i64 (((copiesOf v it).map Cpy.ds).length : Int)))), (4, .d (.fp v.ds)), (6, .d (.fp p.ds)), (3, .d (.v (.int .i64 day))), (9, .own 1)]) (fun k => [(1, .row 73 5 ((goodTo v it p day k).map Carr.ds))]) (fun k => k ≤ (copiesOf v it).length) (fun k => (copiesOf v it).length - k) 0 (Nat.zero_le _) (Sub.less ⟨(SLe.of_eq rfl), SLe.refl _, SLe.refl _, SLe.refl _, SLe.refl _, SLe.refl _, SLe.refl _, trivial⟩ (row_same rfl)) ?_
  intro k hk
  refine AWP.seq ?_
  refine AWP.region ?_
  refine AOps.step rfl rfl rfl (AOp.lss rfl rfl rfl) ?_
  refine AOps.nil ?_
  refine AWP.seq ?_
  refine AWP.cond rfl (fun h1 => ?_) (fun h1 => ?_)
  · replace h1 := of_decide_eq_true h1
    rw [List.length_map] at h1
    have hlt : k < (copiesOf v it).length := by omega
    have hcl := goodTo_len v it p day k
    have hco := vo.cpy _ (copiesOf_mem (List.getElem_mem hlt)).1
    refine AWP.skip ?_
    refine AWP.seq ?_
    refine AWP.block ?_
    refine AWP.seq ?_
    refine AWP.region ?_
    refine AOps.step rfl rfl rfl (AOp.indexAddr rfl et_24 rfl rfl k rfl (at_list hlt) rfl) ?_
    refine AOps.step rfl rfl rfl (AOp.loadAgg rfl ag_77 rfl rfl) ?_
    refine AOps.alloc 101 rfl rfl rfl rfl zt_77 rfl rfl rfl ?_
    refine AOps.store rfl rfl rfl sz_77 rfl (.head _) rfl rfl rfl (Nat.le_of_ble_eq_true rfl) ?_
    refine AOps.freezeCells 11 (ds := (copiesOf v it)[k].ds) rfl (.head _) ?_
    refine AOps.nil ?_
    refine AWP.seq ?_
    refine AWP.region ?_
    refine AOps.step rfl rfl rfl (AOp.loadAgg rfl ag_26 rfl rfl) ?_
    refine AOps.step rfl rfl rfl (AOp.loadAgg rfl ag_77 rfl rfl) ?_
    refine AOps.step rfl rfl rfl (AOp.loadAgg rfl ag_28 rfl rfl) ?_
    refine AOps.step rfl rfl rfl (AOp.moveD rfl rfl) ?_
    refine AOps.step rfl rfl rfl (AOp.call rfl (.cons (ArgOk.rfl' rfl) (.cons (ArgOk.rfl' rfl) (.cons (ArgOk.rfl' rfl) (.cons (ArgOk.rfl' rfl) .nil)))) (c_good v _ p day vo hco.carr hd)) ?_
    refine AOps.nil ?_
    refine AWP.cond rfl (fun h2 => ?_) (fun h2 => ?_)
    · skip
      have HY := goodTo_yes hlt h2
      refine AWP.region ?_
      refine AOps.step rfl rfl rfl (AOp.moveO rfl rfl) ?_
      refine AOps.step rfl rfl rfl (AOp.loadAgg rfl ag_26 rfl rfl) ?_
      refine AOps.step rfl rfl rfl (AOp.fieldAddr rfl fo_77_1 rfl) ?_
      refine AOps.step rfl rfl rfl (AOp.load rfl sc_9 rfl) ?_
      refine AOps.step rfl rfl rfl (AOp.call rfl (.cons (ArgOk.rfl' rfl) (.cons (ArgOk.rfl' rfl) .nil)) (c_carrier v _ hco.carr)) ?_
      refine AOps.step rfl rfl rfl (AOp.buildSlice rfl et_23 (.cons rfl rfl rfl .nil) rfl (by decide)) ?_
      -- append 31
      refine AOps.append rfl rfl rfl rfl et_23 rfl (.head _) rfl (by simp [D.parts]; rfl) (by simp; omega) (by simp; omega) ?_
      refine AOps.step rfl rfl rfl (AOp.assignO rfl rfl) ?_
      refine AOps.nil ?_
      refine AWP.region ?_
      refine AOps.step rfl rfl rfl (AOp.add64 rfl rfl rfl (by omega) (by omega)) ?_
      refine AOps.step rfl rfl rfl (AOp.moveD rfl rfl) ?_
      refine AOps.nil ?_
      refine ⟨k + 1, (by omega), (by dsimp only; omega), Sub.less ⟨(SLe.of_eq rfl), SLe.refl _, SLe.refl _, SLe.refl _, SLe.refl _, SLe.refl _, SLe.refl _, trivial⟩ (row_same (by rw [HY, List.map_append]; rfl))⟩
    · skip
      have HY := goodTo_no hlt h2
      refine AWP.skip ?_
      refine AWP.region ?_
      refine AOps.step rfl rfl rfl (AOp.add64 rfl rfl rfl (by omega) (by omega)) ?_
      refine AOps.step rfl rfl rfl (AOp.moveD rfl rfl) ?_
      refine AOps.nil ?_
      refine ⟨k + 1, (by omega), (by dsimp only; omega), Sub.less ⟨(SLe.of_eq rfl), SLe.refl _, SLe.refl _, SLe.refl _, SLe.refl _, SLe.refl _, SLe.refl _, trivial⟩ (row_same (by rw [HY]))⟩
  · replace h1 := of_decide_eq_false h1
    rw [List.length_map] at h1
    obtain rfl : k = (copiesOf v it).length := by omega
    have HE := goodTo_all v it p day
    refine AWP.exit ?_
    refine AWP.seq ?_
    refine AWP.region ?_
    refine AOps.step rfl rfl rfl (AOp.moveO rfl rfl) ?_
    refine AOps.step rfl rfl rfl (AOp.assignO rfl rfl) ?_
    refine AOps.nil ?_
    refine AWP.ret ?_
    refine ⟨RetD.own rfl (.head _) ?_, trivial⟩
    all_goals (rw [HE])

set_option maxRecDepth 100000 in
set_option maxHeartbeats 1000000 in
theorem c_spreadOf (l : List Carr) (hl : l.length ≤ 200) : ACall Tryd.prog 43 [.sl (l.map Carr.ds)] (.agg (spreadDs l)) := by
  refine acall_ofR (n := 29) (ds' := [.agg (spreadDs l)]) Tryd.func43 rfl (by kernel_rfl) rfl [.cell 2 91] rfl rfl ?_
  intro B w0 F0 fr
  refine AWP.seq ?_
  refine AWP.region ?_
  refine AOps.alloc 101 rfl rfl rfl rfl zt_91 rfl rfl rfl ?_
  refine AOps.nil ?_
  refine AWP.seq ?_
  refine AWP.region ?_
  refine AOps.makeMap 102 rfl rfl rfl rfl rfl ?_
  refine AOps.makeMap 103 rfl rfl rfl rfl rfl ?_
  refine AOps.step rfl rfl rfl (AOp.assignO rfl rfl) ?_
  refine AOps.step rfl rfl rfl (AOp.assignO rfl rfl) ?_
  refine AOps.nil ?_
  refine AWP.seq ?_
  refine AWP.seq ?_
  refine AWP.region ?_
  refine AOps.step rfl rfl rfl (AOp.moveD rfl rfl) ?_
  refine AOps.step rfl rfl rfl (AOp.lenSl rfl et_23.ht rfl) ?_
  refine AOps.step rfl rfl rfl (AOp.moveD rfl rfl) ?_
  refine AOps.nil ?_
  refine AWP.block ?_
  refine AWP.loop (G := Nat) (fun k => Env.of [(11, .d (.v (.int .i64 (k : Int)))), (9, .d (.sl (l.map Carr.ds))), (10, .d (.v (.int .i64 ((l.map Carr.ds).length : Int)))), (0, .d (.sl (l.map Carr.ds))), (3, .own 102), (4, .own 103), (2, .ptr 101 0)]) (fun k => [(103, .map (setM (uniq ((l.take k).map Carr.kind)))), (102, .map (setM (uniq ((l.take k).map Carr.place)))), (101, .cells [.d (.v (.int .i64 0)), .d (.v (.int .i64 0)), .d (.v (.int .i64 0))])]) (fun k => k ≤ l.length) (fun k => l.length - k) 0 (Nat.zero_le _) (Sub.less ⟨(SLe.of_eq rfl), SLe.refl _, SLe.refl _, SLe.refl _, SLe.refl _, SLe.refl _, SLe.refl _, trivial⟩ (fun _ h => h)) ?_
  intro k hk
  refine AWP.seq ?_
  refine AWP.region ?_
  refine AOps.step rfl rfl rfl (AOp.lss rfl rfl rfl) ?_
  refine AOps.nil ?_
  refine AWP.seq ?_
  refine AWP.cond rfl (fun h1 => ?_) (fun h1 => ?_)
  · replace h1 := of_decide_eq_true h1
    rw [List.length_map] at h1
    have hlt : k < l.length := by omega
    have hP := place_next hlt
    have hK := kind_next hlt
    refine AWP.skip ?_
    refine AWP.seq ?_
    refine AWP.block ?_
    refine AWP.seq ?_
    refine AWP.region ?_
    refine AOps.step rfl rfl rfl (AOp.indexAddr rfl et_23 rfl rfl k rfl (at_list hlt) rfl) ?_
    refine AOps.step rfl rfl rfl (AOp.loadAgg rfl ag_73 rfl rfl) ?_
    refine AOps.alloc 104 rfl rfl rfl rfl zt_73 rfl rfl rfl ?_
    refine AOps.store rfl rfl rfl sz_73 rfl (.head _) rfl rfl rfl (Nat.le_of_ble_eq_true rfl) ?_
    refine AOps.freezeCells 6 (ds := l[k].ds) rfl (.head _) ?_
    refine AOps.nil ?_
    refine AWP.drawG (fun k => (Nat.beq k 6 || Nat.beq k 7) || (false)) (fun k => Nat.beq k 6 || Nat.beq k 7) (fun k h => Bool.or_eq_true_iff.2 (.inl h)) (by kernel_rfl) (by kernel_rfl) (by kernel_rfl) ?_
    refine GRun.step rfl rfl rfl (fun _ => AOp.moveO rfl rfl) ?_
    refine GRun.step rfl rfl rfl (fun _ => AOp.fieldAddr rfl fo_73_1 rfl) ?_
    refine GRun.step rfl rfl rfl (fun _ => AOp.load rfl sc_9 rfl) ?_
    refine GRun.step rfl rfl rfl (fun _ => AOp.moveO rfl rfl) ?_
    refine GRun.step rfl rfl rfl (fun _ => AOp.fieldAddr rfl fo_73_2 rfl) ?_
    refine GRun.step rfl rfl rfl (fun _ => AOp.load rfl sc_9 rfl) ?_
    refine GRun.eff rfl rfl rfl (EOp.mapUpdate rfl rfl mt_136 kk_9 rfl (.tail _ (.head _)) rfl rfl trivial setM_keys (setM_put (s := l[k].place) (uniq_nodup _))) ?_
    refine GRun.eff rfl rfl rfl (EOp.mapUpdate rfl rfl mt_136 kk_9 rfl (.head _) rfl rfl trivial setM_keys (setM_put (s := l[k].kind) (uniq_nodup _))) ?_
    refine GRun.nil ?_
    refine AWP.region ?_
    refine AOps.step rfl rfl rfl (AOp.add64 rfl rfl rfl (by omega) (by omega)) ?_
    refine AOps.step rfl rfl rfl (AOp.moveD rfl rfl) ?_
    refine AOps.nil ?_
    refine ⟨k + 1, (by omega), (by dsimp only; omega), Sub.less ⟨(SLe.of_eq rfl), SLe.refl _, SLe.refl _, SLe.refl _, SLe.refl _, SLe.refl _, SLe.refl _, trivial⟩ (row_map2 (by rw [hK]) (by rw [hP]))⟩
  · replace h1 := of_decide_eq_false h1
    rw [List.length_map] at h1
    obtain rfl : k = l.length := by omega
    rw [List.take_length]
    refine AWP.exit ?_
    refine AWP.seq ?_
    refine AWP.region ?_
    refine AOps.step rfl rfl rfl (AOp.moveD rfl rfl) ?_
    refine AOps.step rfl rfl rfl (AOp.lenSl rfl et_23.ht rfl) ?_
    refine AOps.step rfl rfl rfl (AOp.moveO rfl rfl) ?_
    refine AOps.step rfl rfl rfl (AOp.lenMap rfl mt_136 rfl (.tail _ (.head _))) ?_
    refine AOps.step rfl rfl rfl (AOp.moveO rfl rfl) ?_
    refine AOps.step rfl rfl rfl (AOp.lenMap rfl mt_136 rfl (.head _)) ?_
    refine AOps.step rfl rfl rfl (AOp.build rfl bu_91 (.cons rfl rfl (.cons rfl rfl (.cons rfl rfl .nil))) rfl) ?_
    refine AOps.store rfl rfl rfl sz_91 rfl (.tail _ (.tail _ (.head _))) rfl rfl rfl (Nat.le_of_ble_eq_true rfl) ?_
    refine AOps.nil ?_
    refine AWP.ret ?_
    refine ⟨RetR.agg rfl (.tail _ (.tail _ (.head _))) ag_91 rfl (.cons (by first | exact CellD.nil | exact CellD.d | exact CellD.eq (by first | (simp; done) | simp [setM_len]) | (refine CellD.own (by first | exact .head _ | exact .tail _ (.head _)) ?_; rfl)) (.cons (by first | exact CellD.nil | exact CellD.d | exact CellD.eq (by first | (simp; done) | simp [setM_len]) | (refine CellD.own (by first | exact .head _ | exact .tail _ (.head _)) ?_; rfl)) (.cons (by first | exact CellD.nil | exact CellD.d | exact CellD.eq (by first | (simp; done) | simp [setM_len]) | (refine CellD.own (by first | exact .head _ | exact .tail _ (.head _)) ?_; rfl)) .nil))), trivial⟩
    all_goals (rfl)

set_option maxRecDepth 100000 in
set_option maxHeartbeats 1000000 in
theorem c_lacking (l : List Carr) (p : Pol) (po : POk p) (hl : l.length ≤ 200) : ACall Tryd.prog 45 [.agg (spreadDs l), .agg p.ds] (.tup [.v (.int .i64 (lackC p l)), .v (.int .i64 (lackP p l)), .v (.int .i64 (lackK p l))]) := by
  refine acall_of (n := 25) (ds' := [.v (.int .i64 (lackC p l)), .v (.int .i64 (lackP p l)), .v (.int .i64 (lackK p l))]) Tryd.func45 rfl (by kernel_rfl) rfl [4, 5, 6] rfl rfl ?_
  intro B w0 F0 fr
  have h1 := po.copies
  have h2 := po.places
  have h3 := po.kinds
  have h4 := uniqP_len l
  have h5 := uniqK_len l
  refine AWP.seq ?_
  refine AWP.region ?_
  refine AOps.step rfl rfl rfl (AOp.box rfl rfl rfl) ?_
  refine AOps.step rfl rfl rfl (AOp.box rfl rfl rfl) ?_
  refine AOps.step rfl rfl rfl (AOp.assignD rfl rfl) ?_
  refine AOps.step rfl rfl rfl (AOp.assignD rfl rfl) ?_
  refine AOps.step rfl rfl rfl (AOp.assignD rfl rfl) ?_
  refine AOps.nil ?_
  refine AWP.seq ?_
  refine AWP.draw (by kernel_rfl) (by kernel_rfl) ?_
  refine DRun.step rfl rfl rfl (AOp.fieldAddr rfl fo_28_0 rfl) ?_
  refine DRun.step rfl rfl rfl (AOp.load rfl sc_3 rfl) ?_
  refine DRun.step rfl rfl rfl (AOp.fieldAddr rfl fo_91_0 rfl) ?_
  refine DRun.step rfl rfl rfl (AOp.load rfl sc_3 rfl) ?_
  refine DRun.step rfl rfl rfl (AOp.sub64 rfl rfl rfl (by omega) (by omega)) ?_
  refine DRun.step rfl rfl rfl (AOp.max rfl rfl rfl) ?_
  refine DRun.step rfl rfl rfl (AOp.fieldAddr rfl fo_28_1 rfl) ?_
  refine DRun.step rfl rfl rfl (AOp.load rfl sc_3 rfl) ?_
  refine DRun.step rfl rfl rfl (AOp.fieldAddr rfl fo_91_1 rfl) ?_
  refine DRun.step rfl rfl rfl (AOp.load rfl sc_3 rfl) ?_
  refine DRun.step rfl rfl rfl (AOp.sub64 rfl rfl rfl (by omega) (by omega)) ?_
  refine DRun.step rfl rfl rfl (AOp.max rfl rfl rfl) ?_
  refine DRun.step rfl rfl rfl (AOp.fieldAddr rfl fo_28_2 rfl) ?_
  refine DRun.step rfl rfl rfl (AOp.load rfl sc_3 rfl) ?_
  refine DRun.step rfl rfl rfl (AOp.fieldAddr rfl fo_91_2 rfl) ?_
  refine DRun.step rfl rfl rfl (AOp.load rfl sc_3 rfl) ?_
  refine DRun.step rfl rfl rfl (AOp.sub64 rfl rfl rfl (by omega) (by omega)) ?_
  refine DRun.step rfl rfl rfl (AOp.max rfl rfl rfl) ?_
  refine DRun.step rfl rfl rfl (AOp.assignD rfl rfl) ?_
  refine DRun.step rfl rfl rfl (AOp.assignD rfl rfl) ?_
  refine DRun.step rfl rfl rfl (AOp.assignD rfl rfl) ?_
  refine DRun.nil ?_
  refine AWP.ret ?_
  refine ⟨RetD.eq rfl ?_, RetD.eq rfl ?_, RetD.eq rfl ?_, trivial⟩
  all_goals (rfl)

set_option maxRecDepth 100000 in
set_option maxHeartbeats 1000000 in
theorem c_indexStr (l : List ByteArray) (s : ByteArray) : ACall Tryd.prog 95 [.sl (l.map strD), .v (.string s)] (.v (.int .i64 (idxBy (fun x => decide (s = x)) l))) := by
  refine acall_of (n := 19) (ds' := [.v (.int .i64 (idxBy (fun x => decide (s = x)) l))]) Tryd.func95 rfl (by kernel_rfl) rfl [4] rfl rfl ?_
  intro B w0 F0 fr
  refine AWP.bound 0 rfl (fun hbd0 => ?_)
  rw [List.length_map] at hbd0
  refine AWP.seq ?_
  refine AWP.region ?_
  refine AOps.step rfl rfl rfl (AOp.assignD rfl rfl) ?_
  refine AOps.nil ?_
  refine AWP.seq ?_
  refine AWP.seq ?_
  refine AWP.region ?_
  refine AOps.step rfl rfl rfl (AOp.moveD rfl rfl) ?_
  refine AOps.step rfl rfl rfl (AOp.lenSl rfl et_111.ht rfl) ?_
  refine AOps.step rfl rfl rfl (AOp.moveD rfl rfl) ?_
  refine AOps.nil ?_
  refine AWP.block ?_
  refine AWP.loop (G := Nat) (fun k => Env.of [(8, .d (.v (.int .i64 (k : Int)))), (0, .d (.sl (l.map strD))), (1, .d (.v (.string s))), (7, .d (.v (.int .i64 ((l.map strD).length : Int))))]) (fun k => []) (fun k => k ≤ l.length ∧ ∀ c ∈ l.take k, decide (s = c) = false) (fun k => l.length - k) 0 ⟨Nat.zero_le _, fun c h => by simp at h⟩ (Sub.less ⟨(SLe.of_eq rfl), SLe.refl _, SLe.refl _, SLe.refl _, trivial⟩ (fun _ h => h)) ?_
  intro k hk
  refine AWP.seq ?_
  refine AWP.region ?_
  refine AOps.step rfl rfl rfl (AOp.lss rfl rfl rfl) ?_
  refine AOps.nil ?_
  refine AWP.seq ?_
  refine AWP.cond rfl (fun h1 => ?_) (fun h1 => ?_)
  · replace h1 := of_decide_eq_true h1
    rw [List.length_map] at h1
    have hlt : k < l.length := by omega
    refine AWP.skip ?_
    refine AWP.seq ?_
    refine AWP.block ?_
    refine AWP.seq ?_
    refine AWP.region ?_
    refine AOps.step rfl rfl rfl (AOp.moveD rfl rfl) ?_
    refine AOps.step rfl rfl rfl (AOp.assignD rfl rfl) ?_
    refine AOps.nil ?_
    refine AWP.seq ?_
    refine AWP.region ?_
    refine AOps.step rfl rfl rfl (AOp.moveD rfl rfl) ?_
    refine AOps.step rfl rfl rfl (AOp.moveD rfl rfl) ?_
    refine AOps.step rfl rfl rfl (AOp.moveD rfl rfl) ?_
    refine AOps.step rfl rfl rfl (AOp.indexAddr rfl et_111 rfl rfl k rfl (at_list hlt) rfl) ?_
    refine AOps.step rfl rfl rfl (AOp.load rfl sc_9 rfl) ?_
    refine AOps.step rfl rfl rfl (AOp.seql rfl rfl rfl) ?_
    refine AOps.nil ?_
    refine AWP.cond rfl (fun h2 => ?_) (fun h2 => ?_)
    · replace h2 := of_decide_eq_true h2
      rw [idxBy_yes hlt hk.2 (decide_eq_true h2)]
      refine AWP.seq ?_
      refine AWP.region ?_
      refine AOps.step rfl rfl rfl (AOp.moveD rfl rfl) ?_
      refine AOps.step rfl rfl rfl (AOp.assignD rfl rfl) ?_
      refine AOps.nil ?_
      refine AWP.ret ?_
      refine ⟨RetD.eq rfl ?_, trivial⟩
      all_goals (rfl)
    · replace h2 := of_decide_eq_false h2
      have hT := take_false' (p := fun x : ByteArray => decide (s = x)) hlt hk.2 (decide_eq_false h2)
      refine AWP.skip ?_
      refine AWP.region ?_
      refine AOps.step rfl rfl rfl (AOp.add64 rfl rfl rfl (by omega) (by omega)) ?_
      refine AOps.step rfl rfl rfl (AOp.moveD rfl rfl) ?_
      refine AOps.nil ?_
      refine ⟨k + 1, ⟨by omega, hT⟩, (by dsimp only; omega), Sub.less ⟨(SLe.of_eq rfl), SLe.refl _, SLe.refl _, SLe.refl _, trivial⟩ (fun _ h => h)⟩
  · replace h1 := of_decide_eq_false h1
    rw [List.length_map] at h1
    obtain rfl : k = l.length := by omega
    rw [idxBy_no hk.2]
    refine AWP.exit ?_
    refine AWP.seq ?_
    refine AWP.region ?_
    refine AOps.step rfl rfl rfl (AOp.assignD rfl rfl) ?_
    refine AOps.nil ?_
    refine AWP.ret ?_
    refine ⟨RetD.eq rfl ?_, trivial⟩
    all_goals (rfl)

set_option maxRecDepth 100000 in
set_option maxHeartbeats 1000000 in
theorem c_containsStr (l : List ByteArray) (s : ByteArray) : ACall Tryd.prog 64 [.sl (l.map strD), .v (.string s)] (.v (.bool (decide (s ∈ l)))) := by
  refine acall_of (n := 9) (ds' := [.v (.bool (decide (s ∈ l)))]) Tryd.func64 rfl (by kernel_rfl) rfl [4] rfl rfl ?_
  intro B w0 F0 fr
  refine AWP.seq ?_
  refine AWP.region ?_
  refine AOps.step rfl rfl rfl (AOp.assignD rfl rfl) ?_
  refine AOps.nil ?_
  refine AWP.seq ?_
  refine AWP.region ?_
  refine AOps.step rfl rfl rfl (AOp.moveD rfl rfl) ?_
  refine AOps.step rfl rfl rfl (AOp.moveD rfl rfl) ?_
  refine AOps.step rfl rfl rfl (AOp.call rfl (.cons (ArgOk.rfl' rfl) (.cons (ArgOk.rfl' rfl) .nil)) (c_indexStr _ _)) ?_
  refine AOps.step rfl rfl rfl (AOp.geq rfl rfl rfl) ?_
  refine AOps.step rfl rfl rfl (AOp.assignD rfl rfl) ?_
  refine AOps.nil ?_
  refine AWP.ret ?_
  refine ⟨RetD.eq rfl ?_, trivial⟩
  all_goals (rw [decide_eq_decide.2 idx_str])

set_option maxRecDepth 100000 in
set_option maxHeartbeats 1000000 in
theorem c_missing (l : List Carr) (p : Pol) (po : POk p) (hl : l.length ≤ 200) : ACall Tryd.prog 51 [.sl (l.map Carr.ds), .agg p.ds] (.tup [.v (.int .i64 (lackC p l)), .v (.int .i64 (lackP p l)), .v (.int .i64 (lackK p l))]) := by
  refine acall_of (n := 56) (ds' := [.v (.int .i64 (lackC p l)), .v (.int .i64 (lackP p l)), .v (.int .i64 (lackK p l))]) Tryd.func51 rfl (by kernel_rfl) rfl [4, 5, 6] rfl rfl ?_
  intro B w0 F0 fr
  have h1 := po.copies
  have h2 := po.places
  have h3 := po.kinds
  have h4 := uniqP_len l
  have h5 := uniqK_len l
  refine AWP.seq ?_
  refine AWP.region ?_
  refine AOps.step rfl rfl rfl (AOp.box rfl rfl rfl) ?_
  refine AOps.step rfl rfl rfl (AOp.assignD rfl rfl) ?_
  refine AOps.step rfl rfl rfl (AOp.assignD rfl rfl) ?_
  refine AOps.step rfl rfl rfl (AOp.assignD rfl rfl) ?_
  refine AOps.nil ?_
  refine AWP.seq ?_
  refine AWP.region ?_
  refine AOps.step rfl rfl rfl (AOp.assignD rfl rfl) ?_
  refine AOps.step rfl rfl rfl (AOp.assignD rfl rfl) ?_
  refine AOps.nil ?_
  refine AWP.seq ?_
  refine AWP.seq ?_
  refine AWP.region ?_
  refine AOps.step rfl rfl rfl (AOp.moveD rfl rfl) ?_
  refine AOps.step rfl rfl rfl (AOp.lenSl rfl et_23.ht rfl) ?_
  refine AOps.step rfl rfl rfl (AOp.moveD rfl rfl) ?_
  refine AOps.nil ?_
  refine AWP.block ?_
  refine AWP.adopt 7 1 9 1 rfl rfl ?_
  refine AWP.adopt 8 2 9 1 rfl rfl ?_
  refine AWP.loop (G := Nat) (fun k => Env.of [(13, .d (.v (.int .i64 (k : Int)))), (11, .d (.sl (l.map Carr.ds))), (12, .d (.v (.int .i64 ((l.map Carr.ds).length : Int)))), (0, .d (.sl (l.map Carr.ds))), (3, .d (.fp p.ds)), (7, .own 1), (8, .own 2)]) (fun k => [(2, .row 9 1 ((uniq ((l.take k).map Carr.kind)).map strD)), (1, .row 9 1 ((uniq ((l.take k).map Carr.place)).map strD))]) (fun k => k ≤ l.length) (fun k => l.length - k) 0 (Nat.zero_le _) (Sub.less ⟨(SLe.of_eq rfl), SLe.refl _, SLe.refl _, SLe.refl _, SLe.refl _, SLe.refl _, SLe.refl _, trivial⟩ (rows_both rfl rfl)) ?_
  intro k hk
  refine AWP.seq ?_
  refine AWP.region ?_
  refine AOps.step rfl rfl rfl (AOp.lss rfl rfl rfl) ?_
  refine AOps.nil ?_
  refine AWP.seq ?_
  refine AWP.cond rfl (fun h1 => ?_) (fun h1 => ?_)
  · replace h1 := of_decide_eq_true h1
    rw [List.length_map] at h1
    have hlt : k < l.length := by omega
    have hP := place_next hlt
    have hK := kind_next hlt
    have hPl := uniqP_len (l.take k)
    have hKl := uniqK_len (l.take k)
    rw [List.length_take] at hPl hKl
    refine AWP.skip ?_
    refine AWP.seq ?_
    refine AWP.block ?_
    refine AWP.seq ?_
    refine AWP.region ?_
    refine AOps.step rfl rfl rfl (AOp.indexAddr rfl et_23 rfl rfl k rfl (at_list hlt) rfl) ?_
    refine AOps.step rfl rfl rfl (AOp.loadAgg rfl ag_73 rfl rfl) ?_
    refine AOps.alloc 101 rfl rfl rfl rfl zt_73 rfl rfl rfl ?_
    refine AOps.store rfl rfl rfl sz_73 rfl (.head _) rfl rfl rfl (Nat.le_of_ble_eq_true rfl) ?_
    refine AOps.freezeCells 10 (ds := l[k].ds) rfl (.head _) ?_
    refine AOps.nil ?_
    refine AWP.seq ?_
    refine AWP.seq ?_
    refine AWP.region ?_
    refine AOps.step rfl rfl rfl (AOp.moveO rfl rfl) ?_
    refine AOps.step rfl rfl rfl (AOp.fieldAddr rfl fo_73_1 rfl) ?_
    refine AOps.step rfl rfl rfl (AOp.load rfl sc_9 rfl) ?_
    refine AOps.step rfl rfl rfl (AOp.callV rfl (.cons (.own rfl (.tail _ (.head _))) (.cons (.d rfl) .nil)) (c_containsStr _ _)) ?_
    refine AOps.step rfl rfl rfl (AOp.not rfl rfl) ?_
    refine AOps.nil ?_
    refine AWP.cond rfl (fun h2 => ?_) (fun h2 => ?_)
    · replace h2 := bnot_t h2; replace h2 := of_decide_eq_false h2
      have HP := hP.trans (addS_out h2)
      refine AWP.region ?_
      refine AOps.step rfl rfl rfl (AOp.moveO rfl rfl) ?_
      refine AOps.step rfl rfl rfl (AOp.fieldAddr rfl fo_73_1 rfl) ?_
      refine AOps.step rfl rfl rfl (AOp.load rfl sc_9 rfl) ?_
      refine AOps.step rfl rfl rfl (AOp.buildSlice rfl et_111 (.cons rfl rfl rfl .nil) rfl (by decide)) ?_
      -- append 26
      refine AOps.append rfl rfl rfl rfl et_111 rfl (.tail _ (.head _)) rfl (by simp [D.parts]) (by simp only [List.length_map, List.length_cons, List.length_nil]; omega) (by simp only [List.length_map, List.length_cons, List.length_nil]; omega) ?_
      refine AOps.step rfl rfl rfl (AOp.assignO rfl rfl) ?_
      refine AOps.nil ?_
      refine AWP.seq ?_
      refine AWP.region ?_
      refine AOps.step rfl rfl rfl (AOp.moveO rfl rfl) ?_
      refine AOps.step rfl rfl rfl (AOp.fieldAddr rfl fo_73_2 rfl) ?_
      refine AOps.step rfl rfl rfl (AOp.load rfl sc_9 rfl) ?_
      refine AOps.step rfl rfl rfl (AOp.callV rfl (.cons (.own rfl (.head _)) (.cons (.d rfl) .nil)) (c_containsStr _ _)) ?_
      refine AOps.step rfl rfl rfl (AOp.not rfl rfl) ?_
      refine AOps.nil ?_
      refine AWP.cond rfl (fun h3 => ?_) (fun h3 => ?_)
      · replace h3 := bnot_t h3; replace h3 := of_decide_eq_false h3
        have HK := hK.trans (addS_out h3)
        refine AWP.region ?_
        refine AOps.step rfl rfl rfl (AOp.moveO rfl rfl) ?_
        refine AOps.step rfl rfl rfl (AOp.fieldAddr rfl fo_73_2 rfl) ?_
        refine AOps.step rfl rfl rfl (AOp.load rfl sc_9 rfl) ?_
        refine AOps.step rfl rfl rfl (AOp.buildSlice rfl et_111 (.cons rfl rfl rfl .nil) rfl (by decide)) ?_
        -- append 36
        refine AOps.append rfl rfl rfl rfl et_111 rfl (.head _) rfl (by simp [D.parts]) (by simp only [List.length_map, List.length_cons, List.length_nil]; omega) (by simp only [List.length_map, List.length_cons, List.length_nil]; omega) ?_
        refine AOps.step rfl rfl rfl (AOp.assignO rfl rfl) ?_
        refine AOps.nil ?_
        refine AWP.region ?_
        refine AOps.step rfl rfl rfl (AOp.add64 rfl rfl rfl (by omega) (by omega)) ?_
        refine AOps.step rfl rfl rfl (AOp.moveD rfl rfl) ?_
        refine AOps.nil ?_
        refine ⟨k + 1, (by omega), (by dsimp only; omega), Sub.less ⟨(SLe.of_eq rfl), SLe.refl _, SLe.refl _, SLe.refl _, SLe.refl _, SLe.refl _, SLe.refl _, trivial⟩ (rows_both (by first | (rw [HK]; done) | (rw [HK, List.map_append]; rfl)) (by first | (rw [HP]; done) | (rw [HP, List.map_append]; rfl)))⟩
      · replace h3 := bnot_f h3; replace h3 := of_decide_eq_true h3
        have HK := hK.trans (addS_in h3)
        refine AWP.skip ?_
        refine AWP.region ?_
        refine AOps.step rfl rfl rfl (AOp.add64 rfl rfl rfl (by omega) (by omega)) ?_
        refine AOps.step rfl rfl rfl (AOp.moveD rfl rfl) ?_
        refine AOps.nil ?_
        refine ⟨k + 1, (by omega), (by dsimp only; omega), Sub.less ⟨(SLe.of_eq rfl), SLe.refl _, SLe.refl _, SLe.refl _, SLe.refl _, SLe.refl _, SLe.refl _, trivial⟩ (rows_both (by first | (rw [HK]; done) | (rw [HK, List.map_append]; rfl)) (by first | (rw [HP]; done) | (rw [HP, List.map_append]; rfl)))⟩
    · replace h2 := bnot_f h2; replace h2 := of_decide_eq_true h2
      have HP := hP.trans (addS_in h2)
      refine AWP.skip ?_
      refine AWP.seq ?_
      refine AWP.region ?_
      refine AOps.step rfl rfl rfl (AOp.moveO rfl rfl) ?_
      refine AOps.step rfl rfl rfl (AOp.fieldAddr rfl fo_73_2 rfl) ?_
      refine AOps.step rfl rfl rfl (AOp.load rfl sc_9 rfl) ?_
      refine AOps.step rfl rfl rfl (AOp.callV rfl (.cons (.own rfl (.head _)) (.cons (.d rfl) .nil)) (c_containsStr _ _)) ?_
      refine AOps.step rfl rfl rfl (AOp.not rfl rfl) ?_
      refine AOps.nil ?_
      refine AWP.cond rfl (fun h4 => ?_) (fun h4 => ?_)
      · replace h4 := bnot_t h4; replace h4 := of_decide_eq_false h4
        have HK := hK.trans (addS_out h4)
        refine AWP.region ?_
        refine AOps.step rfl rfl rfl (AOp.moveO rfl rfl) ?_
        refine AOps.step rfl rfl rfl (AOp.fieldAddr rfl fo_73_2 rfl) ?_
        refine AOps.step rfl rfl rfl (AOp.load rfl sc_9 rfl) ?_
        refine AOps.step rfl rfl rfl (AOp.buildSlice rfl et_111 (.cons rfl rfl rfl .nil) rfl (by decide)) ?_
        -- append 36
        refine AOps.append rfl rfl rfl rfl et_111 rfl (.head _) rfl (by simp [D.parts]) (by simp only [List.length_map, List.length_cons, List.length_nil]; omega) (by simp only [List.length_map, List.length_cons, List.length_nil]; omega) ?_
        refine AOps.step rfl rfl rfl (AOp.assignO rfl rfl) ?_
        refine AOps.nil ?_
        refine AWP.region ?_
        refine AOps.step rfl rfl rfl (AOp.add64 rfl rfl rfl (by omega) (by omega)) ?_
        refine AOps.step rfl rfl rfl (AOp.moveD rfl rfl) ?_
        refine AOps.nil ?_
        refine ⟨k + 1, (by omega), (by dsimp only; omega), Sub.less ⟨(SLe.of_eq rfl), SLe.refl _, SLe.refl _, SLe.refl _, SLe.refl _, SLe.refl _, SLe.refl _, trivial⟩ (rows_both (by first | (rw [HK]; done) | (rw [HK, List.map_append]; rfl)) (by first | (rw [HP]; done) | (rw [HP, List.map_append]; rfl)))⟩
      · replace h4 := bnot_f h4; replace h4 := of_decide_eq_true h4
        have HK := hK.trans (addS_in h4)
        refine AWP.skip ?_
        refine AWP.region ?_
        refine AOps.step rfl rfl rfl (AOp.add64 rfl rfl rfl (by omega) (by omega)) ?_
        refine AOps.step rfl rfl rfl (AOp.moveD rfl rfl) ?_
        refine AOps.nil ?_
        refine ⟨k + 1, (by omega), (by dsimp only; omega), Sub.less ⟨(SLe.of_eq rfl), SLe.refl _, SLe.refl _, SLe.refl _, SLe.refl _, SLe.refl _, SLe.refl _, trivial⟩ (rows_both (by first | (rw [HK]; done) | (rw [HK, List.map_append]; rfl)) (by first | (rw [HP]; done) | (rw [HP, List.map_append]; rfl)))⟩
  · replace h1 := of_decide_eq_false h1
    rw [List.length_map] at h1
    obtain rfl : k = l.length := by omega
    rw [List.take_length]
    refine AWP.exit ?_
    refine AWP.seq ?_
    refine AWP.draw (by kernel_rfl) (by kernel_rfl) ?_
    refine DRun.step rfl rfl rfl (AOp.fieldAddr rfl fo_28_0 rfl) ?_
    refine DRun.step rfl rfl rfl (AOp.load rfl sc_3 rfl) ?_
    refine DRun.step rfl rfl rfl (AOp.moveD rfl rfl) ?_
    refine DRun.step rfl rfl rfl (AOp.lenSl rfl et_23.ht rfl) ?_
    refine DRun.step rfl rfl rfl (AOp.sub64 rfl rfl rfl (by simp only [List.length_map]; omega) (by simp only [List.length_map]; omega)) ?_
    refine DRun.step rfl rfl rfl (AOp.max rfl rfl rfl) ?_
    refine DRun.step rfl rfl rfl (AOp.fieldAddr rfl fo_28_1 rfl) ?_
    refine DRun.step rfl rfl rfl (AOp.load rfl sc_3 rfl) ?_
    refine DRun.step rfl rfl rfl (AOp.moveO rfl rfl) ?_
    refine DRun.step rfl rfl rfl (AOp.lenOwn rfl et_111.ht rfl (.tail _ (.head _))) ?_
    refine DRun.step rfl rfl rfl (AOp.sub64 rfl rfl rfl (by simp only [List.length_map]; omega) (by simp only [List.length_map]; omega)) ?_
    refine DRun.step rfl rfl rfl (AOp.max rfl rfl rfl) ?_
    refine DRun.step rfl rfl rfl (AOp.fieldAddr rfl fo_28_2 rfl) ?_
    refine DRun.step rfl rfl rfl (AOp.load rfl sc_3 rfl) ?_
    refine DRun.step rfl rfl rfl (AOp.moveO rfl rfl) ?_
    refine DRun.step rfl rfl rfl (AOp.lenOwn rfl et_111.ht rfl (.head _)) ?_
    refine DRun.step rfl rfl rfl (AOp.sub64 rfl rfl rfl (by simp only [List.length_map]; omega) (by simp only [List.length_map]; omega)) ?_
    refine DRun.step rfl rfl rfl (AOp.max rfl rfl rfl) ?_
    refine DRun.step rfl rfl rfl (AOp.assignD rfl rfl) ?_
    refine DRun.step rfl rfl rfl (AOp.assignD rfl rfl) ?_
    refine DRun.step rfl rfl rfl (AOp.assignD rfl rfl) ?_
    refine DRun.nil ?_
    refine AWP.ret ?_
    refine ⟨RetD.eq rfl ?_, RetD.eq rfl ?_, RetD.eq rfl ?_, trivial⟩
    all_goals (first | rfl | (simp only [List.length_map]; rfl))

end Go.Proofs.YtieccphckobhjaaDoor


namespace Go.Proofs.YtieccphckobhjaaDoor
open Go.RowKit
set_option linter.unusedVariables false

/-! Types. -/
namespace TyL3
theorem ag_26 : AggT Tryd.prog 26 3 := .of (by kernel_rfl)
theorem ag_28 : AggT Tryd.prog 28 6 := .of (by kernel_rfl)
theorem bu_39 : StructT Tryd.prog 39 (fun i => (#[(0, 1), (1, 1), (2, 1), (3, 1)] : Array (Nat × Nat))[i]?) [(.string ⟨#[]⟩), (.string ⟨#[]⟩), (.int .i64 0), (.int .i64 0)] := .of (by kernel_rfl) (by kernel_rfl) (by decide)
theorem et_34 : ElemTy Tryd.prog 34 39 4 48 (.agg #[(.string ⟨#[]⟩), (.string ⟨#[]⟩), (.int .i64 0), (.int .i64 0)]) := ⟨by kernel_rfl, by kernel_rfl, by kernel_rfl, by decide⟩
theorem fo_69_0 : fieldOff Tryd.prog 69 0 = some 0 := by kernel_rfl
theorem fo_77_1 : fieldOff Tryd.prog 77 1 = some 1 := by kernel_rfl
theorem sc_34 : Scal Tryd.prog 34 := .of (by kernel_rfl)
theorem sc_9 : Scal Tryd.prog 9 := .of (by kernel_rfl)
theorem sz_34 : ∀ w, (sizeOf 34).run Tryd.prog w = .ok 1 w := SizeT.of (by kernel_rfl)
end TyL3
open TyL3


def addL (E : List Lck) (b : Bool) (y : Lck) : List Lck := if b = true then E ++ [y] else E
theorem addL_t {E : List Lck} {b : Bool} {y : Lck} (h : b = true) : addL E b y = E ++ [y] := if_pos h
theorem addL_f {E : List Lck} {b : Bool} {y : Lck} (h : b = false) : addL E b y = E := if_neg (by rw [h]; simp)
theorem addL_app (E F : List Lck) (b : Bool) (y : Lck) : addL (E ++ F) b y = E ++ addL F b y := by
  unfold addL; split
  · rw [List.append_assoc]
  · rfl
theorem addL_len (E : List Lck) (b : Bool) (y : Lck) : (addL E b y).length ≤ E.length + 1 := by
  unfold addL; split
  · rw [List.length_append]; exact Nat.le_refl _
  · omega
def lackCpy (v : Vlt) (p : Pol) (day : Int) (c : Cpy) : List Lck :=
  addL (addL (addL (addL [] (decide ((c.bad.length : Int) > 0)) ⟨c.item, c.carrier, 4, (c.bad.length : Int)⟩) (oldB p day (carrAt v c.carrier)) ⟨c.item, c.carrier, 5, 0⟩) (decide (c.gen > p.gens)) ⟨c.item, c.carrier, 6, 0⟩) (decide (day - c.last > p.every)) ⟨c.item, c.carrier, 7, 0⟩
theorem lackCpy_len (v : Vlt) (p : Pol) (day : Int) (c : Cpy) : (lackCpy v p day c).length ≤ 4 := by
  unfold lackCpy
  have h := addL_len
  refine Nat.le_trans (h _ _ _) (Nat.succ_le_succ (Nat.le_trans (h _ _ _) (Nat.succ_le_succ (Nat.le_trans (h _ _ _) (Nat.succ_le_succ (Nat.le_trans (h _ _ _) (Nat.succ_le_succ (Nat.le_refl 0))))))))
theorem lack_app (v : Vlt) (p : Pol) (day : Int) (c : Cpy) (E : List Lck) : addL (addL (addL (addL E (decide ((c.bad.length : Int) > 0)) ⟨c.item, c.carrier, 4, (c.bad.length : Int)⟩) (oldB p day (carrAt v c.carrier)) ⟨c.item, c.carrier, 5, 0⟩) (decide (c.gen > p.gens)) ⟨c.item, c.carrier, 6, 0⟩) (decide (day - c.last > p.every)) ⟨c.item, c.carrier, 7, 0⟩ = E ++ lackCpy v p day c := by
  unfold lackCpy
  rw [← addL_app, ← addL_app, ← addL_app, ← addL_app, List.append_nil]
theorem flat_snoc {α β : Type} (f : α → List β) {l : List α} {k : Nat} (hk : k < l.length) : (l.take (k + 1)).flatMap f = (l.take k).flatMap f ++ f l[k] := by
  rw [List.take_add_one, List.getElem?_eq_getElem hk, Option.toList_some, List.flatMap_append, List.flatMap_cons, List.flatMap_nil, List.append_nil]
theorem flat_len {α β : Type} {f : α → List β} {b : Nat} (h : ∀ x, (f x).length ≤ b) : ∀ l : List α, (l.flatMap f).length ≤ b * l.length
  | [] => by simp
  | x :: l => by
    have := flat_len h l
    have h2 := h x
    rw [List.flatMap_cons, List.length_append, List.length_cons, Nat.mul_succ]
    omega
def cpyTo (v : Vlt) (p : Pol) (day : Int) (it : ByteArray) (k : Nat) : List Lck := ((copiesOf v it).take k).flatMap (lackCpy v p day)
def cpyAll (v : Vlt) (p : Pol) (day : Int) (it : ByteArray) : List Lck := (copiesOf v it).flatMap (lackCpy v p day)
def rCpyTo (v : Vlt) (p : Pol) (day : Int) (it : ByteArray) (k : Nat) : List Lck := (v.copies.take k).flatMap fun c => if c.item = it then lackCpy v p day c else []
theorem cpyTo_all (v : Vlt) (p : Pol) (day : Int) (it : ByteArray) : cpyTo v p day it (copiesOf v it).length = cpyAll v p day it := by unfold cpyTo cpyAll; rw [List.take_length]
theorem flat_filter {α β : Type} (f : α → List β) (q : α → Prop) [DecidablePred q] : ∀ l : List α, (l.flatMap fun c => if q c then f c else []) = (l.filter fun c => decide (q c)).flatMap f
  | [] => rfl
  | c :: l => by
    rw [List.flatMap_cons, flat_filter f q l, List.filter_cons]
    by_cases h : q c
    · rw [if_pos h, if_pos (decide_eq_true h), List.flatMap_cons]
    · rw [if_neg h, if_neg (by rw [decide_eq_false h]; simp), List.nil_append]
theorem rCpyTo_all (v : Vlt) (p : Pol) (day : Int) (it : ByteArray) : rCpyTo v p day it v.copies.length = cpyAll v p day it := by
  unfold rCpyTo cpyAll copiesOf ofItem
  rw [List.take_length, flat_filter]
theorem cpyTo_len (v : Vlt) (p : Pol) (day : Int) (it : ByteArray) (k : Nat) : (cpyTo v p day it k).length ≤ 4 * v.copies.length := by
  have h1 := flat_len (lackCpy_len v p day) ((copiesOf v it).take k)
  have h2 := copiesOf_len v it
  rw [List.length_take] at h1
  unfold cpyTo
  have : 4 * min k (copiesOf v it).length ≤ 4 * v.copies.length := Nat.mul_le_mul_left _ (by omega)
  omega
theorem cpyAll_len (v : Vlt) (p : Pol) (day : Int) (it : ByteArray) : (cpyAll v p day it).length ≤ 4 * v.copies.length := by rw [← cpyTo_all]; exact cpyTo_len _ _ _ _ _
theorem rCpyTo_len (v : Vlt) (p : Pol) (day : Int) (it : ByteArray) (k : Nat) : (rCpyTo v p day it k).length ≤ 4 * v.copies.length := by
  have h1 := flat_len (f := fun c : Cpy => if c.item = it then lackCpy v p day c else []) (b := 4) (fun c => by split; exact lackCpy_len v p day c; exact Nat.zero_le _) (v.copies.take k)
  rw [List.length_take] at h1
  unfold rCpyTo
  have : 4 * min k v.copies.length ≤ 4 * v.copies.length := Nat.mul_le_mul_left _ (by omega)
  omega
def numsOf (p : Pol) (l : List Carr) : List Int := [lackC p l, lackP p l, lackK p l]
def headE (nm : ByteArray) (x : Int × Nat) : List Lck := if x.1 > 0 then [⟨nm, ⟨#[]⟩, 1 + (x.2 : Int), x.1⟩] else []
theorem headE_len (nm : ByteArray) (x : Int × Nat) : (headE nm x).length ≤ 1 := by unfold headE; split <;> simp
def headTo (nm : ByteArray) (l : List Int) (k : Nat) : List Lck := (l.zipIdx.take k).flatMap (headE nm)
theorem headTo_len (nm : ByteArray) (l : List Int) (k : Nat) : (headTo nm l k).length ≤ k := by
  have h1 := flat_len (headE_len nm) (l.zipIdx.take k)
  rw [List.length_take] at h1
  unfold headTo; omega
theorem headTo_yes {nm : ByteArray} {l : List Int} {k : Nat} (hk : k < l.length) (h : l[k] > 0) : headTo nm l (k + 1) = headTo nm l k ++ [⟨nm, ⟨#[]⟩, 1 + (k : Int), l[k]⟩] := by
  unfold headTo
  rw [flat_snoc _ (by rw [List.length_zipIdx]; exact hk), List.getElem_zipIdx]
  unfold headE
  simp only [Nat.zero_add]
  rw [if_pos h]
theorem headTo_no {nm : ByteArray} {l : List Int} {k : Nat} (hk : k < l.length) (h : ¬ l[k] > 0) : headTo nm l (k + 1) = headTo nm l k := by
  unfold headTo
  rw [flat_snoc _ (by rw [List.length_zipIdx]; exact hk), List.getElem_zipIdx]
  unfold headE
  simp only [Nat.zero_add]
  rw [if_neg h, List.append_nil]
def itemL (v : Vlt) (p : Pol) (day : Int) (x : Item) : List Lck := headTo x.name (numsOf p (goodOnes v x.name p day)) 3 ++ cpyAll v p day x.name
def itemsTo (v : Vlt) (p : Pol) (day : Int) (k : Nat) : List Lck := (v.items.take k).flatMap (itemL v p day)
theorem itemsTo_next {v : Vlt} {p : Pol} {day : Int} {k : Nat} (hk : k < v.items.length) : itemsTo v p day (k + 1) = itemsTo v p day k ++ (headTo v.items[k].name (numsOf p (goodOnes v v.items[k].name p day)) 3 ++ cpyAll v p day v.items[k].name) := flat_snoc _ hk
theorem itemL_len {v : Vlt} (hn : v.copies.length ≤ 200) (p : Pol) (day : Int) (x : Item) : (itemL v p day x).length ≤ 803 := by
  unfold itemL
  rw [List.length_append]
  have h1 := headTo_len x.name (numsOf p (goodOnes v x.name p day)) 3
  have h2 := cpyAll_len v p day x.name
  omega
theorem itemsTo_len {v : Vlt} (hn : v.copies.length ≤ 200) (hi : v.items.length ≤ 30) (p : Pol) (day : Int) (k : Nat) : (itemsTo v p day k).length ≤ 24090 := by
  have h1 := flat_len (itemL_len hn p day) (v.items.take k)
  rw [List.length_take] at h1
  unfold itemsTo
  omega
def lacksR (v : Vlt) (p : Pol) (day : Int) : List Lck := if dayFault v p day = 0 then itemsTo v p day v.items.length else []
theorem lacksR_ok {v : Vlt} {p : Pol} {day : Int} (h : dayFault v p day = 0) : lacksR v p day = itemsTo v p day v.items.length := if_pos h
theorem lacksR_bad {v : Vlt} {p : Pol} {day : Int} (h : dayFault v p day ≠ 0) : lacksR v p day = [] := if_neg h
theorem day_ok {v : Vlt} {p : Pol} {day : Int} (h : dayFault v p day = 0) : bothFault v p = 0 ∧ 0 ≤ day ∧ day ≤ 200000 := by
  unfold dayFault at h
  by_cases h1 : bothFault v p ≠ 0
  · rw [if_pos h1] at h; exact absurd h h1
  · rw [if_neg h1] at h
    by_cases h2 : 0 ≤ day ∧ day ≤ 200000
    · exact ⟨Decidable.not_not.1 h1, h2⟩
    · rw [if_neg h2] at h; simp at h
theorem lck_size {l : List Lck} : ∀ y ∈ l.map Lck.ds, y.length = 4 := fun y hy => by obtain ⟨z, _, rfl⟩ := List.mem_map.1 hy; rfl
theorem row_cell2 {c id e size : Nat} {o : Ob} {els els' : List (List D)} {τ : Obs} (h : els = els') : ∀ p ∈ [(id, Ob.row e size els'), (c, o)], p ∈ (id, Ob.row e size els) :: (c, o) :: τ := fun p hp => by
  subst h
  rcases List.mem_cons.1 hp with rfl | hp
  · exact .head _
  · rw [List.mem_singleton] at hp; subst hp; exact .tail _ (.head _)


set_option maxRecDepth 100000 in
set_option maxHeartbeats 1000000 in
theorem c_pDayF (v : Vlt) (p : Pol) (day : Int) (hs : smallV v) : ACall Tryd.prog 42 [.agg v.ds, .agg p.ds, .v (.int .i64 day)] (.v (.int .i64 (dayFault v p day))) := by
  refine acall_of (n := 17) (ds' := [.v (.int .i64 (dayFault v p day))]) Tryd.func42 rfl (by kernel_rfl) rfl [6] rfl rfl ?_
  intro B w0 F0 fr
  refine AWP.seq ?_
  refine AWP.region ?_
  refine AOps.step rfl rfl rfl (AOp.box rfl rfl rfl) ?_
  refine AOps.step rfl rfl rfl (AOp.box rfl rfl rfl) ?_
  refine AOps.step rfl rfl rfl (AOp.assignD rfl rfl) ?_
  refine AOps.nil ?_
  refine AWP.seq ?_
  refine AWP.seq ?_
  refine AWP.region ?_
  refine AOps.step rfl rfl rfl (AOp.loadAgg rfl ag_26 rfl rfl) ?_
  refine AOps.step rfl rfl rfl (AOp.loadAgg rfl ag_28 rfl rfl) ?_
  refine AOps.step rfl rfl rfl (AOp.call rfl (.cons (ArgOk.rfl' rfl) (.cons (ArgOk.rfl' rfl) .nil)) (c_pBoth v p hs)) ?_
  refine AOps.step rfl rfl rfl (AOp.assignD rfl rfl) ?_
  refine AOps.nil ?_
  refine AWP.seq ?_
  refine AWP.region ?_
  refine AOps.step rfl rfl rfl (AOp.moveD rfl rfl) ?_
  refine AOps.step rfl rfl rfl (AOp.neq rfl rfl rfl) ?_
  refine AOps.nil ?_
  refine AWP.cond rfl (fun h1 => ?_) (fun h1 => ?_)
  · replace h1 := of_decide_eq_true h1
    have HR : dayFault v p day = bothFault v p := if_pos h1
    rw [HR]
    refine AWP.seq ?_
    refine AWP.region ?_
    refine AOps.step rfl rfl rfl (AOp.moveD rfl rfl) ?_
    refine AOps.step rfl rfl rfl (AOp.assignD rfl rfl) ?_
    refine AOps.nil ?_
    refine AWP.ret ?_
    refine ⟨RetD.eq rfl ?_, trivial⟩
    all_goals (rfl)
  · replace h1 := of_decide_eq_false h1
    have hb := h1
    refine AWP.skip ?_
    refine AWP.seq ?_
    refine AWP.seq ?_
    refine AWP.region ?_
    refine AOps.step rfl rfl rfl (AOp.moveD rfl rfl) ?_
    refine AOps.step rfl rfl rfl (AOp.call rfl (.cons (ArgOk.rfl' rfl) .nil) (c_pDay _)) ?_
    refine AOps.step rfl rfl rfl (AOp.not rfl rfl) ?_
    refine AOps.nil ?_
    refine AWP.cond rfl (fun h2 => ?_) (fun h2 => ?_)
    · replace h2 := bnot_t h2; replace h2 := of_decide_eq_false h2
      have HR : dayFault v p day = 1 := (if_neg hb).trans (if_neg h2)
      rw [HR]
      refine AWP.seq ?_
      refine AWP.region ?_
      refine AOps.step rfl rfl rfl (AOp.assignD rfl rfl) ?_
      refine AOps.nil ?_
      refine AWP.ret ?_
      refine ⟨RetD.eq rfl ?_, trivial⟩
      all_goals (rfl)
    · replace h2 := bnot_f h2; replace h2 := of_decide_eq_true h2
      have HR : dayFault v p day = 0 := (if_neg hb).trans (if_pos h2)
      rw [HR]
      refine AWP.skip ?_
      refine AWP.seq ?_
      refine AWP.region ?_
      refine AOps.step rfl rfl rfl (AOp.assignD rfl rfl) ?_
      refine AOps.nil ?_
      refine AWP.ret ?_
      refine ⟨RetD.eq rfl ?_, trivial⟩
      all_goals (rfl)

set_option maxRecDepth 100000 in
set_option maxHeartbeats 1000000 in
theorem c_ask (v : Vlt) (p : Pol) (day : Int) (hs : smallV v) : ACall Tryd.prog 50 [.agg v.ds, .agg p.ds, .v (.int .i64 day)] (.v (.int .i64 (dayFault v p day))) := by
  refine acall_of (n := 22) (ds' := [.v (.int .i64 (dayFault v p day))]) Tryd.func50 rfl (by kernel_rfl) rfl [6] rfl rfl ?_
  intro B w0 F0 fr
  refine AWP.seq ?_
  refine AWP.region ?_
  refine AOps.step rfl rfl rfl (AOp.box rfl rfl rfl) ?_
  refine AOps.step rfl rfl rfl (AOp.box rfl rfl rfl) ?_
  refine AOps.step rfl rfl rfl (AOp.assignD rfl rfl) ?_
  refine AOps.nil ?_
  refine AWP.seq ?_
  refine AWP.seq ?_
  refine AWP.region ?_
  refine AOps.step rfl rfl rfl (AOp.loadAgg rfl ag_26 rfl rfl) ?_
  refine AOps.step rfl rfl rfl (AOp.call rfl (.cons (ArgOk.rfl' rfl) .nil) (c_rCheck v hs)) ?_
  refine AOps.step rfl rfl rfl (AOp.assignD rfl rfl) ?_
  refine AOps.nil ?_
  refine AWP.seq ?_
  refine AWP.region ?_
  refine AOps.step rfl rfl rfl (AOp.moveD rfl rfl) ?_
  refine AOps.step rfl rfl rfl (AOp.neq rfl rfl rfl) ?_
  refine AOps.nil ?_
  refine AWP.cond rfl (fun h1 => ?_) (fun h1 => ?_)
  · replace h1 := of_decide_eq_true h1
    have HB := both_v (p := p) h1
    have HR : dayFault v p day = checkV v := by unfold dayFault; rw [HB, if_pos h1]
    rw [HR]
    refine AWP.seq ?_
    refine AWP.region ?_
    refine AOps.step rfl rfl rfl (AOp.moveD rfl rfl) ?_
    refine AOps.step rfl rfl rfl (AOp.assignD rfl rfl) ?_
    refine AOps.nil ?_
    refine AWP.ret ?_
    refine ⟨RetD.eq rfl ?_, trivial⟩
    all_goals (rfl)
  · replace h1 := of_decide_eq_false h1
    have HB := both_p (p := p) (Decidable.not_not.1 h1)
    refine AWP.skip ?_
    refine AWP.seq ?_
    refine AWP.seq ?_
    refine AWP.region ?_
    refine AOps.step rfl rfl rfl (AOp.loadAgg rfl ag_28 rfl rfl) ?_
    refine AOps.step rfl rfl rfl (AOp.call rfl (.cons (ArgOk.rfl' rfl) .nil) (c_rPol p)) ?_
    refine AOps.step rfl rfl rfl (AOp.assignD rfl rfl) ?_
    refine AOps.nil ?_
    refine AWP.seq ?_
    refine AWP.region ?_
    refine AOps.step rfl rfl rfl (AOp.moveD rfl rfl) ?_
    refine AOps.step rfl rfl rfl (AOp.neq rfl rfl rfl) ?_
    refine AOps.nil ?_
    refine AWP.cond rfl (fun h2 => ?_) (fun h2 => ?_)
    · replace h2 := of_decide_eq_true h2
      have HR : dayFault v p day = polFault p := by unfold dayFault; rw [HB, if_pos h2]
      rw [HR]
      refine AWP.seq ?_
      refine AWP.region ?_
      refine AOps.step rfl rfl rfl (AOp.moveD rfl rfl) ?_
      refine AOps.step rfl rfl rfl (AOp.assignD rfl rfl) ?_
      refine AOps.nil ?_
      refine AWP.ret ?_
      refine ⟨RetD.eq rfl ?_, trivial⟩
      all_goals (rfl)
    · replace h2 := of_decide_eq_false h2
      have hb := h2
      refine AWP.skip ?_
      refine AWP.seq ?_
      refine AWP.seq ?_
      refine AWP.region ?_
      refine AOps.step rfl rfl rfl (AOp.moveD rfl rfl) ?_
      refine AOps.step rfl rfl rfl (AOp.call rfl (.cons (ArgOk.rfl' rfl) .nil) (c_rDay _)) ?_
      refine AOps.step rfl rfl rfl (AOp.not rfl rfl) ?_
      refine AOps.nil ?_
      refine AWP.cond rfl (fun h3 => ?_) (fun h3 => ?_)
      · replace h3 := bnot_t h3; replace h3 := of_decide_eq_false h3
        have HR : dayFault v p day = 1 := by unfold dayFault; rw [HB, if_neg hb, if_neg h3]
        rw [HR]
        refine AWP.seq ?_
        refine AWP.region ?_
        refine AOps.step rfl rfl rfl (AOp.assignD rfl rfl) ?_
        refine AOps.nil ?_
        refine AWP.ret ?_
        refine ⟨RetD.eq rfl ?_, trivial⟩
        all_goals (rfl)
      · replace h3 := bnot_f h3; replace h3 := of_decide_eq_true h3
        have HR : dayFault v p day = 0 := by unfold dayFault; rw [HB, if_neg hb, if_pos h3]
        rw [HR]
        refine AWP.skip ?_
        refine AWP.seq ?_
        refine AWP.region ?_
        refine AOps.step rfl rfl rfl (AOp.assignD rfl rfl) ?_
        refine AOps.nil ?_
        refine AWP.ret ?_
        refine ⟨RetD.eq rfl ?_, trivial⟩
        all_goals (rfl)

set_option maxRecDepth 100000 in
set_option maxHeartbeats 1000000 in
theorem c_add (x : Item) (c : Cpy) (yes : Bool) (what many : Int) (E : List Lck) (hE : E.length ≤ 100000) : XCall Tryd.prog 47 [.d (.v (.bool yes)), .d (.v (.int .i64 what)), .d (.v (.int .i64 many)), .ptr 101 0, .d (.fp x.ds), .d (.fp c.ds)] [(1, .row 39 4 (E.map Lck.ds)), (101, .cells [.own 1])] [(1, .row 39 4 ((addL E yes ⟨x.name, c.carrier, what, many⟩).map Lck.ds)), (101, .cells [.own 1])] (fun i => Nat.beq i 1 || Nat.ble 1000 i) (.tup []) := by
  refine xcall_of (n := 20) (ds' := []) Tryd.func47 rfl (by kernel_rfl) rfl [] rfl rfl ?_
  intro B w0 F0 fr ρ0
  refine AWP.seq ?_
  refine AWP.region ?_
  refine AOps.step rfl rfl rfl (AOp.moveD rfl rfl) ?_
  refine AOps.nil ?_
  refine AWP.cond rfl (fun h1 => ?_) (fun h1 => ?_)
  · skip
    rw [addL_t h1]
    refine AWP.region ?_
    refine AOps.step rfl rfl rfl (AOp.loadP rfl sc_34 rfl (.tail _ (.head _)) rfl) ?_
    refine AOps.step rfl rfl rfl (AOp.fieldAddr rfl fo_69_0 rfl) ?_
    refine AOps.step rfl rfl rfl (AOp.load rfl sc_9 rfl) ?_
    refine AOps.step rfl rfl rfl (AOp.fieldAddr rfl fo_77_1 rfl) ?_
    refine AOps.step rfl rfl rfl (AOp.load rfl sc_9 rfl) ?_
    refine AOps.step rfl rfl rfl (AOp.moveD rfl rfl) ?_
    refine AOps.step rfl rfl rfl (AOp.moveD rfl rfl) ?_
    refine AOps.step rfl rfl rfl (AOp.build rfl bu_39 (.cons rfl rfl (.cons rfl rfl (.cons rfl rfl (.cons rfl rfl .nil)))) rfl) ?_
    refine AOps.step rfl rfl rfl (AOp.buildSlice rfl et_34 (.cons rfl rfl rfl .nil) rfl (by decide)) ?_
    -- append 19
    refine AOps.append rfl rfl rfl rfl et_34 rfl (.head _) rfl (by simp [D.parts]) (by simp; omega) (by simp; omega) ?_
    refine AOps.storeS rfl rfl rfl sz_34 rfl (.tail _ (.head _)) rfl (.head _) (Nat.le_of_ble_eq_true rfl) ?_
    refine AOps.nil ?_
    refine ⟨trivial, ⟨mem_ob_eq (.head _) ?_, mem_ob_eq (.tail _ (.head _)) ?_, trivial⟩⟩
    all_goals (first | rfl | (rw [List.map_append]; rfl))
  · skip
    rw [addL_f h1]
    refine AWP.skip ?_
    refine ⟨trivial, ⟨mem_ob_eq (.head _) ?_, mem_ob_eq (.tail _ (.head _)) ?_, trivial⟩⟩
    all_goals (first | rfl | (rw [List.map_append]; rfl))

end Go.Proofs.YtieccphckobhjaaDoor


namespace Go.Proofs.YtieccphckobhjaaDoor
open Go.RowKit
set_option linter.unusedVariables false

/-! Types. -/
namespace TyL4
theorem ag_26 : AggT Tryd.prog 26 3 := .of (by kernel_rfl)
theorem ag_28 : AggT Tryd.prog 28 6 := .of (by kernel_rfl)
theorem ag_39 : AggT Tryd.prog 39 4 := .of (by kernel_rfl)
theorem ag_73 : AggT Tryd.prog 73 5 := .of (by kernel_rfl)
theorem ag_77 : AggT Tryd.prog 77 7 := .of (by kernel_rfl)
theorem bu_39 : StructT Tryd.prog 39 (fun i => (#[(0, 1), (1, 1), (2, 1), (3, 1)] : Array (Nat × Nat))[i]?) [(.string ⟨#[]⟩), (.string ⟨#[]⟩), (.int .i64 0), (.int .i64 0)] := .of (by kernel_rfl) (by kernel_rfl) (by decide)
theorem et_23 : ElemTy Tryd.prog 23 73 5 64 (.agg #[(.string ⟨#[]⟩), (.string ⟨#[]⟩), (.string ⟨#[]⟩), (.int .i64 0), (.int .i64 0)]) := ⟨by kernel_rfl, by kernel_rfl, by kernel_rfl, by decide⟩
theorem et_24 : ElemTy Tryd.prog 24 77 7 96 (.agg #[(.string ⟨#[]⟩), (.string ⟨#[]⟩), (.string ⟨#[]⟩), (.int .i64 0), (.int .i64 0), (.int .i64 0), (.slice none 0 0)]) := ⟨by kernel_rfl, by kernel_rfl, by kernel_rfl, by decide⟩
theorem et_34 : ElemTy Tryd.prog 34 39 4 48 (.agg #[(.string ⟨#[]⟩), (.string ⟨#[]⟩), (.int .i64 0), (.int .i64 0)]) := ⟨by kernel_rfl, by kernel_rfl, by kernel_rfl, by decide⟩
theorem et_75 : ElemTy Tryd.prog 75 3 1 8 (.int .i64 0) := ⟨by kernel_rfl, by kernel_rfl, by kernel_rfl, by decide⟩
theorem fo_26_1 : fieldOff Tryd.prog 26 1 = some 1 := by kernel_rfl
theorem fo_26_2 : fieldOff Tryd.prog 26 2 = some 2 := by kernel_rfl
theorem fo_28_3 : fieldOff Tryd.prog 28 3 = some 3 := by kernel_rfl
theorem fo_28_5 : fieldOff Tryd.prog 28 5 = some 5 := by kernel_rfl
theorem fo_77_0 : fieldOff Tryd.prog 77 0 = some 0 := by kernel_rfl
theorem fo_77_1 : fieldOff Tryd.prog 77 1 = some 1 := by kernel_rfl
theorem fo_77_4 : fieldOff Tryd.prog 77 4 = some 4 := by kernel_rfl
theorem fo_77_5 : fieldOff Tryd.prog 77 5 = some 5 := by kernel_rfl
theorem fo_77_6 : fieldOff Tryd.prog 77 6 = some 6 := by kernel_rfl
theorem sc_23 : Scal Tryd.prog 23 := .of (by kernel_rfl)
theorem sc_24 : Scal Tryd.prog 24 := .of (by kernel_rfl)
theorem sc_3 : Scal Tryd.prog 3 := .of (by kernel_rfl)
theorem sc_75 : Scal Tryd.prog 75 := .of (by kernel_rfl)
theorem sc_9 : Scal Tryd.prog 9 := .of (by kernel_rfl)
theorem sz_73 : ∀ w, (sizeOf 73).run Tryd.prog w = .ok 5 w := SizeT.of (by kernel_rfl)
theorem sz_77 : ∀ w, (sizeOf 77).run Tryd.prog w = .ok 7 w := SizeT.of (by kernel_rfl)
theorem zt_73 : (Tryd.prog.info? 73).bind (·.zero) = some (.agg #[(.string ⟨#[]⟩), (.string ⟨#[]⟩), (.string ⟨#[]⟩), (.int .i64 0), (.int .i64 0)]) := by kernel_rfl
theorem zt_77 : (Tryd.prog.info? 77).bind (·.zero) = some (.agg #[(.string ⟨#[]⟩), (.string ⟨#[]⟩), (.string ⟨#[]⟩), (.int .i64 0), (.int .i64 0), (.int .i64 0), (.slice none 0 0)]) := by kernel_rfl
end TyL4
open TyL4


theorem eqT_lck : EqT Tryd.prog 39 [.str, .str, .int .i64, .int .i64] := .of (by kernel_rfl)
theorem eq_lck (x y : Lck) : EqD Tryd.prog 39 x.ds y.ds (decide (x = y)) := .of eqT_lck [.string x.item, .string x.carrier, .int .i64 x.what, .int .i64 x.many] [.string y.item, .string y.carrier, .int .i64 y.what, .int .i64 y.many] rfl rfl rfl rfl (by
  obtain ⟨a, b, c, d⟩ := x
  obtain ⟨e, f, g, h⟩ := y
  simp [sameL, sameV])


set_option maxRecDepth 100000 in
set_option maxHeartbeats 1000000 in
theorem c_eqLck (l : List Lck) : ACall Tryd.prog 16 [.sl (l.map Lck.ds), .sl (l.map Lck.ds)] (.v (.bool true)) := by
  refine acall_of (n := 26) (ds' := [.v (.bool true)]) Tryd.func16 rfl (by kernel_rfl) rfl [4] rfl rfl ?_
  intro B w0 F0 fr
  refine AWP.bound 0 rfl (fun hbd0 => ?_)
  rw [List.length_map] at hbd0
  refine AWP.seq ?_
  refine AWP.region ?_
  refine AOps.step rfl rfl rfl (AOp.assignD rfl rfl) ?_
  refine AOps.nil ?_
  refine AWP.seq ?_
  refine AWP.seq ?_
  refine AWP.region ?_
  refine AOps.step rfl rfl rfl (AOp.moveD rfl rfl) ?_
  refine AOps.step rfl rfl rfl (AOp.lenSl rfl et_34.ht rfl) ?_
  refine AOps.step rfl rfl rfl (AOp.moveD rfl rfl) ?_
  refine AOps.step rfl rfl rfl (AOp.lenSl rfl et_34.ht rfl) ?_
  refine AOps.step rfl rfl rfl (AOp.neq rfl rfl rfl) ?_
  refine AOps.nil ?_
  refine AWP.cond rfl (fun h1 => ?_) (fun h1 => ?_)
  · replace h1 := of_decide_eq_true h1
    exact absurd rfl h1
  · replace h1 := of_decide_eq_false h1
    refine AWP.skip ?_
    refine AWP.seq ?_
    refine AWP.seq ?_
    refine AWP.region ?_
    refine AOps.step rfl rfl rfl (AOp.moveD rfl rfl) ?_
    refine AOps.step rfl rfl rfl (AOp.lenSl rfl et_34.ht rfl) ?_
    refine AOps.step rfl rfl rfl (AOp.moveD rfl rfl) ?_
    refine AOps.nil ?_
    refine AWP.block ?_
    refine AWP.loop (G := Nat) (fun k => Env.of [(13, .d (.v (.int .i64 (k : Int)))), (0, .d (.sl (l.map Lck.ds))), (1, .d (.sl (l.map Lck.ds))), (12, .d (.v (.int .i64 ((l.map Lck.ds).length : Int))))]) (fun k => []) (fun k => k ≤ l.length) (fun k => l.length - k) 0 (Nat.zero_le _) (Sub.less ⟨(SLe.of_eq rfl), SLe.refl _, SLe.refl _, SLe.refl _, trivial⟩ (fun _ h => h)) ?_
    intro k hk
    refine AWP.seq ?_
    refine AWP.region ?_
    refine AOps.step rfl rfl rfl (AOp.lss rfl rfl rfl) ?_
    refine AOps.nil ?_
    refine AWP.seq ?_
    refine AWP.cond rfl (fun h2 => ?_) (fun h2 => ?_)
    · replace h2 := of_decide_eq_true h2
      rw [List.length_map] at h2
      have hlt : k < l.length := by omega
      refine AWP.skip ?_
      refine AWP.seq ?_
      refine AWP.block ?_
      refine AWP.seq ?_
      refine AWP.region ?_
      refine AOps.step rfl rfl rfl (AOp.moveD rfl rfl) ?_
      refine AOps.step rfl rfl rfl (AOp.assignD rfl rfl) ?_
      refine AOps.nil ?_
      refine AWP.seq ?_
      refine AWP.draw (by kernel_rfl) (by kernel_rfl) ?_
      refine DRun.step rfl rfl rfl (AOp.moveD rfl rfl) ?_
      refine DRun.step rfl rfl rfl (AOp.moveD rfl rfl) ?_
      refine DRun.step rfl rfl rfl (AOp.indexAddr rfl et_34 rfl rfl k rfl (at_list hlt) rfl) ?_
      refine DRun.step rfl rfl rfl (AOp.loadAgg rfl ag_39 rfl rfl) ?_
      refine DRun.step rfl rfl rfl (AOp.moveD rfl rfl) ?_
      refine DRun.step rfl rfl rfl (AOp.moveD rfl rfl) ?_
      refine DRun.step rfl rfl rfl (AOp.indexAddr rfl et_34 rfl rfl k rfl (at_list hlt) rfl) ?_
      refine DRun.step rfl rfl rfl (AOp.loadAgg rfl ag_39 rfl rfl) ?_
      refine DRun.step rfl rfl rfl (AOp.aggNeq rfl rfl rfl (eq_lck _ _)) ?_
      refine DRun.nil ?_
      refine AWP.cond rfl (fun h3 => ?_) (fun h3 => ?_)
      · replace h3 := bnot_t h3; replace h3 := of_decide_eq_false h3
        exact absurd rfl h3
      · replace h3 := bnot_f h3; replace h3 := of_decide_eq_true h3
        refine AWP.skip ?_
        refine AWP.region ?_
        refine AOps.step rfl rfl rfl (AOp.add64 rfl rfl rfl (by omega) (by omega)) ?_
        refine AOps.step rfl rfl rfl (AOp.moveD rfl rfl) ?_
        refine AOps.nil ?_
        refine ⟨k + 1, (by omega), (by dsimp only; omega), Sub.less ⟨(SLe.of_eq rfl), SLe.refl _, SLe.refl _, SLe.refl _, trivial⟩ (fun _ h => h)⟩
    · replace h2 := of_decide_eq_false h2
      refine AWP.exit ?_
      refine AWP.seq ?_
      refine AWP.region ?_
      refine AOps.step rfl rfl rfl (AOp.assignD rfl rfl) ?_
      refine AOps.nil ?_
      refine AWP.ret ?_
      refine ⟨RetD.eq rfl ?_, trivial⟩
      all_goals (rfl)

set_option maxRecDepth 100000 in
set_option maxHeartbeats 1000000 in
theorem c_goodOn (v : Vlt) (it : ByteArray) (p : Pol) (day : Int) (vo : VOk v) (po : POk p) (hd : 0 ≤ day ∧ day ≤ 200000) : ACall Tryd.prog 52 [.agg v.ds, .agg p.ds, .v (.string it), .v (.int .i64 day)] (.sl ((goodOnes v it p day).map Carr.ds)) := by
  refine acall_of (n := 58) (ds' := [.sl ((goodOnes v it p day).map Carr.ds)]) Tryd.func52 rfl (by kernel_rfl) rfl [8] rfl rfl ?_
  intro B w0 F0 fr
  have hnp := vo.np
  refine AWP.seq ?_
  refine AWP.region ?_
  refine AOps.step rfl rfl rfl (AOp.box rfl rfl rfl) ?_
  refine AOps.step rfl rfl rfl (AOp.box rfl rfl rfl) ?_
  refine AOps.step rfl rfl rfl (AOp.assignD rfl rfl) ?_
  refine AOps.nil ?_
  refine AWP.seq ?_
  refine AWP.region ?_
  refine AOps.step rfl rfl rfl (AOp.assignD rfl rfl) ?_
  refine AOps.nil ?_
  refine AWP.seq ?_
  refine AWP.seq ?_
  refine AWP.region ?_
  refine AOps.step rfl rfl rfl (AOp.fieldAddr rfl fo_26_2 rfl) ?_
  refine AOps.step rfl rfl rfl (AOp.load rfl sc_24 rfl) ?_
  refine AOps.step rfl rfl rfl (AOp.lenSl rfl et_24.ht rfl) ?_
  refine AOps.step rfl rfl rfl (AOp.moveD rfl rfl) ?_
  refine AOps.nil ?_
  refine AWP.block ?_
  refine AWP.adopt 9 1 73 5 rfl rfl ?_
  refine AWP.loop (G := Nat) (fun k => Env.of [(16, .d (.v (.int .i64 (k : Int)))), (14, .d (.sl (v.copies.map Cpy.ds))), (15, .d (.v (.int .i64 ((v.copies.map Cpy.ds).length : Int)))), (4, .d (.fp v.ds)), (5, .d (.fp p.ds)), (2, .d (.v (.string it))), (3, .d (.v (.int .i64 day))), (9, .own 1)]) (fun k => [(1, .row 73 5 ((rGoodTo v it p day k).map Carr.ds))]) (fun k => k ≤ v.copies.length) (fun k => v.copies.length - k) 0 (Nat.zero_le _) (Sub.less ⟨(SLe.of_eq rfl), SLe.refl _, SLe.refl _, SLe.refl _, SLe.refl _, SLe.refl _, SLe.refl _, SLe.refl _, trivial⟩ (row_same rfl)) ?_
  intro k hk
  refine AWP.seq ?_
  refine AWP.region ?_
  refine AOps.step rfl rfl rfl (AOp.lss rfl rfl rfl) ?_
  refine AOps.nil ?_
  refine AWP.seq ?_
  refine AWP.cond rfl (fun h1 => ?_) (fun h1 => ?_)
  · replace h1 := of_decide_eq_true h1
    rw [List.length_map] at h1
    have hlt : k < v.copies.length := by omega
    have hcl := rGoodTo_len v it p day k
    have hco := vo.cpy _ (List.getElem_mem hlt)
    obtain ⟨ci, hci, eci, _⟩ := idxBy_some hco.carr
    have hCA := carrAt_eq hci eci
    have hcb := vo.carr (List.getElem_mem hci)
    refine AWP.skip ?_
    refine AWP.seq ?_
    refine AWP.block ?_
    refine AWP.seq ?_
    refine AWP.region ?_
    refine AOps.step rfl rfl rfl (AOp.indexAddr rfl et_24 rfl rfl k rfl (at_list hlt) rfl) ?_
    refine AOps.step rfl rfl rfl (AOp.loadAgg rfl ag_77 rfl rfl) ?_
    refine AOps.alloc 101 rfl rfl rfl rfl zt_77 rfl rfl rfl ?_
    refine AOps.store rfl rfl rfl sz_77 rfl (.head _) rfl rfl rfl (Nat.le_of_ble_eq_true rfl) ?_
    refine AOps.freezeCells 11 (ds := v.copies[k].ds) rfl (.head _) ?_
    refine AOps.nil ?_
    refine AWP.seq ?_
    refine AWP.drawAlloc 9 12 102 [(.string ⟨#[]⟩), (.string ⟨#[]⟩), (.string ⟨#[]⟩), (.int .i64 0), (.int .i64 0)] rfl rfl rfl (by kernel_rfl) (by kernel_rfl) (by kernel_rfl) ?_
    refine XRun.step rfl rfl rfl (AOp.fieldAddr rfl fo_26_1 rfl) ?_
    refine XRun.step rfl rfl rfl (AOp.load rfl sc_23 rfl) ?_
    refine XRun.step rfl rfl rfl (AOp.loadAgg rfl ag_26 rfl rfl) ?_
    refine XRun.step rfl rfl rfl (AOp.fieldAddr rfl fo_77_1 rfl) ?_
    refine XRun.step rfl rfl rfl (AOp.load rfl sc_9 rfl) ?_
    refine XRun.step rfl rfl rfl (AOp.call rfl (.cons (ArgOk.rfl' rfl) (.cons (ArgOk.rfl' rfl) .nil)) (c_carrierOf _ _)) ?_
    refine XRun.step rfl rfl rfl (AOp.indexAddr rfl et_23 rfl rfl ci eci (at_list hci) rfl) ?_
    refine XRun.step rfl rfl rfl (AOp.loadAgg rfl ag_73 rfl rfl) ?_
    refine XRun.alloc rfl rfl rfl rfl zt_73 rfl ?_
    refine XRun.nil rfl ?_
    refine AOps.store rfl rfl rfl sz_73 rfl (.head _) rfl rfl rfl (Nat.le_of_ble_eq_true rfl) ?_
    refine AOps.freezeCells 12 (ds := v.carrs[ci].ds) rfl (.head _) ?_
    refine AOps.nil ?_
    refine AWP.seq ?_
    refine AWP.region ?_
    refine AOps.step rfl rfl rfl (AOp.fieldAddr rfl fo_77_0 rfl) ?_
    refine AOps.step rfl rfl rfl (AOp.load rfl sc_9 rfl) ?_
    refine AOps.step rfl rfl rfl (AOp.moveD rfl rfl) ?_
    refine AOps.step rfl rfl rfl (AOp.seql rfl rfl rfl) ?_
    refine AOps.step rfl rfl rfl (AOp.moveD rfl rfl) ?_
    refine AOps.split 32 rfl (fun g2 => ?_) (fun g2 => ?_)
    · replace g2 := of_decide_eq_true g2
      have hI := g2
      refine AOps.step ⟨32, rfl, .inl ⟨_, rfl, rfl⟩⟩ rfl rfl (AOp.fieldAddr rfl fo_77_6 rfl) ?_
      refine AOps.step ⟨32, rfl, .inl ⟨_, rfl, rfl⟩⟩ rfl rfl (AOp.load rfl sc_75 rfl) ?_
      refine AOps.step ⟨32, rfl, .inl ⟨_, rfl, rfl⟩⟩ rfl rfl (AOp.lenSl rfl et_75.ht rfl) ?_
      refine AOps.step ⟨32, rfl, .inl ⟨_, rfl, rfl⟩⟩ rfl rfl (AOp.eql rfl rfl rfl) ?_
      refine AOps.step rfl rfl rfl (AOp.pickT rfl rfl rfl) ?_
      refine AOps.step rfl rfl rfl (AOp.moveD rfl rfl) ?_
      refine AOps.split 38 rfl (fun g3 => ?_) (fun g3 => ?_)
      · replace g3 := of_decide_eq_true g3
        rw [List.length_map] at g3
        have hA := g3
        refine AOps.step ⟨38, rfl, .inl ⟨_, rfl, rfl⟩⟩ rfl rfl (AOp.fieldAddr rfl fo_77_5 rfl) ?_
        refine AOps.step ⟨38, rfl, .inl ⟨_, rfl, rfl⟩⟩ rfl rfl (AOp.load rfl sc_3 rfl) ?_
        refine AOps.step ⟨38, rfl, .inl ⟨_, rfl, rfl⟩⟩ rfl rfl (AOp.fieldAddr rfl fo_28_5 rfl) ?_
        refine AOps.step ⟨38, rfl, .inl ⟨_, rfl, rfl⟩⟩ rfl rfl (AOp.load rfl sc_3 rfl) ?_
        refine AOps.step ⟨38, rfl, .inl ⟨_, rfl, rfl⟩⟩ rfl rfl (AOp.leq rfl rfl rfl) ?_
        refine AOps.step rfl rfl rfl (AOp.pickT rfl rfl rfl) ?_
        refine AOps.step rfl rfl rfl (AOp.moveD rfl rfl) ?_
        refine AOps.split 45 rfl (fun g4 => ?_) (fun g4 => ?_)
        · replace g4 := of_decide_eq_true g4
          have hB := g4
          refine AOps.step ⟨45, rfl, .inl ⟨_, rfl, rfl⟩⟩ rfl rfl (AOp.loadAgg rfl ag_73 rfl rfl) ?_
          refine AOps.step ⟨45, rfl, .inl ⟨_, rfl, rfl⟩⟩ rfl rfl (AOp.loadAgg rfl ag_28 rfl rfl) ?_
          refine AOps.step ⟨45, rfl, .inl ⟨_, rfl, rfl⟩⟩ rfl rfl (AOp.moveD rfl rfl) ?_
          refine AOps.step ⟨45, rfl, .inl ⟨_, rfl, rfl⟩⟩ rfl rfl (AOp.call rfl (.cons (ArgOk.rfl' rfl) (.cons (ArgOk.rfl' rfl) (.cons (ArgOk.rfl' rfl) .nil))) (c_rOld v.carrs[ci] p day hcb.2.1 po.old)) ?_
          refine AOps.step ⟨45, rfl, .inl ⟨_, rfl, rfl⟩⟩ rfl rfl (AOp.not rfl rfl) ?_
          refine AOps.step rfl rfl rfl (AOp.pickT rfl rfl rfl) ?_
          refine AOps.nil ?_
          refine AWP.cond rfl (fun h5 => ?_) (fun h5 => ?_)
          · replace h5 := bnot_t h5
            have HG : (ofItem it v.copies[k] && goodB v p day v.copies[k]) = true := by unfold ofItem goodB; rw [decide_eq_true hI, decide_eq_true hA, decide_eq_true hB, hCA, h5]; rfl
            have HY := rGoodTo_yes hlt HG
            refine AWP.region ?_
            refine AOps.step rfl rfl rfl (AOp.moveO rfl rfl) ?_
            refine AOps.step rfl rfl rfl (AOp.loadAgg rfl ag_73 rfl rfl) ?_
            refine AOps.step rfl rfl rfl (AOp.buildSlice rfl et_23 (.cons rfl rfl rfl .nil) rfl (by decide)) ?_
            -- append 55
            refine AOps.append rfl rfl rfl rfl et_23 rfl (.head _) rfl (by simp [D.parts]; rfl) (by simp; omega) (by simp; omega) ?_
            refine AOps.step rfl rfl rfl (AOp.assignO rfl rfl) ?_
            refine AOps.nil ?_
            refine AWP.region ?_
            refine AOps.step rfl rfl rfl (AOp.add64 rfl rfl rfl (by omega) (by omega)) ?_
            refine AOps.step rfl rfl rfl (AOp.moveD rfl rfl) ?_
            refine AOps.nil ?_
            refine ⟨k + 1, (by omega), (by dsimp only; omega), Sub.less ⟨(SLe.of_eq rfl), SLe.refl _, SLe.refl _, SLe.refl _, SLe.refl _, SLe.refl _, SLe.refl _, SLe.refl _, trivial⟩ (row_same (by first | (rw [HY]; done) | (rw [HY, hCA, List.map_append]; rfl)))⟩
          · replace h5 := bnot_f h5
            have HG : (ofItem it v.copies[k] && goodB v p day v.copies[k]) = false := by unfold ofItem goodB; rw [decide_eq_true hI, decide_eq_true hA, decide_eq_true hB, hCA, h5]; rfl
            have HY := rGoodTo_no hlt HG
            refine AWP.skip ?_
            refine AWP.region ?_
            refine AOps.step rfl rfl rfl (AOp.add64 rfl rfl rfl (by omega) (by omega)) ?_
            refine AOps.step rfl rfl rfl (AOp.moveD rfl rfl) ?_
            refine AOps.nil ?_
            refine ⟨k + 1, (by omega), (by dsimp only; omega), Sub.less ⟨(SLe.of_eq rfl), SLe.refl _, SLe.refl _, SLe.refl _, SLe.refl _, SLe.refl _, SLe.refl _, SLe.refl _, trivial⟩ (row_same (by first | (rw [HY]; done) | (rw [HY, hCA, List.map_append]; rfl)))⟩
        · replace g4 := of_decide_eq_false g4
          have HG : (ofItem it v.copies[k] && goodB v p day v.copies[k]) = false := by unfold ofItem goodB; rw [decide_eq_true hI, decide_eq_true hA, decide_eq_false g4]; rfl
          have HY := rGoodTo_no hlt HG
          refine AOps.pass ⟨45, rfl, .inl ⟨_, rfl, rfl⟩⟩ rfl rfl ?_
          refine AOps.pass ⟨45, rfl, .inl ⟨_, rfl, rfl⟩⟩ rfl rfl ?_
          refine AOps.pass ⟨45, rfl, .inl ⟨_, rfl, rfl⟩⟩ rfl rfl ?_
          refine AOps.pass ⟨45, rfl, .inl ⟨_, rfl, rfl⟩⟩ rfl rfl ?_
          refine AOps.pass ⟨45, rfl, .inl ⟨_, rfl, rfl⟩⟩ rfl rfl ?_
          refine AOps.step rfl rfl rfl (AOp.pickF rfl rfl rfl) ?_
          refine AOps.nil ?_
          refine AWP.cond rfl (fun h => nomatch h) (fun _ => ?_)
          refine AWP.skip ?_
          refine AWP.region ?_
          refine AOps.step rfl rfl rfl (AOp.add64 rfl rfl rfl (by omega) (by omega)) ?_
          refine AOps.step rfl rfl rfl (AOp.moveD rfl rfl) ?_
          refine AOps.nil ?_
          refine ⟨k + 1, (by omega), (by dsimp only; omega), Sub.less ⟨(SLe.of_eq rfl), SLe.refl _, SLe.refl _, SLe.refl _, SLe.refl _, SLe.refl _, SLe.refl _, SLe.refl _, trivial⟩ (row_same (by first | (rw [HY]; done) | (rw [HY, hCA, List.map_append]; rfl)))⟩
      · replace g3 := of_decide_eq_false g3
        rw [List.length_map] at g3
        have HG : (ofItem it v.copies[k] && goodB v p day v.copies[k]) = false := by unfold ofItem goodB; rw [decide_eq_true hI, decide_eq_false g3]; rfl
        have HY := rGoodTo_no hlt HG
        refine AOps.pass ⟨38, rfl, .inl ⟨_, rfl, rfl⟩⟩ rfl rfl ?_
        refine AOps.pass ⟨38, rfl, .inl ⟨_, rfl, rfl⟩⟩ rfl rfl ?_
        refine AOps.pass ⟨38, rfl, .inl ⟨_, rfl, rfl⟩⟩ rfl rfl ?_
        refine AOps.pass ⟨38, rfl, .inl ⟨_, rfl, rfl⟩⟩ rfl rfl ?_
        refine AOps.pass ⟨38, rfl, .inl ⟨_, rfl, rfl⟩⟩ rfl rfl ?_
        refine AOps.step rfl rfl rfl (AOp.pickF rfl rfl rfl) ?_
        refine AOps.step rfl rfl rfl (AOp.moveD rfl rfl) ?_
        refine AOps.pass ⟨45, rfl, .inl ⟨_, rfl, rfl⟩⟩ rfl rfl ?_
        refine AOps.pass ⟨45, rfl, .inl ⟨_, rfl, rfl⟩⟩ rfl rfl ?_
        refine AOps.pass ⟨45, rfl, .inl ⟨_, rfl, rfl⟩⟩ rfl rfl ?_
        refine AOps.pass ⟨45, rfl, .inl ⟨_, rfl, rfl⟩⟩ rfl rfl ?_
        refine AOps.pass ⟨45, rfl, .inl ⟨_, rfl, rfl⟩⟩ rfl rfl ?_
        refine AOps.step rfl rfl rfl (AOp.pickF rfl rfl rfl) ?_
        refine AOps.nil ?_
        refine AWP.cond rfl (fun h => nomatch h) (fun _ => ?_)
        refine AWP.skip ?_
        refine AWP.region ?_
        refine AOps.step rfl rfl rfl (AOp.add64 rfl rfl rfl (by omega) (by omega)) ?_
        refine AOps.step rfl rfl rfl (AOp.moveD rfl rfl) ?_
        refine AOps.nil ?_
        refine ⟨k + 1, (by omega), (by dsimp only; omega), Sub.less ⟨(SLe.of_eq rfl), SLe.refl _, SLe.refl _, SLe.refl _, SLe.refl _, SLe.refl _, SLe.refl _, SLe.refl _, trivial⟩ (row_same (by first | (rw [HY]; done) | (rw [HY, hCA, List.map_append]; rfl)))⟩
    · replace g2 := of_decide_eq_false g2
      have HG : (ofItem it v.copies[k] && goodB v p day v.copies[k]) = false := by unfold ofItem; rw [decide_eq_false g2]; rfl
      have HY := rGoodTo_no hlt HG
      refine AOps.pass ⟨32, rfl, .inl ⟨_, rfl, rfl⟩⟩ rfl rfl ?_
      refine AOps.pass ⟨32, rfl, .inl ⟨_, rfl, rfl⟩⟩ rfl rfl ?_
      refine AOps.pass ⟨32, rfl, .inl ⟨_, rfl, rfl⟩⟩ rfl rfl ?_
      refine AOps.pass ⟨32, rfl, .inl ⟨_, rfl, rfl⟩⟩ rfl rfl ?_
      refine AOps.step rfl rfl rfl (AOp.pickF rfl rfl rfl) ?_
      refine AOps.step rfl rfl rfl (AOp.moveD rfl rfl) ?_
      refine AOps.pass ⟨38, rfl, .inl ⟨_, rfl, rfl⟩⟩ rfl rfl ?_
      refine AOps.pass ⟨38, rfl, .inl ⟨_, rfl, rfl⟩⟩ rfl rfl ?_
      refine AOps.pass ⟨38, rfl, .inl ⟨_, rfl, rfl⟩⟩ rfl rfl ?_
      refine AOps.pass ⟨38, rfl, .inl ⟨_, rfl, rfl⟩⟩ rfl rfl ?_
      refine AOps.pass ⟨38, rfl, .inl ⟨_, rfl, rfl⟩⟩ rfl rfl ?_
      refine AOps.step rfl rfl rfl (AOp.pickF rfl rfl rfl) ?_
      refine AOps.step rfl rfl rfl (AOp.moveD rfl rfl) ?_
      refine AOps.pass ⟨45, rfl, .inl ⟨_, rfl, rfl⟩⟩ rfl rfl ?_
      refine AOps.pass ⟨45, rfl, .inl ⟨_, rfl, rfl⟩⟩ rfl rfl ?_
      refine AOps.pass ⟨45, rfl, .inl ⟨_, rfl, rfl⟩⟩ rfl rfl ?_
      refine AOps.pass ⟨45, rfl, .inl ⟨_, rfl, rfl⟩⟩ rfl rfl ?_
      refine AOps.pass ⟨45, rfl, .inl ⟨_, rfl, rfl⟩⟩ rfl rfl ?_
      refine AOps.step rfl rfl rfl (AOp.pickF rfl rfl rfl) ?_
      refine AOps.nil ?_
      refine AWP.cond rfl (fun h => nomatch h) (fun _ => ?_)
      refine AWP.skip ?_
      refine AWP.region ?_
      refine AOps.step rfl rfl rfl (AOp.add64 rfl rfl rfl (by omega) (by omega)) ?_
      refine AOps.step rfl rfl rfl (AOp.moveD rfl rfl) ?_
      refine AOps.nil ?_
      refine ⟨k + 1, (by omega), (by dsimp only; omega), Sub.less ⟨(SLe.of_eq rfl), SLe.refl _, SLe.refl _, SLe.refl _, SLe.refl _, SLe.refl _, SLe.refl _, SLe.refl _, trivial⟩ (row_same (by first | (rw [HY]; done) | (rw [HY, hCA, List.map_append]; rfl)))⟩
  · replace h1 := of_decide_eq_false h1
    rw [List.length_map] at h1
    obtain rfl : k = v.copies.length := by omega
    have HE := rGoodTo_all v it p day
    refine AWP.exit ?_
    refine AWP.seq ?_
    refine AWP.region ?_
    refine AOps.step rfl rfl rfl (AOp.moveO rfl rfl) ?_
    refine AOps.step rfl rfl rfl (AOp.assignO rfl rfl) ?_
    refine AOps.nil ?_
    refine AWP.ret ?_
    refine ⟨RetD.own rfl (.head _) ?_, trivial⟩
    all_goals (rw [HE])

set_option maxRecDepth 100000 in
set_option maxHeartbeats 1000000 in
theorem c_lacksOf (v : Vlt) (p : Pol) (c : Cpy) (day : Int) (vo : VOk v) (po : POk p) (hc : c ∈ v.copies) (hd : 0 ≤ day ∧ day ≤ 200000) : ACall Tryd.prog 53 [.agg v.ds, .agg p.ds, .agg c.ds, .v (.int .i64 day)] (.sl ((lackCpy v p day c).map Lck.ds)) := by
  refine acall_of (n := 73) (ds' := [.sl ((lackCpy v p day c).map Lck.ds)]) Tryd.func53 rfl (by kernel_rfl) rfl [8] rfl rfl ?_
  intro B w0 F0 fr
  have hco := vo.cpy c hc
  obtain ⟨ci, hci, eci, _⟩ := idxBy_some hco.carr
  have hCA := carrAt_eq hci eci
  have hcb := vo.carr (List.getElem_mem hci)
  have hla := hco.last
  have hda := hco.day
  have hev := po.every
  refine AWP.seq ?_
  refine AWP.region ?_
  refine AOps.step rfl rfl rfl (AOp.box rfl rfl rfl) ?_
  refine AOps.step rfl rfl rfl (AOp.box rfl rfl rfl) ?_
  refine AOps.step rfl rfl rfl (AOp.box rfl rfl rfl) ?_
  refine AOps.step rfl rfl rfl (AOp.assignD rfl rfl) ?_
  refine AOps.nil ?_
  refine AWP.seq ?_
  refine AWP.region ?_
  refine AOps.step rfl rfl rfl (AOp.assignD rfl rfl) ?_
  refine AOps.nil ?_
  refine AWP.seq ?_
  refine AWP.seq ?_
  refine AWP.region ?_
  refine AOps.step rfl rfl rfl (AOp.fieldAddr rfl fo_77_6 rfl) ?_
  refine AOps.step rfl rfl rfl (AOp.load rfl sc_75 rfl) ?_
  refine AOps.step rfl rfl rfl (AOp.lenSl rfl et_75.ht rfl) ?_
  refine AOps.step rfl rfl rfl (AOp.gtr rfl rfl rfl) ?_
  refine AOps.nil ?_
  refine AWP.cond rfl (fun h1 => ?_) (fun h1 => ?_)
  · replace h1 := of_decide_eq_true h1
    rw [List.length_map] at h1
    have E1 : decide ((c.bad.length : Int) > 0) = true := decide_eq_true h1
    refine AWP.region ?_
    refine AOps.step rfl rfl rfl (AOp.moveD rfl rfl) ?_
    refine AOps.step rfl rfl rfl (AOp.fieldAddr rfl fo_77_0 rfl) ?_
    refine AOps.step rfl rfl rfl (AOp.load rfl sc_9 rfl) ?_
    refine AOps.step rfl rfl rfl (AOp.fieldAddr rfl fo_77_1 rfl) ?_
    refine AOps.step rfl rfl rfl (AOp.load rfl sc_9 rfl) ?_
    refine AOps.step rfl rfl rfl (AOp.fieldAddr rfl fo_77_6 rfl) ?_
    refine AOps.step rfl rfl rfl (AOp.load rfl sc_75 rfl) ?_
    refine AOps.step rfl rfl rfl (AOp.lenSl rfl et_75.ht rfl) ?_
    refine AOps.step rfl rfl rfl (AOp.build rfl bu_39 (.cons rfl rfl (.cons rfl rfl (.cons rfl rfl (.cons rfl rfl .nil)))) rfl) ?_
    refine AOps.step rfl rfl rfl (AOp.buildSlice rfl et_34 (.cons rfl rfl rfl .nil) rfl (by decide)) ?_
    refine AOps.adopt 14 51 39 4 rfl rfl ?_
    -- append 24
    refine AOps.append rfl rfl rfl rfl et_34 rfl (.head _) rfl (by simp [D.parts]) (by simp) (by simp) ?_
    refine AOps.step rfl rfl rfl (AOp.assignO rfl rfl) ?_
    refine AOps.nil ?_
    refine AWP.seq ?_
    refine AWP.seq ?_
    refine AWP.draw (by kernel_rfl) (by kernel_rfl) ?_
    refine DRun.step rfl rfl rfl (AOp.fieldAddr rfl fo_26_1 rfl) ?_
    refine DRun.step rfl rfl rfl (AOp.load rfl sc_23 rfl) ?_
    refine DRun.step rfl rfl rfl (AOp.loadAgg rfl ag_26 rfl rfl) ?_
    refine DRun.step rfl rfl rfl (AOp.fieldAddr rfl fo_77_1 rfl) ?_
    refine DRun.step rfl rfl rfl (AOp.load rfl sc_9 rfl) ?_
    refine DRun.step rfl rfl rfl (AOp.call rfl (.cons (ArgOk.rfl' rfl) (.cons (ArgOk.rfl' rfl) .nil)) (c_carrierOf _ _)) ?_
    refine DRun.step rfl rfl rfl (AOp.indexAddr rfl et_23 rfl rfl ci eci (at_list hci) rfl) ?_
    refine DRun.step rfl rfl rfl (AOp.loadAgg rfl ag_73 rfl rfl) ?_
    refine DRun.step rfl rfl rfl (AOp.loadAgg rfl ag_28 rfl rfl) ?_
    refine DRun.step rfl rfl rfl (AOp.moveD rfl rfl) ?_
    refine DRun.step rfl rfl rfl (AOp.call rfl (.cons (ArgOk.rfl' rfl) (.cons (ArgOk.rfl' rfl) (.cons (ArgOk.rfl' rfl) .nil))) (c_rOld v.carrs[ci] p day hcb.2.1 po.old)) ?_
    refine DRun.nil ?_
    refine AWP.cond rfl (fun h2 => ?_) (fun h2 => ?_)
    · skip
      have E2 : oldB p day (carrAt v c.carrier) = true := by rw [hCA]; exact h2
      refine AWP.region ?_
      refine AOps.step rfl rfl rfl (AOp.moveO rfl rfl) ?_
      refine AOps.step rfl rfl rfl (AOp.fieldAddr rfl fo_77_0 rfl) ?_
      refine AOps.step rfl rfl rfl (AOp.load rfl sc_9 rfl) ?_
      refine AOps.step rfl rfl rfl (AOp.fieldAddr rfl fo_77_1 rfl) ?_
      refine AOps.step rfl rfl rfl (AOp.load rfl sc_9 rfl) ?_
      refine AOps.step rfl rfl rfl (AOp.build rfl bu_39 (.cons rfl rfl (.cons rfl rfl (.cons rfl rfl .nil))) rfl) ?_
      refine AOps.step rfl rfl rfl (AOp.buildSlice rfl et_34 (.cons rfl rfl rfl .nil) rfl (by decide)) ?_
      -- append 43
      refine AOps.append rfl rfl rfl rfl et_34 rfl (.head _) rfl (by simp [D.parts]) (by simp) (by simp) ?_
      refine AOps.step rfl rfl rfl (AOp.assignO rfl rfl) ?_
      refine AOps.nil ?_
      refine AWP.seq ?_
      refine AWP.seq ?_
      refine AWP.region ?_
      refine AOps.step rfl rfl rfl (AOp.fieldAddr rfl fo_77_5 rfl) ?_
      refine AOps.step rfl rfl rfl (AOp.load rfl sc_3 rfl) ?_
      refine AOps.step rfl rfl rfl (AOp.fieldAddr rfl fo_28_5 rfl) ?_
      refine AOps.step rfl rfl rfl (AOp.load rfl sc_3 rfl) ?_
      refine AOps.step rfl rfl rfl (AOp.gtr rfl rfl rfl) ?_
      refine AOps.nil ?_
      refine AWP.cond rfl (fun h3 => ?_) (fun h3 => ?_)
      · replace h3 := of_decide_eq_true h3
        have E3 : decide (c.gen > p.gens) = true := decide_eq_true h3
        refine AWP.region ?_
        refine AOps.step rfl rfl rfl (AOp.moveO rfl rfl) ?_
        refine AOps.step rfl rfl rfl (AOp.fieldAddr rfl fo_77_0 rfl) ?_
        refine AOps.step rfl rfl rfl (AOp.load rfl sc_9 rfl) ?_
        refine AOps.step rfl rfl rfl (AOp.fieldAddr rfl fo_77_1 rfl) ?_
        refine AOps.step rfl rfl rfl (AOp.load rfl sc_9 rfl) ?_
        refine AOps.step rfl rfl rfl (AOp.build rfl bu_39 (.cons rfl rfl (.cons rfl rfl (.cons rfl rfl .nil))) rfl) ?_
        refine AOps.step rfl rfl rfl (AOp.buildSlice rfl et_34 (.cons rfl rfl rfl .nil) rfl (by decide)) ?_
        -- append 56
        refine AOps.append rfl rfl rfl rfl et_34 rfl (.head _) rfl (by simp [D.parts]) (by simp) (by simp) ?_
        refine AOps.step rfl rfl rfl (AOp.assignO rfl rfl) ?_
        refine AOps.nil ?_
        refine AWP.seq ?_
        refine AWP.seq ?_
        refine AWP.region ?_
        refine AOps.step rfl rfl rfl (AOp.moveD rfl rfl) ?_
        refine AOps.step rfl rfl rfl (AOp.fieldAddr rfl fo_77_4 rfl) ?_
        refine AOps.step rfl rfl rfl (AOp.load rfl sc_3 rfl) ?_
        refine AOps.step rfl rfl rfl (AOp.fieldAddr rfl fo_28_3 rfl) ?_
        refine AOps.step rfl rfl rfl (AOp.load rfl sc_3 rfl) ?_
        refine AOps.step rfl rfl rfl (AOp.add64 rfl rfl rfl (by omega) (by omega)) ?_
        refine AOps.step rfl rfl rfl (AOp.gtr rfl rfl rfl) ?_
        refine AOps.nil ?_
        refine AWP.cond rfl (fun h4 => ?_) (fun h4 => ?_)
        · replace h4 := of_decide_eq_true h4
          have E4 : decide (day - c.last > p.every) = true := decide_eq_true (by omega)
          refine AWP.region ?_
          refine AOps.step rfl rfl rfl (AOp.moveO rfl rfl) ?_
          refine AOps.step rfl rfl rfl (AOp.fieldAddr rfl fo_77_0 rfl) ?_
          refine AOps.step rfl rfl rfl (AOp.load rfl sc_9 rfl) ?_
          refine AOps.step rfl rfl rfl (AOp.fieldAddr rfl fo_77_1 rfl) ?_
          refine AOps.step rfl rfl rfl (AOp.load rfl sc_9 rfl) ?_
          refine AOps.step rfl rfl rfl (AOp.build rfl bu_39 (.cons rfl rfl (.cons rfl rfl (.cons rfl rfl .nil))) rfl) ?_
          refine AOps.step rfl rfl rfl (AOp.buildSlice rfl et_34 (.cons rfl rfl rfl .nil) rfl (by decide)) ?_
          -- append 71
          refine AOps.append rfl rfl rfl rfl et_34 rfl (.head _) rfl (by simp [D.parts]) (by simp) (by simp) ?_
          refine AOps.step rfl rfl rfl (AOp.assignO rfl rfl) ?_
          refine AOps.nil ?_
          refine AWP.seq ?_
          refine AWP.region ?_
          refine AOps.step rfl rfl rfl (AOp.moveO rfl rfl) ?_
          refine AOps.step rfl rfl rfl (AOp.assignO rfl rfl) ?_
          refine AOps.nil ?_
          refine AWP.ret ?_
          unfold lackCpy
          rw [E1, E2, E3, E4]
          repeat (first | rw [addL_t rfl] | rw [addL_f rfl])
          refine ⟨RetD.own rfl (.head _) ?_, trivial⟩
          all_goals (first | rfl | (simp only [List.length_map]; rfl))
        · replace h4 := of_decide_eq_false h4
          have E4 : decide (day - c.last > p.every) = false := decide_eq_false (by omega)
          refine AWP.skip ?_
          refine AWP.seq ?_
          refine AWP.region ?_
          refine AOps.step rfl rfl rfl (AOp.moveO rfl rfl) ?_
          refine AOps.step rfl rfl rfl (AOp.assignO rfl rfl) ?_
          refine AOps.nil ?_
          refine AWP.ret ?_
          unfold lackCpy
          rw [E1, E2, E3, E4]
          repeat (first | rw [addL_t rfl] | rw [addL_f rfl])
          refine ⟨RetD.own rfl (.head _) ?_, trivial⟩
          all_goals (first | rfl | (simp only [List.length_map]; rfl))
      · replace h3 := of_decide_eq_false h3
        have E3 : decide (c.gen > p.gens) = false := decide_eq_false h3
        refine AWP.skip ?_
        refine AWP.seq ?_
        refine AWP.seq ?_
        refine AWP.region ?_
        refine AOps.step rfl rfl rfl (AOp.moveD rfl rfl) ?_
        refine AOps.step rfl rfl rfl (AOp.fieldAddr rfl fo_77_4 rfl) ?_
        refine AOps.step rfl rfl rfl (AOp.load rfl sc_3 rfl) ?_
        refine AOps.step rfl rfl rfl (AOp.fieldAddr rfl fo_28_3 rfl) ?_
        refine AOps.step rfl rfl rfl (AOp.load rfl sc_3 rfl) ?_
        refine AOps.step rfl rfl rfl (AOp.add64 rfl rfl rfl (by omega) (by omega)) ?_
        refine AOps.step rfl rfl rfl (AOp.gtr rfl rfl rfl) ?_
        refine AOps.nil ?_
        refine AWP.cond rfl (fun h5 => ?_) (fun h5 => ?_)
        · replace h5 := of_decide_eq_true h5
          have E4 : decide (day - c.last > p.every) = true := decide_eq_true (by omega)
          refine AWP.region ?_
          refine AOps.step rfl rfl rfl (AOp.moveO rfl rfl) ?_
          refine AOps.step rfl rfl rfl (AOp.fieldAddr rfl fo_77_0 rfl) ?_
          refine AOps.step rfl rfl rfl (AOp.load rfl sc_9 rfl) ?_
          refine AOps.step rfl rfl rfl (AOp.fieldAddr rfl fo_77_1 rfl) ?_
          refine AOps.step rfl rfl rfl (AOp.load rfl sc_9 rfl) ?_
          refine AOps.step rfl rfl rfl (AOp.build rfl bu_39 (.cons rfl rfl (.cons rfl rfl (.cons rfl rfl .nil))) rfl) ?_
          refine AOps.step rfl rfl rfl (AOp.buildSlice rfl et_34 (.cons rfl rfl rfl .nil) rfl (by decide)) ?_
          -- append 71
          refine AOps.append rfl rfl rfl rfl et_34 rfl (.head _) rfl (by simp [D.parts]) (by simp) (by simp) ?_
          refine AOps.step rfl rfl rfl (AOp.assignO rfl rfl) ?_
          refine AOps.nil ?_
          refine AWP.seq ?_
          refine AWP.region ?_
          refine AOps.step rfl rfl rfl (AOp.moveO rfl rfl) ?_
          refine AOps.step rfl rfl rfl (AOp.assignO rfl rfl) ?_
          refine AOps.nil ?_
          refine AWP.ret ?_
          unfold lackCpy
          rw [E1, E2, E3, E4]
          repeat (first | rw [addL_t rfl] | rw [addL_f rfl])
          refine ⟨RetD.own rfl (.head _) ?_, trivial⟩
          all_goals (first | rfl | (simp only [List.length_map]; rfl))
        · replace h5 := of_decide_eq_false h5
          have E4 : decide (day - c.last > p.every) = false := decide_eq_false (by omega)
          refine AWP.skip ?_
          refine AWP.seq ?_
          refine AWP.region ?_
          refine AOps.step rfl rfl rfl (AOp.moveO rfl rfl) ?_
          refine AOps.step rfl rfl rfl (AOp.assignO rfl rfl) ?_
          refine AOps.nil ?_
          refine AWP.ret ?_
          unfold lackCpy
          rw [E1, E2, E3, E4]
          repeat (first | rw [addL_t rfl] | rw [addL_f rfl])
          refine ⟨RetD.own rfl (.head _) ?_, trivial⟩
          all_goals (first | rfl | (simp only [List.length_map]; rfl))
    · skip
      have E2 : oldB p day (carrAt v c.carrier) = false := by rw [hCA]; exact h2
      refine AWP.skip ?_
      refine AWP.seq ?_
      refine AWP.seq ?_
      refine AWP.region ?_
      refine AOps.step rfl rfl rfl (AOp.fieldAddr rfl fo_77_5 rfl) ?_
      refine AOps.step rfl rfl rfl (AOp.load rfl sc_3 rfl) ?_
      refine AOps.step rfl rfl rfl (AOp.fieldAddr rfl fo_28_5 rfl) ?_
      refine AOps.step rfl rfl rfl (AOp.load rfl sc_3 rfl) ?_
      refine AOps.step rfl rfl rfl (AOp.gtr rfl rfl rfl) ?_
      refine AOps.nil ?_
      refine AWP.cond rfl (fun h6 => ?_) (fun h6 => ?_)
      · replace h6 := of_decide_eq_true h6
        have E3 : decide (c.gen > p.gens) = true := decide_eq_true h6
        refine AWP.region ?_
        refine AOps.step rfl rfl rfl (AOp.moveO rfl rfl) ?_
        refine AOps.step rfl rfl rfl (AOp.fieldAddr rfl fo_77_0 rfl) ?_
        refine AOps.step rfl rfl rfl (AOp.load rfl sc_9 rfl) ?_
        refine AOps.step rfl rfl rfl (AOp.fieldAddr rfl fo_77_1 rfl) ?_
        refine AOps.step rfl rfl rfl (AOp.load rfl sc_9 rfl) ?_
        refine AOps.step rfl rfl rfl (AOp.build rfl bu_39 (.cons rfl rfl (.cons rfl rfl (.cons rfl rfl .nil))) rfl) ?_
        refine AOps.step rfl rfl rfl (AOp.buildSlice rfl et_34 (.cons rfl rfl rfl .nil) rfl (by decide)) ?_
        -- append 56
        refine AOps.append rfl rfl rfl rfl et_34 rfl (.head _) rfl (by simp [D.parts]) (by simp) (by simp) ?_
        refine AOps.step rfl rfl rfl (AOp.assignO rfl rfl) ?_
        refine AOps.nil ?_
        refine AWP.seq ?_
        refine AWP.seq ?_
        refine AWP.region ?_
        refine AOps.step rfl rfl rfl (AOp.moveD rfl rfl) ?_
        refine AOps.step rfl rfl rfl (AOp.fieldAddr rfl fo_77_4 rfl) ?_
        refine AOps.step rfl rfl rfl (AOp.load rfl sc_3 rfl) ?_
        refine AOps.step rfl rfl rfl (AOp.fieldAddr rfl fo_28_3 rfl) ?_
        refine AOps.step rfl rfl rfl (AOp.load rfl sc_3 rfl) ?_
        refine AOps.step rfl rfl rfl (AOp.add64 rfl rfl rfl (by omega) (by omega)) ?_
        refine AOps.step rfl rfl rfl (AOp.gtr rfl rfl rfl) ?_
        refine AOps.nil ?_
        refine AWP.cond rfl (fun h7 => ?_) (fun h7 => ?_)
        · replace h7 := of_decide_eq_true h7
          have E4 : decide (day - c.last > p.every) = true := decide_eq_true (by omega)
          refine AWP.region ?_
          refine AOps.step rfl rfl rfl (AOp.moveO rfl rfl) ?_
          refine AOps.step rfl rfl rfl (AOp.fieldAddr rfl fo_77_0 rfl) ?_
          refine AOps.step rfl rfl rfl (AOp.load rfl sc_9 rfl) ?_
          refine AOps.step rfl rfl rfl (AOp.fieldAddr rfl fo_77_1 rfl) ?_
          refine AOps.step rfl rfl rfl (AOp.load rfl sc_9 rfl) ?_
          refine AOps.step rfl rfl rfl (AOp.build rfl bu_39 (.cons rfl rfl (.cons rfl rfl (.cons rfl rfl .nil))) rfl) ?_
          refine AOps.step rfl rfl rfl (AOp.buildSlice rfl et_34 (.cons rfl rfl rfl .nil) rfl (by decide)) ?_
          -- append 71
          refine AOps.append rfl rfl rfl rfl et_34 rfl (.head _) rfl (by simp [D.parts]) (by simp) (by simp) ?_
          refine AOps.step rfl rfl rfl (AOp.assignO rfl rfl) ?_
          refine AOps.nil ?_
          refine AWP.seq ?_
          refine AWP.region ?_
          refine AOps.step rfl rfl rfl (AOp.moveO rfl rfl) ?_
          refine AOps.step rfl rfl rfl (AOp.assignO rfl rfl) ?_
          refine AOps.nil ?_
          refine AWP.ret ?_
          unfold lackCpy
          rw [E1, E2, E3, E4]
          repeat (first | rw [addL_t rfl] | rw [addL_f rfl])
          refine ⟨RetD.own rfl (.head _) ?_, trivial⟩
          all_goals (first | rfl | (simp only [List.length_map]; rfl))
        · replace h7 := of_decide_eq_false h7
          have E4 : decide (day - c.last > p.every) = false := decide_eq_false (by omega)
          refine AWP.skip ?_
          refine AWP.seq ?_
          refine AWP.region ?_
          refine AOps.step rfl rfl rfl (AOp.moveO rfl rfl) ?_
          refine AOps.step rfl rfl rfl (AOp.assignO rfl rfl) ?_
          refine AOps.nil ?_
          refine AWP.ret ?_
          unfold lackCpy
          rw [E1, E2, E3, E4]
          repeat (first | rw [addL_t rfl] | rw [addL_f rfl])
          refine ⟨RetD.own rfl (.head _) ?_, trivial⟩
          all_goals (first | rfl | (simp only [List.length_map]; rfl))
      · replace h6 := of_decide_eq_false h6
        have E3 : decide (c.gen > p.gens) = false := decide_eq_false h6
        refine AWP.skip ?_
        refine AWP.seq ?_
        refine AWP.seq ?_
        refine AWP.region ?_
        refine AOps.step rfl rfl rfl (AOp.moveD rfl rfl) ?_
        refine AOps.step rfl rfl rfl (AOp.fieldAddr rfl fo_77_4 rfl) ?_
        refine AOps.step rfl rfl rfl (AOp.load rfl sc_3 rfl) ?_
        refine AOps.step rfl rfl rfl (AOp.fieldAddr rfl fo_28_3 rfl) ?_
        refine AOps.step rfl rfl rfl (AOp.load rfl sc_3 rfl) ?_
        refine AOps.step rfl rfl rfl (AOp.add64 rfl rfl rfl (by omega) (by omega)) ?_
        refine AOps.step rfl rfl rfl (AOp.gtr rfl rfl rfl) ?_
        refine AOps.nil ?_
        refine AWP.cond rfl (fun h8 => ?_) (fun h8 => ?_)
        · replace h8 := of_decide_eq_true h8
          have E4 : decide (day - c.last > p.every) = true := decide_eq_true (by omega)
          refine AWP.region ?_
          refine AOps.step rfl rfl rfl (AOp.moveO rfl rfl) ?_
          refine AOps.step rfl rfl rfl (AOp.fieldAddr rfl fo_77_0 rfl) ?_
          refine AOps.step rfl rfl rfl (AOp.load rfl sc_9 rfl) ?_
          refine AOps.step rfl rfl rfl (AOp.fieldAddr rfl fo_77_1 rfl) ?_
          refine AOps.step rfl rfl rfl (AOp.load rfl sc_9 rfl) ?_
          refine AOps.step rfl rfl rfl (AOp.build rfl bu_39 (.cons rfl rfl (.cons rfl rfl (.cons rfl rfl .nil))) rfl) ?_
          refine AOps.step rfl rfl rfl (AOp.buildSlice rfl et_34 (.cons rfl rfl rfl .nil) rfl (by decide)) ?_
          -- append 71
          refine AOps.append rfl rfl rfl rfl et_34 rfl (.head _) rfl (by simp [D.parts]) (by simp) (by simp) ?_
          refine AOps.step rfl rfl rfl (AOp.assignO rfl rfl) ?_
          refine AOps.nil ?_
          refine AWP.seq ?_
          refine AWP.region ?_
          refine AOps.step rfl rfl rfl (AOp.moveO rfl rfl) ?_
          refine AOps.step rfl rfl rfl (AOp.assignO rfl rfl) ?_
          refine AOps.nil ?_
          refine AWP.ret ?_
          unfold lackCpy
          rw [E1, E2, E3, E4]
          repeat (first | rw [addL_t rfl] | rw [addL_f rfl])
          refine ⟨RetD.own rfl (.head _) ?_, trivial⟩
          all_goals (first | rfl | (simp only [List.length_map]; rfl))
        · replace h8 := of_decide_eq_false h8
          have E4 : decide (day - c.last > p.every) = false := decide_eq_false (by omega)
          refine AWP.skip ?_
          refine AWP.seq ?_
          refine AWP.region ?_
          refine AOps.step rfl rfl rfl (AOp.moveO rfl rfl) ?_
          refine AOps.step rfl rfl rfl (AOp.assignO rfl rfl) ?_
          refine AOps.nil ?_
          refine AWP.ret ?_
          unfold lackCpy
          rw [E1, E2, E3, E4]
          repeat (first | rw [addL_t rfl] | rw [addL_f rfl])
          refine ⟨RetD.own rfl (.head _) ?_, trivial⟩
          all_goals (first | rfl | (simp only [List.length_map]; rfl))
  · replace h1 := of_decide_eq_false h1
    rw [List.length_map] at h1
    have E1 : decide ((c.bad.length : Int) > 0) = false := decide_eq_false h1
    refine AWP.skip ?_
    refine AWP.seq ?_
    refine AWP.seq ?_
    refine AWP.draw (by kernel_rfl) (by kernel_rfl) ?_
    refine DRun.step rfl rfl rfl (AOp.fieldAddr rfl fo_26_1 rfl) ?_
    refine DRun.step rfl rfl rfl (AOp.load rfl sc_23 rfl) ?_
    refine DRun.step rfl rfl rfl (AOp.loadAgg rfl ag_26 rfl rfl) ?_
    refine DRun.step rfl rfl rfl (AOp.fieldAddr rfl fo_77_1 rfl) ?_
    refine DRun.step rfl rfl rfl (AOp.load rfl sc_9 rfl) ?_
    refine DRun.step rfl rfl rfl (AOp.call rfl (.cons (ArgOk.rfl' rfl) (.cons (ArgOk.rfl' rfl) .nil)) (c_carrierOf _ _)) ?_
    refine DRun.step rfl rfl rfl (AOp.indexAddr rfl et_23 rfl rfl ci eci (at_list hci) rfl) ?_
    refine DRun.step rfl rfl rfl (AOp.loadAgg rfl ag_73 rfl rfl) ?_
    refine DRun.step rfl rfl rfl (AOp.loadAgg rfl ag_28 rfl rfl) ?_
    refine DRun.step rfl rfl rfl (AOp.moveD rfl rfl) ?_
    refine DRun.step rfl rfl rfl (AOp.call rfl (.cons (ArgOk.rfl' rfl) (.cons (ArgOk.rfl' rfl) (.cons (ArgOk.rfl' rfl) .nil))) (c_rOld v.carrs[ci] p day hcb.2.1 po.old)) ?_
    refine DRun.nil ?_
    refine AWP.cond rfl (fun h9 => ?_) (fun h9 => ?_)
    · skip
      have E2 : oldB p day (carrAt v c.carrier) = true := by rw [hCA]; exact h9
      refine AWP.region ?_
      refine AOps.step rfl rfl rfl (AOp.moveD rfl rfl) ?_
      refine AOps.step rfl rfl rfl (AOp.fieldAddr rfl fo_77_0 rfl) ?_
      refine AOps.step rfl rfl rfl (AOp.load rfl sc_9 rfl) ?_
      refine AOps.step rfl rfl rfl (AOp.fieldAddr rfl fo_77_1 rfl) ?_
      refine AOps.step rfl rfl rfl (AOp.load rfl sc_9 rfl) ?_
      refine AOps.step rfl rfl rfl (AOp.build rfl bu_39 (.cons rfl rfl (.cons rfl rfl (.cons rfl rfl .nil))) rfl) ?_
      refine AOps.step rfl rfl rfl (AOp.buildSlice rfl et_34 (.cons rfl rfl rfl .nil) rfl (by decide)) ?_
      refine AOps.adopt 36 52 39 4 rfl rfl ?_
      -- append 43
      refine AOps.append rfl rfl rfl rfl et_34 rfl (.head _) rfl (by simp [D.parts]) (by simp) (by simp) ?_
      refine AOps.step rfl rfl rfl (AOp.assignO rfl rfl) ?_
      refine AOps.nil ?_
      refine AWP.seq ?_
      refine AWP.seq ?_
      refine AWP.region ?_
      refine AOps.step rfl rfl rfl (AOp.fieldAddr rfl fo_77_5 rfl) ?_
      refine AOps.step rfl rfl rfl (AOp.load rfl sc_3 rfl) ?_
      refine AOps.step rfl rfl rfl (AOp.fieldAddr rfl fo_28_5 rfl) ?_
      refine AOps.step rfl rfl rfl (AOp.load rfl sc_3 rfl) ?_
      refine AOps.step rfl rfl rfl (AOp.gtr rfl rfl rfl) ?_
      refine AOps.nil ?_
      refine AWP.cond rfl (fun h10 => ?_) (fun h10 => ?_)
      · replace h10 := of_decide_eq_true h10
        have E3 : decide (c.gen > p.gens) = true := decide_eq_true h10
        refine AWP.region ?_
        refine AOps.step rfl rfl rfl (AOp.moveO rfl rfl) ?_
        refine AOps.step rfl rfl rfl (AOp.fieldAddr rfl fo_77_0 rfl) ?_
        refine AOps.step rfl rfl rfl (AOp.load rfl sc_9 rfl) ?_
        refine AOps.step rfl rfl rfl (AOp.fieldAddr rfl fo_77_1 rfl) ?_
        refine AOps.step rfl rfl rfl (AOp.load rfl sc_9 rfl) ?_
        refine AOps.step rfl rfl rfl (AOp.build rfl bu_39 (.cons rfl rfl (.cons rfl rfl (.cons rfl rfl .nil))) rfl) ?_
        refine AOps.step rfl rfl rfl (AOp.buildSlice rfl et_34 (.cons rfl rfl rfl .nil) rfl (by decide)) ?_
        -- append 56
        refine AOps.append rfl rfl rfl rfl et_34 rfl (.head _) rfl (by simp [D.parts]) (by simp) (by simp) ?_
        refine AOps.step rfl rfl rfl (AOp.assignO rfl rfl) ?_
        refine AOps.nil ?_
        refine AWP.seq ?_
        refine AWP.seq ?_
        refine AWP.region ?_
        refine AOps.step rfl rfl rfl (AOp.moveD rfl rfl) ?_
        refine AOps.step rfl rfl rfl (AOp.fieldAddr rfl fo_77_4 rfl) ?_
        refine AOps.step rfl rfl rfl (AOp.load rfl sc_3 rfl) ?_
        refine AOps.step rfl rfl rfl (AOp.fieldAddr rfl fo_28_3 rfl) ?_
        refine AOps.step rfl rfl rfl (AOp.load rfl sc_3 rfl) ?_
        refine AOps.step rfl rfl rfl (AOp.add64 rfl rfl rfl (by omega) (by omega)) ?_
        refine AOps.step rfl rfl rfl (AOp.gtr rfl rfl rfl) ?_
        refine AOps.nil ?_
        refine AWP.cond rfl (fun h11 => ?_) (fun h11 => ?_)
        · replace h11 := of_decide_eq_true h11
          have E4 : decide (day - c.last > p.every) = true := decide_eq_true (by omega)
          refine AWP.region ?_
          refine AOps.step rfl rfl rfl (AOp.moveO rfl rfl) ?_
          refine AOps.step rfl rfl rfl (AOp.fieldAddr rfl fo_77_0 rfl) ?_
          refine AOps.step rfl rfl rfl (AOp.load rfl sc_9 rfl) ?_
          refine AOps.step rfl rfl rfl (AOp.fieldAddr rfl fo_77_1 rfl) ?_
          refine AOps.step rfl rfl rfl (AOp.load rfl sc_9 rfl) ?_
          refine AOps.step rfl rfl rfl (AOp.build rfl bu_39 (.cons rfl rfl (.cons rfl rfl (.cons rfl rfl .nil))) rfl) ?_
          refine AOps.step rfl rfl rfl (AOp.buildSlice rfl et_34 (.cons rfl rfl rfl .nil) rfl (by decide)) ?_
          -- append 71
          refine AOps.append rfl rfl rfl rfl et_34 rfl (.head _) rfl (by simp [D.parts]) (by simp) (by simp) ?_
          refine AOps.step rfl rfl rfl (AOp.assignO rfl rfl) ?_
          refine AOps.nil ?_
          refine AWP.seq ?_
          refine AWP.region ?_
          refine AOps.step rfl rfl rfl (AOp.moveO rfl rfl) ?_
          refine AOps.step rfl rfl rfl (AOp.assignO rfl rfl) ?_
          refine AOps.nil ?_
          refine AWP.ret ?_
          unfold lackCpy
          rw [E1, E2, E3, E4]
          repeat (first | rw [addL_t rfl] | rw [addL_f rfl])
          refine ⟨RetD.own rfl (.head _) ?_, trivial⟩
          all_goals (first | rfl | (simp only [List.length_map]; rfl))
        · replace h11 := of_decide_eq_false h11
          have E4 : decide (day - c.last > p.every) = false := decide_eq_false (by omega)
          refine AWP.skip ?_
          refine AWP.seq ?_
          refine AWP.region ?_
          refine AOps.step rfl rfl rfl (AOp.moveO rfl rfl) ?_
          refine AOps.step rfl rfl rfl (AOp.assignO rfl rfl) ?_
          refine AOps.nil ?_
          refine AWP.ret ?_
          unfold lackCpy
          rw [E1, E2, E3, E4]
          repeat (first | rw [addL_t rfl] | rw [addL_f rfl])
          refine ⟨RetD.own rfl (.head _) ?_, trivial⟩
          all_goals (first | rfl | (simp only [List.length_map]; rfl))
      · replace h10 := of_decide_eq_false h10
        have E3 : decide (c.gen > p.gens) = false := decide_eq_false h10
        refine AWP.skip ?_
        refine AWP.seq ?_
        refine AWP.seq ?_
        refine AWP.region ?_
        refine AOps.step rfl rfl rfl (AOp.moveD rfl rfl) ?_
        refine AOps.step rfl rfl rfl (AOp.fieldAddr rfl fo_77_4 rfl) ?_
        refine AOps.step rfl rfl rfl (AOp.load rfl sc_3 rfl) ?_
        refine AOps.step rfl rfl rfl (AOp.fieldAddr rfl fo_28_3 rfl) ?_
        refine AOps.step rfl rfl rfl (AOp.load rfl sc_3 rfl) ?_
        refine AOps.step rfl rfl rfl (AOp.add64 rfl rfl rfl (by omega) (by omega)) ?_
        refine AOps.step rfl rfl rfl (AOp.gtr rfl rfl rfl) ?_
        refine AOps.nil ?_
        refine AWP.cond rfl (fun h12 => ?_) (fun h12 => ?_)
        · replace h12 := of_decide_eq_true h12
          have E4 : decide (day - c.last > p.every) = true := decide_eq_true (by omega)
          refine AWP.region ?_
          refine AOps.step rfl rfl rfl (AOp.moveO rfl rfl) ?_
          refine AOps.step rfl rfl rfl (AOp.fieldAddr rfl fo_77_0 rfl) ?_
          refine AOps.step rfl rfl rfl (AOp.load rfl sc_9 rfl) ?_
          refine AOps.step rfl rfl rfl (AOp.fieldAddr rfl fo_77_1 rfl) ?_
          refine AOps.step rfl rfl rfl (AOp.load rfl sc_9 rfl) ?_
          refine AOps.step rfl rfl rfl (AOp.build rfl bu_39 (.cons rfl rfl (.cons rfl rfl (.cons rfl rfl .nil))) rfl) ?_
          refine AOps.step rfl rfl rfl (AOp.buildSlice rfl et_34 (.cons rfl rfl rfl .nil) rfl (by decide)) ?_
          -- append 71
          refine AOps.append rfl rfl rfl rfl et_34 rfl (.head _) rfl (by simp [D.parts]) (by simp) (by simp) ?_
          refine AOps.step rfl rfl rfl (AOp.assignO rfl rfl) ?_
          refine AOps.nil ?_
          refine AWP.seq ?_
          refine AWP.region ?_
          refine AOps.step rfl rfl rfl (AOp.moveO rfl rfl) ?_
          refine AOps.step rfl rfl rfl (AOp.assignO rfl rfl) ?_
          refine AOps.nil ?_
          refine AWP.ret ?_
          unfold lackCpy
          rw [E1, E2, E3, E4]
          repeat (first | rw [addL_t rfl] | rw [addL_f rfl])
          refine ⟨RetD.own rfl (.head _) ?_, trivial⟩
          all_goals (first | rfl | (simp only [List.length_map]; rfl))
        · replace h12 := of_decide_eq_false h12
          have E4 : decide (day - c.last > p.every) = false := decide_eq_false (by omega)
          refine AWP.skip ?_
          refine AWP.seq ?_
          refine AWP.region ?_
          refine AOps.step rfl rfl rfl (AOp.moveO rfl rfl) ?_
          refine AOps.step rfl rfl rfl (AOp.assignO rfl rfl) ?_
          refine AOps.nil ?_
          refine AWP.ret ?_
          unfold lackCpy
          rw [E1, E2, E3, E4]
          repeat (first | rw [addL_t rfl] | rw [addL_f rfl])
          refine ⟨RetD.own rfl (.head _) ?_, trivial⟩
          all_goals (first | rfl | (simp only [List.length_map]; rfl))
    · skip
      have E2 : oldB p day (carrAt v c.carrier) = false := by rw [hCA]; exact h9
      refine AWP.skip ?_
      refine AWP.seq ?_
      refine AWP.seq ?_
      refine AWP.region ?_
      refine AOps.step rfl rfl rfl (AOp.fieldAddr rfl fo_77_5 rfl) ?_
      refine AOps.step rfl rfl rfl (AOp.load rfl sc_3 rfl) ?_
      refine AOps.step rfl rfl rfl (AOp.fieldAddr rfl fo_28_5 rfl) ?_
      refine AOps.step rfl rfl rfl (AOp.load rfl sc_3 rfl) ?_
      refine AOps.step rfl rfl rfl (AOp.gtr rfl rfl rfl) ?_
      refine AOps.nil ?_
      refine AWP.cond rfl (fun h13 => ?_) (fun h13 => ?_)
      · replace h13 := of_decide_eq_true h13
        have E3 : decide (c.gen > p.gens) = true := decide_eq_true h13
        refine AWP.region ?_
        refine AOps.step rfl rfl rfl (AOp.moveD rfl rfl) ?_
        refine AOps.step rfl rfl rfl (AOp.fieldAddr rfl fo_77_0 rfl) ?_
        refine AOps.step rfl rfl rfl (AOp.load rfl sc_9 rfl) ?_
        refine AOps.step rfl rfl rfl (AOp.fieldAddr rfl fo_77_1 rfl) ?_
        refine AOps.step rfl rfl rfl (AOp.load rfl sc_9 rfl) ?_
        refine AOps.step rfl rfl rfl (AOp.build rfl bu_39 (.cons rfl rfl (.cons rfl rfl (.cons rfl rfl .nil))) rfl) ?_
        refine AOps.step rfl rfl rfl (AOp.buildSlice rfl et_34 (.cons rfl rfl rfl .nil) rfl (by decide)) ?_
        refine AOps.adopt 49 53 39 4 rfl rfl ?_
        -- append 56
        refine AOps.append rfl rfl rfl rfl et_34 rfl (.head _) rfl (by simp [D.parts]) (by simp) (by simp) ?_
        refine AOps.step rfl rfl rfl (AOp.assignO rfl rfl) ?_
        refine AOps.nil ?_
        refine AWP.seq ?_
        refine AWP.seq ?_
        refine AWP.region ?_
        refine AOps.step rfl rfl rfl (AOp.moveD rfl rfl) ?_
        refine AOps.step rfl rfl rfl (AOp.fieldAddr rfl fo_77_4 rfl) ?_
        refine AOps.step rfl rfl rfl (AOp.load rfl sc_3 rfl) ?_
        refine AOps.step rfl rfl rfl (AOp.fieldAddr rfl fo_28_3 rfl) ?_
        refine AOps.step rfl rfl rfl (AOp.load rfl sc_3 rfl) ?_
        refine AOps.step rfl rfl rfl (AOp.add64 rfl rfl rfl (by omega) (by omega)) ?_
        refine AOps.step rfl rfl rfl (AOp.gtr rfl rfl rfl) ?_
        refine AOps.nil ?_
        refine AWP.cond rfl (fun h14 => ?_) (fun h14 => ?_)
        · replace h14 := of_decide_eq_true h14
          have E4 : decide (day - c.last > p.every) = true := decide_eq_true (by omega)
          refine AWP.region ?_
          refine AOps.step rfl rfl rfl (AOp.moveO rfl rfl) ?_
          refine AOps.step rfl rfl rfl (AOp.fieldAddr rfl fo_77_0 rfl) ?_
          refine AOps.step rfl rfl rfl (AOp.load rfl sc_9 rfl) ?_
          refine AOps.step rfl rfl rfl (AOp.fieldAddr rfl fo_77_1 rfl) ?_
          refine AOps.step rfl rfl rfl (AOp.load rfl sc_9 rfl) ?_
          refine AOps.step rfl rfl rfl (AOp.build rfl bu_39 (.cons rfl rfl (.cons rfl rfl (.cons rfl rfl .nil))) rfl) ?_
          refine AOps.step rfl rfl rfl (AOp.buildSlice rfl et_34 (.cons rfl rfl rfl .nil) rfl (by decide)) ?_
          -- append 71
          refine AOps.append rfl rfl rfl rfl et_34 rfl (.head _) rfl (by simp [D.parts]) (by simp) (by simp) ?_
          refine AOps.step rfl rfl rfl (AOp.assignO rfl rfl) ?_
          refine AOps.nil ?_
          refine AWP.seq ?_
          refine AWP.region ?_
          refine AOps.step rfl rfl rfl (AOp.moveO rfl rfl) ?_
          refine AOps.step rfl rfl rfl (AOp.assignO rfl rfl) ?_
          refine AOps.nil ?_
          refine AWP.ret ?_
          unfold lackCpy
          rw [E1, E2, E3, E4]
          repeat (first | rw [addL_t rfl] | rw [addL_f rfl])
          refine ⟨RetD.own rfl (.head _) ?_, trivial⟩
          all_goals (first | rfl | (simp only [List.length_map]; rfl))
        · replace h14 := of_decide_eq_false h14
          have E4 : decide (day - c.last > p.every) = false := decide_eq_false (by omega)
          refine AWP.skip ?_
          refine AWP.seq ?_
          refine AWP.region ?_
          refine AOps.step rfl rfl rfl (AOp.moveO rfl rfl) ?_
          refine AOps.step rfl rfl rfl (AOp.assignO rfl rfl) ?_
          refine AOps.nil ?_
          refine AWP.ret ?_
          unfold lackCpy
          rw [E1, E2, E3, E4]
          repeat (first | rw [addL_t rfl] | rw [addL_f rfl])
          refine ⟨RetD.own rfl (.head _) ?_, trivial⟩
          all_goals (first | rfl | (simp only [List.length_map]; rfl))
      · replace h13 := of_decide_eq_false h13
        have E3 : decide (c.gen > p.gens) = false := decide_eq_false h13
        refine AWP.skip ?_
        refine AWP.seq ?_
        refine AWP.seq ?_
        refine AWP.region ?_
        refine AOps.step rfl rfl rfl (AOp.moveD rfl rfl) ?_
        refine AOps.step rfl rfl rfl (AOp.fieldAddr rfl fo_77_4 rfl) ?_
        refine AOps.step rfl rfl rfl (AOp.load rfl sc_3 rfl) ?_
        refine AOps.step rfl rfl rfl (AOp.fieldAddr rfl fo_28_3 rfl) ?_
        refine AOps.step rfl rfl rfl (AOp.load rfl sc_3 rfl) ?_
        refine AOps.step rfl rfl rfl (AOp.add64 rfl rfl rfl (by omega) (by omega)) ?_
        refine AOps.step rfl rfl rfl (AOp.gtr rfl rfl rfl) ?_
        refine AOps.nil ?_
        refine AWP.cond rfl (fun h15 => ?_) (fun h15 => ?_)
        · replace h15 := of_decide_eq_true h15
          have E4 : decide (day - c.last > p.every) = true := decide_eq_true (by omega)
          refine AWP.region ?_
          refine AOps.step rfl rfl rfl (AOp.moveD rfl rfl) ?_
          refine AOps.step rfl rfl rfl (AOp.fieldAddr rfl fo_77_0 rfl) ?_
          refine AOps.step rfl rfl rfl (AOp.load rfl sc_9 rfl) ?_
          refine AOps.step rfl rfl rfl (AOp.fieldAddr rfl fo_77_1 rfl) ?_
          refine AOps.step rfl rfl rfl (AOp.load rfl sc_9 rfl) ?_
          refine AOps.step rfl rfl rfl (AOp.build rfl bu_39 (.cons rfl rfl (.cons rfl rfl (.cons rfl rfl .nil))) rfl) ?_
          refine AOps.step rfl rfl rfl (AOp.buildSlice rfl et_34 (.cons rfl rfl rfl .nil) rfl (by decide)) ?_
          refine AOps.adopt 64 54 39 4 rfl rfl ?_
          -- append 71
          refine AOps.append rfl rfl rfl rfl et_34 rfl (.head _) rfl (by simp [D.parts]) (by simp) (by simp) ?_
          refine AOps.step rfl rfl rfl (AOp.assignO rfl rfl) ?_
          refine AOps.nil ?_
          refine AWP.seq ?_
          refine AWP.region ?_
          refine AOps.step rfl rfl rfl (AOp.moveO rfl rfl) ?_
          refine AOps.step rfl rfl rfl (AOp.assignO rfl rfl) ?_
          refine AOps.nil ?_
          refine AWP.ret ?_
          unfold lackCpy
          rw [E1, E2, E3, E4]
          repeat (first | rw [addL_t rfl] | rw [addL_f rfl])
          refine ⟨RetD.own rfl (.head _) ?_, trivial⟩
          all_goals (first | rfl | (simp only [List.length_map]; rfl))
        · replace h15 := of_decide_eq_false h15
          have E4 : decide (day - c.last > p.every) = false := decide_eq_false (by omega)
          refine AWP.skip ?_
          refine AWP.seq ?_
          refine AWP.region ?_
          refine AOps.step rfl rfl rfl (AOp.moveD rfl rfl) ?_
          refine AOps.step rfl rfl rfl (AOp.assignD rfl rfl) ?_
          refine AOps.nil ?_
          refine AWP.ret ?_
          unfold lackCpy
          rw [E1, E2, E3, E4]
          repeat (first | rw [addL_t rfl] | rw [addL_f rfl])
          refine ⟨RetD.nil rfl, trivial⟩

end Go.Proofs.YtieccphckobhjaaDoor


namespace Go.Proofs.YtieccphckobhjaaDoor
open Go.RowKit
set_option linter.unusedVariables false

/-! Types. -/
namespace TyL5
theorem ag_26 : AggT Tryd.prog 26 3 := .of (by kernel_rfl)
theorem ag_28 : AggT Tryd.prog 28 6 := .of (by kernel_rfl)
theorem ag_69 : AggT Tryd.prog 69 2 := .of (by kernel_rfl)
theorem ag_77 : AggT Tryd.prog 77 7 := .of (by kernel_rfl)
theorem bu_39 : StructT Tryd.prog 39 (fun i => (#[(0, 1), (1, 1), (2, 1), (3, 1)] : Array (Nat × Nat))[i]?) [(.string ⟨#[]⟩), (.string ⟨#[]⟩), (.int .i64 0), (.int .i64 0)] := .of (by kernel_rfl) (by kernel_rfl) (by decide)
theorem et_22 : ElemTy Tryd.prog 22 69 2 24 (.agg #[(.string ⟨#[]⟩), (.int .i64 0)]) := ⟨by kernel_rfl, by kernel_rfl, by kernel_rfl, by decide⟩
theorem et_24 : ElemTy Tryd.prog 24 77 7 96 (.agg #[(.string ⟨#[]⟩), (.string ⟨#[]⟩), (.string ⟨#[]⟩), (.int .i64 0), (.int .i64 0), (.int .i64 0), (.slice none 0 0)]) := ⟨by kernel_rfl, by kernel_rfl, by kernel_rfl, by decide⟩
theorem et_34 : ElemTy Tryd.prog 34 39 4 48 (.agg #[(.string ⟨#[]⟩), (.string ⟨#[]⟩), (.int .i64 0), (.int .i64 0)]) := ⟨by kernel_rfl, by kernel_rfl, by kernel_rfl, by decide⟩
theorem et_75 : ElemTy Tryd.prog 75 3 1 8 (.int .i64 0) := ⟨by kernel_rfl, by kernel_rfl, by kernel_rfl, by decide⟩
theorem fo_26_0 : fieldOff Tryd.prog 26 0 = some 0 := by kernel_rfl
theorem fo_26_2 : fieldOff Tryd.prog 26 2 = some 2 := by kernel_rfl
theorem fo_28_3 : fieldOff Tryd.prog 28 3 = some 3 := by kernel_rfl
theorem fo_28_5 : fieldOff Tryd.prog 28 5 = some 5 := by kernel_rfl
theorem fo_69_0 : fieldOff Tryd.prog 69 0 = some 0 := by kernel_rfl
theorem fo_77_0 : fieldOff Tryd.prog 77 0 = some 0 := by kernel_rfl
theorem fo_77_1 : fieldOff Tryd.prog 77 1 = some 1 := by kernel_rfl
theorem fo_77_4 : fieldOff Tryd.prog 77 4 = some 4 := by kernel_rfl
theorem fo_77_5 : fieldOff Tryd.prog 77 5 = some 5 := by kernel_rfl
theorem fo_77_6 : fieldOff Tryd.prog 77 6 = some 6 := by kernel_rfl
theorem sc_22 : Scal Tryd.prog 22 := .of (by kernel_rfl)
theorem sc_24 : Scal Tryd.prog 24 := .of (by kernel_rfl)
theorem sc_3 : Scal Tryd.prog 3 := .of (by kernel_rfl)
theorem sc_34 : Scal Tryd.prog 34 := .of (by kernel_rfl)
theorem sc_75 : Scal Tryd.prog 75 := .of (by kernel_rfl)
theorem sc_9 : Scal Tryd.prog 9 := .of (by kernel_rfl)
theorem sz_34 : ∀ w, (sizeOf 34).run Tryd.prog w = .ok 1 w := SizeT.of (by kernel_rfl)
theorem sz_69 : ∀ w, (sizeOf 69).run Tryd.prog w = .ok 2 w := SizeT.of (by kernel_rfl)
theorem sz_77 : ∀ w, (sizeOf 77).run Tryd.prog w = .ok 7 w := SizeT.of (by kernel_rfl)
theorem zt_34 : (Tryd.prog.info? 34).bind (·.zero) = some (.slice none 0 0) := by kernel_rfl
theorem zt_69 : (Tryd.prog.info? 69).bind (·.zero) = some (.agg #[(.string ⟨#[]⟩), (.int .i64 0)]) := by kernel_rfl
theorem zt_77 : (Tryd.prog.info? 77).bind (·.zero) = some (.agg #[(.string ⟨#[]⟩), (.string ⟨#[]⟩), (.string ⟨#[]⟩), (.int .i64 0), (.int .i64 0), (.int .i64 0), (.slice none 0 0)]) := by kernel_rfl
end TyL5
open TyL5


theorem lack_app2 {v : Vlt} {p : Pol} {day : Int} {c : Cpy} {E : List Lck} {nm : ByteArray} (h : c.item = nm) : addL (addL (addL (addL E (decide (((c.bad.map intD).length : Int) > 0)) ⟨nm, c.carrier, 4, ((c.bad.map intD).length : Int)⟩) (oldB p day (carrAt v c.carrier)) ⟨nm, c.carrier, 5, 0⟩) (decide (c.gen > p.gens)) ⟨nm, c.carrier, 6, 0⟩) (decide (day - c.last > p.every)) ⟨nm, c.carrier, 7, 0⟩ = E ++ lackCpy v p day c := by
  subst h; rw [List.length_map]; exact lack_app v p day c E


set_option maxRecDepth 100000 in
set_option maxHeartbeats 1000000 in
theorem c_pLacks (v : Vlt) (p : Pol) (day : Int) (hs : smallV v) : ACall Tryd.prog 14 [.agg v.ds, .agg p.ds, .v (.int .i64 day)] (.tup [.sl ((lacksR v p day).map Lck.ds), .v (.int .i64 (dayFault v p day))]) := by
  refine acall_of (n := 116) (ds' := [.sl ((lacksR v p day).map Lck.ds), .v (.int .i64 (dayFault v p day))]) Tryd.func14 rfl (by kernel_rfl) rfl [6, 7] rfl rfl ?_
  intro B w0 F0 fr
  refine AWP.seq ?_
  refine AWP.region ?_
  refine AOps.step rfl rfl rfl (AOp.box rfl rfl rfl) ?_
  refine AOps.step rfl rfl rfl (AOp.box rfl rfl rfl) ?_
  refine AOps.step rfl rfl rfl (AOp.assignD rfl rfl) ?_
  refine AOps.step rfl rfl rfl (AOp.assignD rfl rfl) ?_
  refine AOps.nil ?_
  refine AWP.seq ?_
  refine AWP.seq ?_
  refine AWP.region ?_
  refine AOps.step rfl rfl rfl (AOp.loadAgg rfl ag_26 rfl rfl) ?_
  refine AOps.step rfl rfl rfl (AOp.loadAgg rfl ag_28 rfl rfl) ?_
  refine AOps.step rfl rfl rfl (AOp.moveD rfl rfl) ?_
  refine AOps.step rfl rfl rfl (AOp.call rfl (.cons (ArgOk.rfl' rfl) (.cons (ArgOk.rfl' rfl) (.cons (ArgOk.rfl' rfl) .nil))) (c_pDayF v p day hs)) ?_
  refine AOps.step rfl rfl rfl (AOp.assignD rfl rfl) ?_
  refine AOps.nil ?_
  refine AWP.seq ?_
  refine AWP.region ?_
  refine AOps.step rfl rfl rfl (AOp.moveD rfl rfl) ?_
  refine AOps.step rfl rfl rfl (AOp.neq rfl rfl rfl) ?_
  refine AOps.nil ?_
  refine AWP.cond rfl (fun h1 => ?_) (fun h1 => ?_)
  · replace h1 := of_decide_eq_true h1
    have HF : lacksR v p day = [] := lacksR_bad h1
    rw [HF]
    refine AWP.seq ?_
    refine AWP.region ?_
    refine AOps.step rfl rfl rfl (AOp.moveD rfl rfl) ?_
    refine AOps.step rfl rfl rfl (AOp.assignD rfl rfl) ?_
    refine AOps.step rfl rfl rfl (AOp.assignD rfl rfl) ?_
    refine AOps.nil ?_
    refine AWP.ret ?_
    refine ⟨RetD.nil rfl, RetD.eq rfl ?_, trivial⟩
    all_goals (rfl)
  · replace h1 := of_decide_eq_false h1
    have hd0 := Decidable.not_not.1 h1
    obtain ⟨hb0, hd⟩ := day_ok hd0
    obtain ⟨vo, po⟩ := both_ok hb0
    have hnp := vo.np
    have hni := vo.ni
    rw [hd0, lacksR_ok hd0]
    refine AWP.skip ?_
    refine AWP.seq ?_
    refine AWP.region ?_
    refine AOps.alloc 101 rfl rfl rfl rfl zt_34 rfl rfl rfl ?_
    refine AOps.adoptCell 1 39 4 101 0 (.head _) rfl rfl ?_
    refine AOps.nil ?_
    refine AWP.seq ?_
    refine AWP.seq ?_
    refine AWP.region ?_
    refine AOps.step rfl rfl rfl (AOp.fieldAddr rfl fo_26_0 rfl) ?_
    refine AOps.step rfl rfl rfl (AOp.load rfl sc_22 rfl) ?_
    refine AOps.step rfl rfl rfl (AOp.lenSl rfl et_22.ht rfl) ?_
    refine AOps.step rfl rfl rfl (AOp.moveD rfl rfl) ?_
    refine AOps.nil ?_
    refine AWP.block ?_
    refine AWP.loop (G := Nat) (fun i => Env.of [(30, .d (.v (.int .i64 (i : Int)))), (28, .d (.sl (v.items.map Item.ds))), (29, .d (.v (.int .i64 ((v.items.map Item.ds).length : Int)))), (9, .ptr 101 0), (3, .d (.fp v.ds)), (4, .d (.fp p.ds)), (2, .d (.v (.int .i64 day)))]) (fun i => [(1, .row 39 4 ((itemsTo v p day i).map Lck.ds)), (101, .cells [.own 1])]) (fun i => i ≤ v.items.length) (fun i => v.items.length - i) 0 (Nat.zero_le _) (Sub.less ⟨(SLe.of_eq rfl), SLe.refl _, SLe.refl _, SLe.refl _, SLe.refl _, SLe.refl _, SLe.refl _, trivial⟩ (row_cell2 rfl)) ?_
    intro i hi
    refine AWP.seq ?_
    refine AWP.region ?_
    refine AOps.step rfl rfl rfl (AOp.lss rfl rfl rfl) ?_
    refine AOps.nil ?_
    refine AWP.seq ?_
    refine AWP.cond rfl (fun h2 => ?_) (fun h2 => ?_)
    · replace h2 := of_decide_eq_true h2
      rw [List.length_map] at h2
      have hlt : i < v.items.length := by omega
      have hIn := itemsTo_next (p := p) (day := day) hlt
      have hIl := itemsTo_len hnp hni p day i
      have hgl : (goodOnes v v.items[i].name p day).length ≤ 200 := by have := goodTo_len v v.items[i].name p day (copiesOf v v.items[i].name).length; rw [goodTo_all] at this; omega
      refine AWP.skip ?_
      refine AWP.seq ?_
      refine AWP.block ?_
      refine AWP.seq ?_
      refine AWP.region ?_
      refine AOps.step rfl rfl rfl (AOp.indexAddr rfl et_22 rfl rfl i rfl (at_list hlt) rfl) ?_
      refine AOps.step rfl rfl rfl (AOp.loadAgg rfl ag_69 rfl rfl) ?_
      refine AOps.alloc 102 rfl rfl rfl rfl zt_69 rfl rfl rfl ?_
      refine AOps.store rfl rfl rfl sz_69 rfl (.head _) rfl rfl rfl (Nat.le_of_ble_eq_true rfl) ?_
      refine AOps.freezeCells 11 (ds := v.items[i].ds) rfl (.head _) ?_
      refine AOps.nil ?_
      refine AWP.seq ?_
      refine AWP.draw (by kernel_rfl) (by kernel_rfl) ?_
      refine DRun.step rfl rfl rfl (AOp.loadAgg rfl ag_26 rfl rfl) ?_
      refine DRun.step rfl rfl rfl (AOp.fieldAddr rfl fo_69_0 rfl) ?_
      refine DRun.step rfl rfl rfl (AOp.load rfl sc_9 rfl) ?_
      refine DRun.step rfl rfl rfl (AOp.loadAgg rfl ag_28 rfl rfl) ?_
      refine DRun.step rfl rfl rfl (AOp.moveD rfl rfl) ?_
      refine DRun.step rfl rfl rfl (AOp.call rfl (.cons (ArgOk.rfl' rfl) (.cons (ArgOk.rfl' rfl) (.cons (ArgOk.rfl' rfl) (.cons (ArgOk.rfl' rfl) .nil)))) (c_goodOnes v _ p day vo po hd)) ?_
      refine DRun.step rfl rfl rfl (AOp.call rfl (.cons (ArgOk.rfl' rfl) .nil) (c_spreadOf (goodOnes v v.items[i].name p day) hgl)) ?_
      refine DRun.step rfl rfl rfl (AOp.loadAgg rfl ag_28 rfl rfl) ?_
      refine DRun.step rfl rfl rfl (AOp.call rfl (.cons (ArgOk.rfl' rfl) (.cons (ArgOk.rfl' rfl) .nil)) (c_lacking (goodOnes v v.items[i].name p day) p po hgl)) ?_
      refine DRun.step rfl rfl rfl (AOp.moveD rfl rfl) ?_
      refine DRun.step rfl rfl rfl (AOp.extract rfl rfl rfl) ?_
      refine DRun.step rfl rfl rfl (AOp.extract rfl rfl rfl) ?_
      refine DRun.step rfl rfl rfl (AOp.extract rfl rfl rfl) ?_
      refine DRun.step rfl rfl rfl (AOp.assignD rfl rfl) ?_
      refine DRun.step rfl rfl rfl (AOp.assignD rfl rfl) ?_
      refine DRun.step rfl rfl rfl (AOp.assignD rfl rfl) ?_
      refine DRun.nil ?_
      refine AWP.seq ?_
      refine AWP.seq ?_
      refine AWP.region ?_
      refine AOps.step rfl rfl rfl (AOp.moveD rfl rfl) ?_
      refine AOps.step rfl rfl rfl (AOp.moveD rfl rfl) ?_
      refine AOps.step rfl rfl rfl (AOp.moveD rfl rfl) ?_
      refine AOps.step rfl rfl rfl (AOp.buildSlice rfl et_75 (.cons rfl rfl rfl (.cons rfl rfl rfl (.cons rfl rfl rfl .nil))) rfl (by decide)) ?_
      refine AOps.step rfl rfl rfl (AOp.lenSl rfl et_75.ht rfl) ?_
      refine AOps.step rfl rfl rfl (AOp.moveD rfl rfl) ?_
      refine AOps.nil ?_
      refine AWP.block ?_
      refine AWP.loop (G := Nat) (fun q => Env.of [(52, .d (.v (.int .i64 (q : Int)))), (50, .d (.sl ((numsOf p (goodOnes v v.items[i].name p day)).map intD))), (51, .d (.v (.int .i64 3))), (11, .d (.fp v.items[i].ds)), (30, .d (.v (.int .i64 (i : Int)))), (28, .d (.sl (v.items.map Item.ds))), (29, .d (.v (.int .i64 ((v.items.map Item.ds).length : Int)))), (9, .ptr 101 0), (3, .d (.fp v.ds)), (4, .d (.fp p.ds)), (2, .d (.v (.int .i64 day)))]) (fun q => [(1, .row 39 4 ((itemsTo v p day i ++ headTo v.items[i].name (numsOf p (goodOnes v v.items[i].name p day)) q).map Lck.ds)), (101, .cells [.own 1])]) (fun q => q ≤ 3) (fun q => 3 - q) 0 (Nat.zero_le _) (Sub.less ⟨(SLe.of_eq rfl), (SLe.of_eq rfl), (SLe.of_eq rfl), SLe.refl _, SLe.refl _, SLe.refl _, SLe.refl _, SLe.refl _, SLe.refl _, SLe.refl _, SLe.refl _, trivial⟩ (row_cell2 (by rw [show headTo v.items[i].name (numsOf p (goodOnes v v.items[i].name p day)) 0 = [] from rfl, List.append_nil]))) ?_
      intro q hq3
      refine AWP.seq ?_
      refine AWP.region ?_
      refine AOps.step rfl rfl rfl (AOp.lss rfl rfl rfl) ?_
      refine AOps.nil ?_
      refine AWP.seq ?_
      refine AWP.cond rfl (fun h3 => ?_) (fun h3 => ?_)
      · replace h3 := of_decide_eq_true h3
        have hq : q < (numsOf p (goodOnes v v.items[i].name p day)).length := by show q < 3; omega
        have hHl := headTo_len v.items[i].name (numsOf p (goodOnes v v.items[i].name p day)) q
        refine AWP.skip ?_
        refine AWP.seq ?_
        refine AWP.block ?_
        refine AWP.seq ?_
        refine AWP.region ?_
        refine AOps.step rfl rfl rfl (AOp.moveD rfl rfl) ?_
        refine AOps.step rfl rfl rfl (AOp.indexAddr rfl et_75 rfl rfl q rfl (at_list hq) rfl) ?_
        refine AOps.step rfl rfl rfl (AOp.load rfl sc_3 rfl) ?_
        refine AOps.step rfl rfl rfl (AOp.assignD rfl rfl) ?_
        refine AOps.step rfl rfl rfl (AOp.assignD rfl rfl) ?_
        refine AOps.nil ?_
        refine AWP.seq ?_
        refine AWP.region ?_
        refine AOps.step rfl rfl rfl (AOp.moveD rfl rfl) ?_
        refine AOps.step rfl rfl rfl (AOp.gtr rfl rfl rfl) ?_
        refine AOps.nil ?_
        refine AWP.cond rfl (fun h4 => ?_) (fun h4 => ?_)
        · replace h4 := of_decide_eq_true h4
          have HH := headTo_yes (nm := v.items[i].name) hq h4
          refine AWP.region ?_
          refine AOps.step rfl rfl rfl (AOp.loadP rfl sc_34 rfl (.tail _ (.head _)) rfl) ?_
          refine AOps.step rfl rfl rfl (AOp.fieldAddr rfl fo_69_0 rfl) ?_
          refine AOps.step rfl rfl rfl (AOp.load rfl sc_9 rfl) ?_
          refine AOps.step rfl rfl rfl (AOp.moveD rfl rfl) ?_
          refine AOps.step rfl rfl rfl (AOp.add64 rfl rfl rfl (by omega) (by omega)) ?_
          refine AOps.step rfl rfl rfl (AOp.moveD rfl rfl) ?_
          refine AOps.step rfl rfl rfl (AOp.build rfl bu_39 (.cons rfl rfl (.cons rfl rfl (.cons rfl rfl .nil))) rfl) ?_
          refine AOps.step rfl rfl rfl (AOp.buildSlice rfl et_34 (.cons rfl rfl rfl .nil) rfl (by decide)) ?_
          -- append 67
          refine AOps.append rfl rfl rfl rfl et_34 rfl (.head _) rfl (by simp [D.parts]) (by simp; omega) (by simp; omega) ?_
          refine AOps.storeS rfl rfl rfl sz_34 rfl (.tail _ (.head _)) rfl (.head _) (Nat.le_of_ble_eq_true rfl) ?_
          refine AOps.nil ?_
          refine AWP.region ?_
          refine AOps.step rfl rfl rfl (AOp.add64 rfl rfl rfl (by omega) (by omega)) ?_
          refine AOps.step rfl rfl rfl (AOp.moveD rfl rfl) ?_
          refine AOps.nil ?_
          refine ⟨q + 1, (by omega), (by dsimp only; omega), Sub.less ⟨(SLe.of_eq rfl), SLe.refl _, SLe.refl _, SLe.refl _, SLe.refl _, SLe.refl _, SLe.refl _, SLe.refl _, SLe.refl _, SLe.refl _, SLe.refl _, trivial⟩ (row_cell2 (by first | (rw [HH]; done) | (rw [HH, ← List.append_assoc]; simp only [List.map_append]; rfl)))⟩
        · replace h4 := of_decide_eq_false h4
          have HH := headTo_no (nm := v.items[i].name) hq h4
          refine AWP.skip ?_
          refine AWP.region ?_
          refine AOps.step rfl rfl rfl (AOp.add64 rfl rfl rfl (by omega) (by omega)) ?_
          refine AOps.step rfl rfl rfl (AOp.moveD rfl rfl) ?_
          refine AOps.nil ?_
          refine ⟨q + 1, (by omega), (by dsimp only; omega), Sub.less ⟨(SLe.of_eq rfl), SLe.refl _, SLe.refl _, SLe.refl _, SLe.refl _, SLe.refl _, SLe.refl _, SLe.refl _, SLe.refl _, SLe.refl _, SLe.refl _, trivial⟩ (row_cell2 (by first | (rw [HH]; done) | (rw [HH, ← List.append_assoc]; simp only [List.map_append]; rfl)))⟩
      · replace h3 := of_decide_eq_false h3
        obtain rfl : q = 3 := by omega
        refine AWP.exit ?_
        refine AWP.seq ?_
        refine AWP.region ?_
        refine AOps.step rfl rfl rfl (AOp.loadAgg rfl ag_26 rfl rfl) ?_
        refine AOps.step rfl rfl rfl (AOp.fieldAddr rfl fo_69_0 rfl) ?_
        refine AOps.step rfl rfl rfl (AOp.load rfl sc_9 rfl) ?_
        refine AOps.step rfl rfl rfl (AOp.call rfl (.cons (ArgOk.rfl' rfl) (.cons (ArgOk.rfl' rfl) .nil)) (c_copiesOf v _ hnp)) ?_
        refine AOps.step rfl rfl rfl (AOp.lenSl rfl et_24.ht rfl) ?_
        refine AOps.step rfl rfl rfl (AOp.moveD rfl rfl) ?_
        refine AOps.nil ?_
        refine AWP.block ?_
        refine AWP.loop (G := Nat) (fun k => Env.of [(74, .d (.v (.int .i64 (k : Int)))), (72, .d (.sl ((copiesOf v v.items[i].name).map Cpy.ds))), (73, .d (.v (.int .i64 (((copiesOf v v.items[i].name).map Cpy.ds).length : Int)))), (11, .d (.fp v.items[i].ds)), (30, .d (.v (.int .i64 (i : Int)))), (28, .d (.sl (v.items.map Item.ds))), (29, .d (.v (.int .i64 ((v.items.map Item.ds).length : Int)))), (9, .ptr 101 0), (3, .d (.fp v.ds)), (4, .d (.fp p.ds)), (2, .d (.v (.int .i64 day)))]) (fun k => [(1, .row 39 4 (((itemsTo v p day i ++ headTo v.items[i].name (numsOf p (goodOnes v v.items[i].name p day)) 3) ++ cpyTo v p day v.items[i].name k).map Lck.ds)), (101, .cells [.own 1])]) (fun k => k ≤ (copiesOf v v.items[i].name).length) (fun k => (copiesOf v v.items[i].name).length - k) 0 (Nat.zero_le _) (Sub.less ⟨(SLe.of_eq rfl), SLe.refl _, SLe.refl _, SLe.refl _, SLe.refl _, SLe.refl _, SLe.refl _, SLe.refl _, SLe.refl _, SLe.refl _, SLe.refl _, trivial⟩ (row_cell2 (by rw [show cpyTo v p day v.items[i].name 0 = [] from rfl, List.append_nil]))) ?_
        intro k hk
        refine AWP.seq ?_
        refine AWP.region ?_
        refine AOps.step rfl rfl rfl (AOp.lss rfl rfl rfl) ?_
        refine AOps.nil ?_
        refine AWP.seq ?_
        refine AWP.cond rfl (fun h5 => ?_) (fun h5 => ?_)
        · replace h5 := of_decide_eq_true h5
          rw [List.length_map] at h5
          have hkl : k < (copiesOf v v.items[i].name).length := by omega
          have hcm := copiesOf_mem (List.getElem_mem hkl)
          have hco := vo.cpy _ hcm.1
          have hcb := vo.carr (carrAt_mem hco.carr)
          have hla := hco.last
          have hda := hco.day
          have hcol := copiesOf_len v v.items[i].name
          have hcl := cpyTo_len v p day v.items[i].name k
          have hHl := headTo_len v.items[i].name (numsOf p (goodOnes v v.items[i].name p day)) 3
          have b1 : ((itemsTo v p day i ++ headTo v.items[i].name (numsOf p (goodOnes v v.items[i].name p day)) 3) ++ cpyTo v p day v.items[i].name k).length ≤ 25000 := by rw [List.length_append, List.length_append]; omega
          have b2 : (addL ((itemsTo v p day i ++ headTo v.items[i].name (numsOf p (goodOnes v v.items[i].name p day)) 3) ++ cpyTo v p day v.items[i].name k) (decide ((((copiesOf v v.items[i].name)[k].bad.map intD).length : Int) > 0)) ⟨v.items[i].name, (copiesOf v v.items[i].name)[k].carrier, 4, (((copiesOf v v.items[i].name)[k].bad.map intD).length : Int)⟩).length ≤ 25001 := Nat.le_trans (addL_len _ _ _) (by omega)
          have b3 : (addL (addL ((itemsTo v p day i ++ headTo v.items[i].name (numsOf p (goodOnes v v.items[i].name p day)) 3) ++ cpyTo v p day v.items[i].name k) (decide ((((copiesOf v v.items[i].name)[k].bad.map intD).length : Int) > 0)) ⟨v.items[i].name, (copiesOf v v.items[i].name)[k].carrier, 4, (((copiesOf v v.items[i].name)[k].bad.map intD).length : Int)⟩) (oldB p day (carrAt v (copiesOf v v.items[i].name)[k].carrier)) ⟨v.items[i].name, (copiesOf v v.items[i].name)[k].carrier, 5, 0⟩).length ≤ 25002 := Nat.le_trans (addL_len _ _ _) (by omega)
          have b4 : (addL (addL (addL ((itemsTo v p day i ++ headTo v.items[i].name (numsOf p (goodOnes v v.items[i].name p day)) 3) ++ cpyTo v p day v.items[i].name k) (decide ((((copiesOf v v.items[i].name)[k].bad.map intD).length : Int) > 0)) ⟨v.items[i].name, (copiesOf v v.items[i].name)[k].carrier, 4, (((copiesOf v v.items[i].name)[k].bad.map intD).length : Int)⟩) (oldB p day (carrAt v (copiesOf v v.items[i].name)[k].carrier)) ⟨v.items[i].name, (copiesOf v v.items[i].name)[k].carrier, 5, 0⟩) (decide ((copiesOf v v.items[i].name)[k].gen > p.gens)) ⟨v.items[i].name, (copiesOf v v.items[i].name)[k].carrier, 6, 0⟩).length ≤ 25003 := Nat.le_trans (addL_len _ _ _) (by omega)
          have HC : (addL (addL (addL (addL ((itemsTo v p day i ++ headTo v.items[i].name (numsOf p (goodOnes v v.items[i].name p day)) 3) ++ cpyTo v p day v.items[i].name k) (decide ((((copiesOf v v.items[i].name)[k].bad.map intD).length : Int) > 0)) ⟨v.items[i].name, (copiesOf v v.items[i].name)[k].carrier, 4, (((copiesOf v v.items[i].name)[k].bad.map intD).length : Int)⟩) (oldB p day (carrAt v (copiesOf v v.items[i].name)[k].carrier)) ⟨v.items[i].name, (copiesOf v v.items[i].name)[k].carrier, 5, 0⟩) (decide ((copiesOf v v.items[i].name)[k].gen > p.gens)) ⟨v.items[i].name, (copiesOf v v.items[i].name)[k].carrier, 6, 0⟩) (decide (day - (copiesOf v v.items[i].name)[k].last > p.every)) ⟨v.items[i].name, (copiesOf v v.items[i].name)[k].carrier, 7, 0⟩) = itemsTo v p day i ++ headTo v.items[i].name (numsOf p (goodOnes v v.items[i].name p day)) 3 ++ cpyTo v p day v.items[i].name (k + 1) := by
            rw [lack_app2 hcm.2, List.append_assoc]
            congr 1
            exact (flat_snoc _ hkl).symm
          refine AWP.skip ?_
          refine AWP.seq ?_
          refine AWP.block ?_
          refine AWP.seq ?_
          refine AWP.region ?_
          refine AOps.step rfl rfl rfl (AOp.indexAddr rfl et_24 rfl rfl k rfl (at_list hkl) rfl) ?_
          refine AOps.step rfl rfl rfl (AOp.loadAgg rfl ag_77 rfl rfl) ?_
          refine AOps.alloc 103 rfl rfl rfl rfl zt_77 rfl rfl rfl ?_
          refine AOps.store rfl rfl rfl sz_77 rfl (.head _) rfl rfl rfl (Nat.le_of_ble_eq_true rfl) ?_
          refine AOps.freezeCells 18 (ds := (copiesOf v v.items[i].name)[k].ds) rfl (.head _) ?_
          refine AOps.nil ?_
          refine AWP.seq ?_
          refine AWP.region ?_
          refine AOps.step rfl rfl rfl (AOp.makeClo rfl (CapsOk.p rfl (CapsOk.d rfl (CapsOk.d rfl CapsOk.nil)))) ?_
          refine AOps.step rfl rfl rfl (AOp.assignC rfl rfl) ?_
          refine AOps.nil ?_
          refine AWP.seq ?_
          refine AWP.region ?_
          refine AOps.step rfl rfl rfl (AOp.moveC rfl rfl) ?_
          refine AOps.step rfl rfl rfl (AOp.fieldAddr rfl fo_77_6 rfl) ?_
          refine AOps.step rfl rfl rfl (AOp.load rfl sc_75 rfl) ?_
          refine AOps.step rfl rfl rfl (AOp.lenSl rfl et_75.ht rfl) ?_
          refine AOps.step rfl rfl rfl (AOp.gtr rfl rfl rfl) ?_
          refine AOps.step rfl rfl rfl (AOp.fieldAddr rfl fo_77_6 rfl) ?_
          refine AOps.step rfl rfl rfl (AOp.load rfl sc_75 rfl) ?_
          refine AOps.step rfl rfl rfl (AOp.lenSl rfl et_75.ht rfl) ?_
          -- calls a closure
          refine AOps.callXC rfl rfl rfl rfl (.cons (SLe.refl _) (.cons (SLe.refl _) (.cons (SLe.refl _) .nil))) (c_add v.items[i] (copiesOf v v.items[i].name)[k] _ _ _ ((itemsTo v p day i ++ headTo v.items[i].name (numsOf p (goodOnes v v.items[i].name p day)) 3) ++ cpyTo v p day v.items[i].name k) (Nat.le_trans b1 (by decide))) ⟨(.head _), (.tail _ (.head _)), trivial⟩ rfl rfl (fun _ h => rfl) ?_
          refine AOps.nil ?_
          refine AWP.seq ?_
          refine AWP.drawTail 8 (by kernel_rfl) (by kernel_rfl) (by kernel_rfl) ?_
          refine DRun.step rfl rfl rfl (AOp.moveC rfl rfl) ?_
          refine DRun.step rfl rfl rfl (AOp.loadAgg rfl ag_26 rfl rfl) ?_
          refine DRun.step rfl rfl rfl (AOp.fieldAddr rfl fo_77_1 rfl) ?_
          refine DRun.step rfl rfl rfl (AOp.load rfl sc_9 rfl) ?_
          refine DRun.step rfl rfl rfl (AOp.call rfl (.cons (ArgOk.rfl' rfl) (.cons (ArgOk.rfl' rfl) .nil)) (c_carrier v _ hco.carr)) ?_
          refine DRun.step rfl rfl rfl (AOp.loadAgg rfl ag_28 rfl rfl) ?_
          refine DRun.step rfl rfl rfl (AOp.moveD rfl rfl) ?_
          refine DRun.step rfl rfl rfl (AOp.call rfl (.cons (ArgOk.rfl' rfl) (.cons (ArgOk.rfl' rfl) (.cons (ArgOk.rfl' rfl) .nil))) (c_old _ p day hcb.2.1 (by omega))) ?_
          refine DRun.nil ?_
          -- calls a closure
          refine AOps.callXC rfl rfl rfl rfl (.cons (SLe.refl _) (.cons (SLe.refl _) (.cons (SLe.refl _) .nil))) (c_add v.items[i] (copiesOf v v.items[i].name)[k] _ _ _ (addL ((itemsTo v p day i ++ headTo v.items[i].name (numsOf p (goodOnes v v.items[i].name p day)) 3) ++ cpyTo v p day v.items[i].name k) (decide ((((copiesOf v v.items[i].name)[k].bad.map intD).length : Int) > 0)) ⟨v.items[i].name, (copiesOf v v.items[i].name)[k].carrier, 4, (((copiesOf v v.items[i].name)[k].bad.map intD).length : Int)⟩) (Nat.le_trans b2 (by decide))) ⟨(.head _), (.tail _ (.head _)), trivial⟩ rfl rfl (fun _ h => rfl) ?_
          refine AOps.nil ?_
          refine AWP.seq ?_
          refine AWP.region ?_
          refine AOps.step rfl rfl rfl (AOp.moveC rfl rfl) ?_
          refine AOps.step rfl rfl rfl (AOp.fieldAddr rfl fo_77_5 rfl) ?_
          refine AOps.step rfl rfl rfl (AOp.load rfl sc_3 rfl) ?_
          refine AOps.step rfl rfl rfl (AOp.fieldAddr rfl fo_28_5 rfl) ?_
          refine AOps.step rfl rfl rfl (AOp.load rfl sc_3 rfl) ?_
          refine AOps.step rfl rfl rfl (AOp.gtr rfl rfl rfl) ?_
          -- calls a closure
          refine AOps.callXC rfl rfl rfl rfl (.cons (SLe.refl _) (.cons (SLe.refl _) (.cons (SLe.refl _) .nil))) (c_add v.items[i] (copiesOf v v.items[i].name)[k] _ _ _ (addL (addL ((itemsTo v p day i ++ headTo v.items[i].name (numsOf p (goodOnes v v.items[i].name p day)) 3) ++ cpyTo v p day v.items[i].name k) (decide ((((copiesOf v v.items[i].name)[k].bad.map intD).length : Int) > 0)) ⟨v.items[i].name, (copiesOf v v.items[i].name)[k].carrier, 4, (((copiesOf v v.items[i].name)[k].bad.map intD).length : Int)⟩) (oldB p day (carrAt v (copiesOf v v.items[i].name)[k].carrier)) ⟨v.items[i].name, (copiesOf v v.items[i].name)[k].carrier, 5, 0⟩) (Nat.le_trans b3 (by decide))) ⟨(.head _), (.tail _ (.head _)), trivial⟩ rfl rfl (fun _ h => rfl) ?_
          refine AOps.nil ?_
          refine AWP.region ?_
          refine AOps.step rfl rfl rfl (AOp.moveC rfl rfl) ?_
          refine AOps.step rfl rfl rfl (AOp.moveD rfl rfl) ?_
          refine AOps.step rfl rfl rfl (AOp.fieldAddr rfl fo_77_4 rfl) ?_
          refine AOps.step rfl rfl rfl (AOp.load rfl sc_3 rfl) ?_
          refine AOps.step rfl rfl rfl (AOp.sub64 rfl rfl rfl (by omega) (by omega)) ?_
          refine AOps.step rfl rfl rfl (AOp.fieldAddr rfl fo_28_3 rfl) ?_
          refine AOps.step rfl rfl rfl (AOp.load rfl sc_3 rfl) ?_
          refine AOps.step rfl rfl rfl (AOp.gtr rfl rfl rfl) ?_
          -- calls a closure
          refine AOps.callXC rfl rfl rfl rfl (.cons (SLe.refl _) (.cons (SLe.refl _) (.cons (SLe.refl _) .nil))) (c_add v.items[i] (copiesOf v v.items[i].name)[k] _ _ _ (addL (addL (addL ((itemsTo v p day i ++ headTo v.items[i].name (numsOf p (goodOnes v v.items[i].name p day)) 3) ++ cpyTo v p day v.items[i].name k) (decide ((((copiesOf v v.items[i].name)[k].bad.map intD).length : Int) > 0)) ⟨v.items[i].name, (copiesOf v v.items[i].name)[k].carrier, 4, (((copiesOf v v.items[i].name)[k].bad.map intD).length : Int)⟩) (oldB p day (carrAt v (copiesOf v v.items[i].name)[k].carrier)) ⟨v.items[i].name, (copiesOf v v.items[i].name)[k].carrier, 5, 0⟩) (decide ((copiesOf v v.items[i].name)[k].gen > p.gens)) ⟨v.items[i].name, (copiesOf v v.items[i].name)[k].carrier, 6, 0⟩) (Nat.le_trans b4 (by decide))) ⟨(.head _), (.tail _ (.head _)), trivial⟩ rfl rfl (fun _ h => rfl) ?_
          refine AOps.nil ?_
          refine AWP.region ?_
          refine AOps.step rfl rfl rfl (AOp.add64 rfl rfl rfl (by omega) (by omega)) ?_
          refine AOps.step rfl rfl rfl (AOp.moveD rfl rfl) ?_
          refine AOps.nil ?_
          refine ⟨k + 1, (by omega), (by dsimp only; omega), Sub.less ⟨(SLe.of_eq rfl), SLe.refl _, SLe.refl _, SLe.refl _, SLe.refl _, SLe.refl _, SLe.refl _, SLe.refl _, SLe.refl _, SLe.refl _, SLe.refl _, trivial⟩ (row_cell2 (by rw [HC]))⟩
        · replace h5 := of_decide_eq_false h5
          rw [List.length_map] at h5
          obtain rfl : k = (copiesOf v v.items[i].name).length := by omega
          refine AWP.exit ?_
          refine AWP.region ?_
          refine AOps.step rfl rfl rfl (AOp.add64 rfl rfl rfl (by omega) (by omega)) ?_
          refine AOps.step rfl rfl rfl (AOp.moveD rfl rfl) ?_
          refine AOps.nil ?_
          refine ⟨i + 1, (by omega), (by dsimp only; omega), Sub.less ⟨(SLe.of_eq rfl), SLe.refl _, SLe.refl _, SLe.refl _, SLe.refl _, SLe.refl _, SLe.refl _, trivial⟩ (row_cell2 (by rw [hIn, cpyTo_all, List.append_assoc]))⟩
    · replace h2 := of_decide_eq_false h2
      rw [List.length_map] at h2
      obtain rfl : i = v.items.length := by omega
      refine AWP.exit ?_
      refine AWP.seq ?_
      refine AWP.region ?_
      refine AOps.step rfl rfl rfl (AOp.loadP rfl sc_34 rfl (.tail _ (.head _)) rfl) ?_
      refine AOps.step rfl rfl rfl (AOp.assignO rfl rfl) ?_
      refine AOps.step rfl rfl rfl (AOp.assignD rfl rfl) ?_
      refine AOps.nil ?_
      refine AWP.ret ?_
      refine ⟨RetD.own rfl (.head _) ?_, RetD.eq rfl ?_, trivial⟩
      all_goals (rfl)

set_option maxRecDepth 100000 in
set_option maxHeartbeats 1000000 in
theorem c_rLacks (v : Vlt) (p : Pol) (day : Int) (hs : smallV v) : ACall Tryd.prog 15 [.agg v.ds, .agg p.ds, .v (.int .i64 day)] (.tup [.sl ((lacksR v p day).map Lck.ds), .v (.int .i64 (dayFault v p day))]) := by
  refine acall_of (n := 89) (ds' := [.sl ((lacksR v p day).map Lck.ds), .v (.int .i64 (dayFault v p day))]) Tryd.func15 rfl (by kernel_rfl) rfl [6, 7] rfl rfl ?_
  intro B w0 F0 fr
  refine AWP.seq ?_
  refine AWP.region ?_
  refine AOps.step rfl rfl rfl (AOp.box rfl rfl rfl) ?_
  refine AOps.step rfl rfl rfl (AOp.box rfl rfl rfl) ?_
  refine AOps.step rfl rfl rfl (AOp.assignD rfl rfl) ?_
  refine AOps.step rfl rfl rfl (AOp.assignD rfl rfl) ?_
  refine AOps.nil ?_
  refine AWP.seq ?_
  refine AWP.seq ?_
  refine AWP.region ?_
  refine AOps.step rfl rfl rfl (AOp.loadAgg rfl ag_26 rfl rfl) ?_
  refine AOps.step rfl rfl rfl (AOp.loadAgg rfl ag_28 rfl rfl) ?_
  refine AOps.step rfl rfl rfl (AOp.moveD rfl rfl) ?_
  refine AOps.step rfl rfl rfl (AOp.call rfl (.cons (ArgOk.rfl' rfl) (.cons (ArgOk.rfl' rfl) (.cons (ArgOk.rfl' rfl) .nil))) (c_ask v p day hs)) ?_
  refine AOps.step rfl rfl rfl (AOp.assignD rfl rfl) ?_
  refine AOps.nil ?_
  refine AWP.seq ?_
  refine AWP.region ?_
  refine AOps.step rfl rfl rfl (AOp.moveD rfl rfl) ?_
  refine AOps.step rfl rfl rfl (AOp.neq rfl rfl rfl) ?_
  refine AOps.nil ?_
  refine AWP.cond rfl (fun h1 => ?_) (fun h1 => ?_)
  · replace h1 := of_decide_eq_true h1
    have HF : lacksR v p day = [] := lacksR_bad h1
    rw [HF]
    refine AWP.seq ?_
    refine AWP.region ?_
    refine AOps.step rfl rfl rfl (AOp.moveD rfl rfl) ?_
    refine AOps.step rfl rfl rfl (AOp.assignD rfl rfl) ?_
    refine AOps.step rfl rfl rfl (AOp.assignD rfl rfl) ?_
    refine AOps.nil ?_
    refine AWP.ret ?_
    refine ⟨RetD.nil rfl, RetD.eq rfl ?_, trivial⟩
    all_goals (rfl)
  · replace h1 := of_decide_eq_false h1
    have hd0 := Decidable.not_not.1 h1
    obtain ⟨hb0, hd⟩ := day_ok hd0
    obtain ⟨vo, po⟩ := both_ok hb0
    have hnp := vo.np
    have hni := vo.ni
    rw [hd0, lacksR_ok hd0]
    refine AWP.skip ?_
    refine AWP.seq ?_
    refine AWP.region ?_
    refine AOps.step rfl rfl rfl (AOp.assignD rfl rfl) ?_
    refine AOps.nil ?_
    refine AWP.seq ?_
    refine AWP.seq ?_
    refine AWP.region ?_
    refine AOps.step rfl rfl rfl (AOp.fieldAddr rfl fo_26_0 rfl) ?_
    refine AOps.step rfl rfl rfl (AOp.load rfl sc_22 rfl) ?_
    refine AOps.step rfl rfl rfl (AOp.lenSl rfl et_22.ht rfl) ?_
    refine AOps.step rfl rfl rfl (AOp.moveD rfl rfl) ?_
    refine AOps.nil ?_
    refine AWP.block ?_
    refine AWP.adopt 9 1 39 4 rfl rfl ?_
    refine AWP.loop (G := Nat) (fun i => Env.of [(29, .d (.v (.int .i64 (i : Int)))), (27, .d (.sl (v.items.map Item.ds))), (28, .d (.v (.int .i64 ((v.items.map Item.ds).length : Int)))), (9, .own 1), (3, .d (.fp v.ds)), (4, .d (.fp p.ds)), (2, .d (.v (.int .i64 day)))]) (fun i => [(1, .row 39 4 ((itemsTo v p day i).map Lck.ds))]) (fun i => i ≤ v.items.length) (fun i => v.items.length - i) 0 (Nat.zero_le _) (Sub.less ⟨(SLe.of_eq rfl), SLe.refl _, SLe.refl _, SLe.refl _, SLe.refl _, SLe.refl _, SLe.refl _, trivial⟩ (row_same rfl)) ?_
    intro i hi
    refine AWP.seq ?_
    refine AWP.region ?_
    refine AOps.step rfl rfl rfl (AOp.lss rfl rfl rfl) ?_
    refine AOps.nil ?_
    refine AWP.seq ?_
    refine AWP.cond rfl (fun h2 => ?_) (fun h2 => ?_)
    · replace h2 := of_decide_eq_true h2
      rw [List.length_map] at h2
      have hlt : i < v.items.length := by omega
      have hIn := itemsTo_next (p := p) (day := day) hlt
      have hIl := itemsTo_len hnp hni p day i
      have hgl : (goodOnes v v.items[i].name p day).length ≤ 200 := by have := goodTo_len v v.items[i].name p day (copiesOf v v.items[i].name).length; rw [goodTo_all] at this; omega
      refine AWP.skip ?_
      refine AWP.seq ?_
      refine AWP.block ?_
      refine AWP.seq ?_
      refine AWP.region ?_
      refine AOps.step rfl rfl rfl (AOp.indexAddr rfl et_22 rfl rfl i rfl (at_list hlt) rfl) ?_
      refine AOps.step rfl rfl rfl (AOp.loadAgg rfl ag_69 rfl rfl) ?_
      refine AOps.alloc 101 rfl rfl rfl rfl zt_69 rfl rfl rfl ?_
      refine AOps.store rfl rfl rfl sz_69 rfl (.head _) rfl rfl rfl (Nat.le_of_ble_eq_true rfl) ?_
      refine AOps.freezeCells 11 (ds := v.items[i].ds) rfl (.head _) ?_
      refine AOps.nil ?_
      refine AWP.seq ?_
      refine AWP.draw (by kernel_rfl) (by kernel_rfl) ?_
      refine DRun.step rfl rfl rfl (AOp.loadAgg rfl ag_26 rfl rfl) ?_
      refine DRun.step rfl rfl rfl (AOp.loadAgg rfl ag_28 rfl rfl) ?_
      refine DRun.step rfl rfl rfl (AOp.fieldAddr rfl fo_69_0 rfl) ?_
      refine DRun.step rfl rfl rfl (AOp.load rfl sc_9 rfl) ?_
      refine DRun.step rfl rfl rfl (AOp.moveD rfl rfl) ?_
      refine DRun.step rfl rfl rfl (AOp.call rfl (.cons (ArgOk.rfl' rfl) (.cons (ArgOk.rfl' rfl) (.cons (ArgOk.rfl' rfl) (.cons (ArgOk.rfl' rfl) .nil)))) (c_goodOn v _ p day vo po hd)) ?_
      refine DRun.step rfl rfl rfl (AOp.loadAgg rfl ag_28 rfl rfl) ?_
      refine DRun.step rfl rfl rfl (AOp.call rfl (.cons (ArgOk.rfl' rfl) (.cons (ArgOk.rfl' rfl) .nil)) (c_missing (goodOnes v v.items[i].name p day) p po hgl)) ?_
      refine DRun.step rfl rfl rfl (AOp.moveD rfl rfl) ?_
      refine DRun.step rfl rfl rfl (AOp.extract rfl rfl rfl) ?_
      refine DRun.step rfl rfl rfl (AOp.extract rfl rfl rfl) ?_
      refine DRun.step rfl rfl rfl (AOp.extract rfl rfl rfl) ?_
      refine DRun.step rfl rfl rfl (AOp.assignD rfl rfl) ?_
      refine DRun.step rfl rfl rfl (AOp.assignD rfl rfl) ?_
      refine DRun.step rfl rfl rfl (AOp.assignD rfl rfl) ?_
      refine DRun.nil ?_
      refine AWP.seq ?_
      refine AWP.seq ?_
      refine AWP.region ?_
      refine AOps.step rfl rfl rfl (AOp.moveD rfl rfl) ?_
      refine AOps.step rfl rfl rfl (AOp.moveD rfl rfl) ?_
      refine AOps.step rfl rfl rfl (AOp.moveD rfl rfl) ?_
      refine AOps.step rfl rfl rfl (AOp.buildSlice rfl et_75 (.cons rfl rfl rfl (.cons rfl rfl rfl (.cons rfl rfl rfl .nil))) rfl (by decide)) ?_
      refine AOps.step rfl rfl rfl (AOp.lenSl rfl et_75.ht rfl) ?_
      refine AOps.step rfl rfl rfl (AOp.moveD rfl rfl) ?_
      refine AOps.nil ?_
      refine AWP.block ?_
      refine AWP.loop (G := Nat) (fun q => Env.of [(50, .d (.v (.int .i64 (q : Int)))), (48, .d (.sl ((numsOf p (goodOnes v v.items[i].name p day)).map intD))), (49, .d (.v (.int .i64 3))), (11, .d (.fp v.items[i].ds)), (29, .d (.v (.int .i64 (i : Int)))), (27, .d (.sl (v.items.map Item.ds))), (28, .d (.v (.int .i64 ((v.items.map Item.ds).length : Int)))), (9, .own 1), (3, .d (.fp v.ds)), (4, .d (.fp p.ds)), (2, .d (.v (.int .i64 day)))]) (fun q => [(1, .row 39 4 ((itemsTo v p day i ++ headTo v.items[i].name (numsOf p (goodOnes v v.items[i].name p day)) q).map Lck.ds))]) (fun q => q ≤ 3) (fun q => 3 - q) 0 (Nat.zero_le _) (Sub.less ⟨(SLe.of_eq rfl), (SLe.of_eq rfl), (SLe.of_eq rfl), SLe.refl _, SLe.refl _, SLe.refl _, SLe.refl _, SLe.refl _, SLe.refl _, SLe.refl _, SLe.refl _, trivial⟩ (row_same (by rw [show headTo v.items[i].name (numsOf p (goodOnes v v.items[i].name p day)) 0 = [] from rfl, List.append_nil]))) ?_
      intro q hq3
      refine AWP.seq ?_
      refine AWP.region ?_
      refine AOps.step rfl rfl rfl (AOp.lss rfl rfl rfl) ?_
      refine AOps.nil ?_
      refine AWP.seq ?_
      refine AWP.cond rfl (fun h3 => ?_) (fun h3 => ?_)
      · replace h3 := of_decide_eq_true h3
        have hq : q < (numsOf p (goodOnes v v.items[i].name p day)).length := by show q < 3; omega
        have hHl := headTo_len v.items[i].name (numsOf p (goodOnes v v.items[i].name p day)) q
        refine AWP.skip ?_
        refine AWP.seq ?_
        refine AWP.block ?_
        refine AWP.seq ?_
        refine AWP.region ?_
        refine AOps.step rfl rfl rfl (AOp.moveD rfl rfl) ?_
        refine AOps.step rfl rfl rfl (AOp.indexAddr rfl et_75 rfl rfl q rfl (at_list hq) rfl) ?_
        refine AOps.step rfl rfl rfl (AOp.load rfl sc_3 rfl) ?_
        refine AOps.step rfl rfl rfl (AOp.assignD rfl rfl) ?_
        refine AOps.step rfl rfl rfl (AOp.assignD rfl rfl) ?_
        refine AOps.nil ?_
        refine AWP.seq ?_
        refine AWP.region ?_
        refine AOps.step rfl rfl rfl (AOp.moveD rfl rfl) ?_
        refine AOps.step rfl rfl rfl (AOp.gtr rfl rfl rfl) ?_
        refine AOps.nil ?_
        refine AWP.cond rfl (fun h4 => ?_) (fun h4 => ?_)
        · replace h4 := of_decide_eq_true h4
          have HH := headTo_yes (nm := v.items[i].name) hq h4
          refine AWP.region ?_
          refine AOps.step rfl rfl rfl (AOp.moveO rfl rfl) ?_
          refine AOps.step rfl rfl rfl (AOp.fieldAddr rfl fo_69_0 rfl) ?_
          refine AOps.step rfl rfl rfl (AOp.load rfl sc_9 rfl) ?_
          refine AOps.step rfl rfl rfl (AOp.moveD rfl rfl) ?_
          refine AOps.step rfl rfl rfl (AOp.add64 rfl rfl rfl (by omega) (by omega)) ?_
          refine AOps.step rfl rfl rfl (AOp.moveD rfl rfl) ?_
          refine AOps.step rfl rfl rfl (AOp.build rfl bu_39 (.cons rfl rfl (.cons rfl rfl (.cons rfl rfl .nil))) rfl) ?_
          refine AOps.step rfl rfl rfl (AOp.buildSlice rfl et_34 (.cons rfl rfl rfl .nil) rfl (by decide)) ?_
          -- append 65
          refine AOps.append rfl rfl rfl rfl et_34 rfl (.head _) rfl (by simp [D.parts]) (by simp; omega) (by simp; omega) ?_
          refine AOps.step rfl rfl rfl (AOp.assignO rfl rfl) ?_
          refine AOps.nil ?_
          refine AWP.region ?_
          refine AOps.step rfl rfl rfl (AOp.add64 rfl rfl rfl (by omega) (by omega)) ?_
          refine AOps.step rfl rfl rfl (AOp.moveD rfl rfl) ?_
          refine AOps.nil ?_
          refine ⟨q + 1, (by omega), (by dsimp only; omega), Sub.less ⟨(SLe.of_eq rfl), SLe.refl _, SLe.refl _, SLe.refl _, SLe.refl _, SLe.refl _, SLe.refl _, SLe.refl _, SLe.refl _, SLe.refl _, SLe.refl _, trivial⟩ (row_same (by first | (rw [HH]; done) | (rw [HH, ← List.append_assoc]; simp only [List.map_append]; rfl)))⟩
        · replace h4 := of_decide_eq_false h4
          have HH := headTo_no (nm := v.items[i].name) hq h4
          refine AWP.skip ?_
          refine AWP.region ?_
          refine AOps.step rfl rfl rfl (AOp.add64 rfl rfl rfl (by omega) (by omega)) ?_
          refine AOps.step rfl rfl rfl (AOp.moveD rfl rfl) ?_
          refine AOps.nil ?_
          refine ⟨q + 1, (by omega), (by dsimp only; omega), Sub.less ⟨(SLe.of_eq rfl), SLe.refl _, SLe.refl _, SLe.refl _, SLe.refl _, SLe.refl _, SLe.refl _, SLe.refl _, SLe.refl _, SLe.refl _, SLe.refl _, trivial⟩ (row_same (by first | (rw [HH]; done) | (rw [HH, ← List.append_assoc]; simp only [List.map_append]; rfl)))⟩
      · replace h3 := of_decide_eq_false h3
        obtain rfl : q = 3 := by omega
        refine AWP.exit ?_
        refine AWP.seq ?_
        refine AWP.region ?_
        refine AOps.step rfl rfl rfl (AOp.fieldAddr rfl fo_26_2 rfl) ?_
        refine AOps.step rfl rfl rfl (AOp.load rfl sc_24 rfl) ?_
        refine AOps.step rfl rfl rfl (AOp.lenSl rfl et_24.ht rfl) ?_
        refine AOps.step rfl rfl rfl (AOp.moveD rfl rfl) ?_
        refine AOps.nil ?_
        refine AWP.block ?_
        refine AWP.loop (G := Nat) (fun k => Env.of [(70, .d (.v (.int .i64 (k : Int)))), (68, .d (.sl (v.copies.map Cpy.ds))), (69, .d (.v (.int .i64 ((v.copies.map Cpy.ds).length : Int)))), (11, .d (.fp v.items[i].ds)), (29, .d (.v (.int .i64 (i : Int)))), (27, .d (.sl (v.items.map Item.ds))), (28, .d (.v (.int .i64 ((v.items.map Item.ds).length : Int)))), (9, .own 1), (3, .d (.fp v.ds)), (4, .d (.fp p.ds)), (2, .d (.v (.int .i64 day)))]) (fun k => [(1, .row 39 4 (((itemsTo v p day i ++ headTo v.items[i].name (numsOf p (goodOnes v v.items[i].name p day)) 3) ++ rCpyTo v p day v.items[i].name k).map Lck.ds))]) (fun k => k ≤ v.copies.length) (fun k => v.copies.length - k) 0 (Nat.zero_le _) (Sub.less ⟨(SLe.of_eq rfl), SLe.refl _, SLe.refl _, SLe.refl _, SLe.refl _, SLe.refl _, SLe.refl _, SLe.refl _, SLe.refl _, SLe.refl _, SLe.refl _, trivial⟩ (row_same (by rw [show rCpyTo v p day v.items[i].name 0 = [] from rfl, List.append_nil]))) ?_
        intro k hk
        refine AWP.seq ?_
        refine AWP.region ?_
        refine AOps.step rfl rfl rfl (AOp.lss rfl rfl rfl) ?_
        refine AOps.nil ?_
        refine AWP.seq ?_
        refine AWP.cond rfl (fun h5 => ?_) (fun h5 => ?_)
        · replace h5 := of_decide_eq_true h5
          rw [List.length_map] at h5
          have hkl : k < v.copies.length := by omega
          have hcl := rCpyTo_len v p day v.items[i].name k
          have hHl := headTo_len v.items[i].name (numsOf p (goodOnes v v.items[i].name p day)) 3
          have hl4 := lackCpy_len v p day v.copies[k]
          have hfs := flat_snoc (fun c : Cpy => if c.item = v.items[i].name then lackCpy v p day c else []) hkl
          refine AWP.skip ?_
          refine AWP.seq ?_
          refine AWP.block ?_
          refine AWP.seq ?_
          refine AWP.region ?_
          refine AOps.step rfl rfl rfl (AOp.indexAddr rfl et_24 rfl rfl k rfl (at_list hkl) rfl) ?_
          refine AOps.step rfl rfl rfl (AOp.loadAgg rfl ag_77 rfl rfl) ?_
          refine AOps.alloc 102 rfl rfl rfl rfl zt_77 rfl rfl rfl ?_
          refine AOps.store rfl rfl rfl sz_77 rfl (.head _) rfl rfl rfl (Nat.le_of_ble_eq_true rfl) ?_
          refine AOps.freezeCells 18 (ds := v.copies[k].ds) rfl (.head _) ?_
          refine AOps.nil ?_
          refine AWP.seq ?_
          refine AWP.region ?_
          refine AOps.step rfl rfl rfl (AOp.fieldAddr rfl fo_77_0 rfl) ?_
          refine AOps.step rfl rfl rfl (AOp.load rfl sc_9 rfl) ?_
          refine AOps.step rfl rfl rfl (AOp.fieldAddr rfl fo_69_0 rfl) ?_
          refine AOps.step rfl rfl rfl (AOp.load rfl sc_9 rfl) ?_
          refine AOps.step rfl rfl rfl (AOp.seql rfl rfl rfl) ?_
          refine AOps.nil ?_
          refine AWP.cond rfl (fun h6 => ?_) (fun h6 => ?_)
          · replace h6 := of_decide_eq_true h6
            rw [if_pos h6] at hfs
            refine AWP.region ?_
            refine AOps.step rfl rfl rfl (AOp.moveO rfl rfl) ?_
            refine AOps.step rfl rfl rfl (AOp.loadAgg rfl ag_26 rfl rfl) ?_
            refine AOps.step rfl rfl rfl (AOp.loadAgg rfl ag_28 rfl rfl) ?_
            refine AOps.step rfl rfl rfl (AOp.loadAgg rfl ag_77 rfl rfl) ?_
            refine AOps.step rfl rfl rfl (AOp.moveD rfl rfl) ?_
            refine AOps.step rfl rfl rfl (AOp.call rfl (.cons (ArgOk.rfl' rfl) (.cons (ArgOk.rfl' rfl) (.cons (ArgOk.rfl' rfl) (.cons (ArgOk.rfl' rfl) .nil)))) (c_lacksOf v p v.copies[k] day vo po (List.getElem_mem hkl) hd)) ?_
            -- append 85
            refine AOps.append rfl rfl rfl rfl et_34 rfl (.head _) rfl lck_size (by simp only [List.length_map, List.length_append]; omega) (by simp only [List.length_map, List.length_append]; omega) ?_
            refine AOps.step rfl rfl rfl (AOp.assignO rfl rfl) ?_
            refine AOps.nil ?_
            refine AWP.region ?_
            refine AOps.step rfl rfl rfl (AOp.add64 rfl rfl rfl (by omega) (by omega)) ?_
            refine AOps.step rfl rfl rfl (AOp.moveD rfl rfl) ?_
            refine AOps.nil ?_
            refine ⟨k + 1, (by omega), (by dsimp only; omega), Sub.less ⟨(SLe.of_eq rfl), SLe.refl _, SLe.refl _, SLe.refl _, SLe.refl _, SLe.refl _, SLe.refl _, SLe.refl _, SLe.refl _, SLe.refl _, SLe.refl _, trivial⟩ (row_same (by unfold rCpyTo; rw [hfs]; first | done | (rw [← List.append_assoc]; simp only [List.map_append])))⟩
          · replace h6 := of_decide_eq_false h6
            rw [if_neg h6, List.append_nil] at hfs
            refine AWP.skip ?_
            refine AWP.region ?_
            refine AOps.step rfl rfl rfl (AOp.add64 rfl rfl rfl (by omega) (by omega)) ?_
            refine AOps.step rfl rfl rfl (AOp.moveD rfl rfl) ?_
            refine AOps.nil ?_
            refine ⟨k + 1, (by omega), (by dsimp only; omega), Sub.less ⟨(SLe.of_eq rfl), SLe.refl _, SLe.refl _, SLe.refl _, SLe.refl _, SLe.refl _, SLe.refl _, SLe.refl _, SLe.refl _, SLe.refl _, SLe.refl _, trivial⟩ (row_same (by unfold rCpyTo; rw [hfs]; first | done | (rw [← List.append_assoc]; simp only [List.map_append])))⟩
        · replace h5 := of_decide_eq_false h5
          rw [List.length_map] at h5
          obtain rfl : k = v.copies.length := by omega
          refine AWP.exit ?_
          refine AWP.region ?_
          refine AOps.step rfl rfl rfl (AOp.add64 rfl rfl rfl (by omega) (by omega)) ?_
          refine AOps.step rfl rfl rfl (AOp.moveD rfl rfl) ?_
          refine AOps.nil ?_
          refine ⟨i + 1, (by omega), (by dsimp only; omega), Sub.less ⟨(SLe.of_eq rfl), SLe.refl _, SLe.refl _, SLe.refl _, SLe.refl _, SLe.refl _, SLe.refl _, trivial⟩ (row_same (by rw [hIn, rCpyTo_all, List.append_assoc]))⟩
    · replace h2 := of_decide_eq_false h2
      rw [List.length_map] at h2
      obtain rfl : i = v.items.length := by omega
      refine AWP.exit ?_
      refine AWP.seq ?_
      refine AWP.region ?_
      refine AOps.step rfl rfl rfl (AOp.moveO rfl rfl) ?_
      refine AOps.step rfl rfl rfl (AOp.assignO rfl rfl) ?_
      refine AOps.step rfl rfl rfl (AOp.assignD rfl rfl) ?_
      refine AOps.nil ?_
      refine AWP.ret ?_
      refine ⟨RetD.own rfl (.head _) ?_, RetD.eq rfl ?_, trivial⟩
      all_goals (rfl)

set_option maxRecDepth 100000 in
set_option maxHeartbeats 1000000 in
theorem lawLacks (v : Vlt) (p : Pol) (day : Int) (hs : smallV v) : ACall Tryd.prog 4 [.agg v.ds, .agg p.ds, .v (.int .i64 day)] (.v (.bool true)) := by
  refine acall_of (n := 36) (ds' := [.v (.bool true)]) Tryd.func4 rfl (by kernel_rfl) rfl [6] rfl rfl ?_
  intro B w0 F0 fr
  refine AWP.seq ?_
  refine AWP.region ?_
  refine AOps.step rfl rfl rfl (AOp.box rfl rfl rfl) ?_
  refine AOps.step rfl rfl rfl (AOp.box rfl rfl rfl) ?_
  refine AOps.step rfl rfl rfl (AOp.assignD rfl rfl) ?_
  refine AOps.nil ?_
  refine AWP.seq ?_
  refine AWP.region ?_
  refine AOps.step rfl rfl rfl (AOp.loadAgg rfl ag_26 rfl rfl) ?_
  refine AOps.step rfl rfl rfl (AOp.loadAgg rfl ag_28 rfl rfl) ?_
  refine AOps.step rfl rfl rfl (AOp.moveD rfl rfl) ?_
  refine AOps.step rfl rfl rfl (AOp.call rfl (.cons (ArgOk.rfl' rfl) (.cons (ArgOk.rfl' rfl) (.cons (ArgOk.rfl' rfl) .nil))) (c_pLacks v p day hs)) ?_
  refine AOps.step rfl rfl rfl (AOp.moveD rfl rfl) ?_
  refine AOps.step rfl rfl rfl (AOp.extract rfl rfl rfl) ?_
  refine AOps.step rfl rfl rfl (AOp.extract rfl rfl rfl) ?_
  refine AOps.step rfl rfl rfl (AOp.assignD rfl rfl) ?_
  refine AOps.step rfl rfl rfl (AOp.assignD rfl rfl) ?_
  refine AOps.nil ?_
  refine AWP.seq ?_
  refine AWP.region ?_
  refine AOps.step rfl rfl rfl (AOp.loadAgg rfl ag_26 rfl rfl) ?_
  refine AOps.step rfl rfl rfl (AOp.loadAgg rfl ag_28 rfl rfl) ?_
  refine AOps.step rfl rfl rfl (AOp.moveD rfl rfl) ?_
  refine AOps.step rfl rfl rfl (AOp.call rfl (.cons (ArgOk.rfl' rfl) (.cons (ArgOk.rfl' rfl) (.cons (ArgOk.rfl' rfl) .nil))) (c_rLacks v p day hs)) ?_
  refine AOps.step rfl rfl rfl (AOp.moveD rfl rfl) ?_
  refine AOps.step rfl rfl rfl (AOp.extract rfl rfl rfl) ?_
  refine AOps.step rfl rfl rfl (AOp.extract rfl rfl rfl) ?_
  refine AOps.step rfl rfl rfl (AOp.assignD rfl rfl) ?_
  refine AOps.step rfl rfl rfl (AOp.assignD rfl rfl) ?_
  refine AOps.nil ?_
  refine AWP.seq ?_
  refine AWP.region ?_
  refine AOps.step rfl rfl rfl (AOp.moveD rfl rfl) ?_
  refine AOps.step rfl rfl rfl (AOp.moveD rfl rfl) ?_
  refine AOps.step rfl rfl rfl (AOp.eql rfl rfl rfl) ?_
  refine AOps.step rfl rfl rfl (AOp.moveD rfl rfl) ?_
  refine AOps.split 28 rfl (fun g1 => ?_) (fun g1 => ?_)
  · replace g1 := of_decide_eq_true g1
    refine AOps.step ⟨28, rfl, .inl ⟨_, rfl, rfl⟩⟩ rfl rfl (AOp.moveD rfl rfl) ?_
    refine AOps.step ⟨28, rfl, .inl ⟨_, rfl, rfl⟩⟩ rfl rfl (AOp.moveD rfl rfl) ?_
    refine AOps.step ⟨28, rfl, .inl ⟨_, rfl, rfl⟩⟩ rfl rfl (AOp.call rfl (.cons (ArgOk.rfl' rfl) (.cons (ArgOk.rfl' rfl) .nil)) (c_eqLck _)) ?_
    refine AOps.step rfl rfl rfl (AOp.pickT rfl rfl rfl) ?_
    refine AOps.step rfl rfl rfl (AOp.moveD rfl rfl) ?_
    refine AOps.step ⟨33, rfl, .inl ⟨_, rfl, rfl⟩⟩ rfl rfl (AOp.call rfl .nil c_awake) ?_
    refine AOps.step rfl rfl rfl (AOp.pickT rfl rfl rfl) ?_
    refine AOps.step rfl rfl rfl (AOp.assignD rfl rfl) ?_
    refine AOps.nil ?_
    refine AWP.ret ?_
    refine ⟨RetD.eq rfl ?_, trivial⟩
    all_goals (simp)
  · replace g1 := of_decide_eq_false g1
    exact absurd rfl g1

end Go.Proofs.YtieccphckobhjaaDoor
