/- Abstract values: own maps; closures that captured own cells; cells that are frozen; nil slices in own cells. No statement of the seat. -/
import Derived.Test.YtajghehicmlajaaDoorA21
import Derived.MapKept
import Derived.Carry
namespace Go.Proofs.YtajghehicmlajaaDoor
open Go.RowKit Go.MapKept
set_option linter.unusedVariables false

/-- m[key] = d: what the map holds then. -/
def MPut (M : List (Value × D)) (key : Value) (d : D) (M' : List (Value × D)) : Prop :=
  (∃ i d0, M[i]? = some (key, d0) ∧ (∀ (j : Nat) (p : Value × D), M[j]? = some p → p.1 = key → j = i) ∧ M' = M.set i (key, d)) ∨ ((∀ p ∈ M, p.1 ≠ key) ∧ M' = M ++ [(key, d)])
/-- m[key]; z: the zero value. -/
def MGet (M : List (Value × D)) (key : Value) (z d : D) : Prop := (∃ i, M[i]? = some (key, d) ∧ ∀ (j : Nat) (p : Value × D), M[j]? = some p → p.1 = key → j = i) ∨ ((∀ p ∈ M, p.1 ≠ key) ∧ d = z)

theorem entries_get {F : Nat → Prop} {w : World} {M : List (Value × D)} {es : Array MapEntry} (hl : es.size = M.length) (h : ∀ i (h : i < es.size) (h' : i < M.length), es[i].key = M[i].1 ∧ Rep F w es[i].val M[i].2) {j : Nat} {en : MapEntry} (hj : es.toList[j]? = some en) :
    ∃ p, M[j]? = some p ∧ en.key = p.1 ∧ Rep F w en.val p.2 := by
  rw [Array.getElem?_toList] at hj
  obtain ⟨h1, h2⟩ := Array.getElem?_eq_some_iff.1 hj
  refine ⟨M[j]'(by omega), List.getElem?_eq_getElem _, ?_, ?_⟩
  · rw [← h2]; exact (h j h1 (by omega)).1
  · rw [← h2]; exact (h j h1 (by omega)).2
theorem entries_keys {F : Nat → Prop} {w : World} {M : List (Value × D)} {es : Array MapEntry} {kd : TypeDesc} (hl : es.size = M.length) (h : ∀ i (h : i < es.size) (h' : i < M.length), es[i].key = M[i].1 ∧ Rep F w es[i].val M[i].2) (hg : ∀ p ∈ M, IsKey kd p.1) : ∀ x ∈ es.toList, IsKey kd x.key := fun x hx => by
  obtain ⟨j, hj⟩ := List.mem_iff_getElem?.1 hx
  obtain ⟨p, h1, h2, _⟩ := entries_get hl h hj
  rw [h2]; exact hg p (List.mem_of_getElem? h1)
theorem setObj_turn {w : World} {b : Nat} {o : Obj} : Turn w { w with heap := w.heap.setIfInBounds b o } (some b) :=
  ⟨rfl, rfl, rfl, by simp, fun k _ hne => by
    have : b ≠ k := fun h => hne (by rw [h])
    simp [this]⟩
section
variable {cx : Cx} {ops : Array Oper} {o : Oper} {rest : List Oper} {e : Env} {σ σ' : Obs} {Q : Post}
theorem AOps.eff (hg : o.guard = none) (ht : o.dst = none) (h : EOp cx ops o e σ σ') (k : AOps cx ops rest e σ' Q) : AOps cx ops (o :: rest) e σ Q := by
  intro a w ⟨F, ρ, hr⟩
  refine wpList_plain hg fun K hK => ?_
  refine wp_to ?_ (fun _ _ _ => False.elim) (h F ρ a w e hr (fun t _ => hr.env t))
  rintro a' w' ⟨rfl, h3⟩
  obtain ⟨F', ρ', h4⟩ := h3 e hr
  exact hK _ _ (k _ _ ⟨F', ρ', h4⟩)
theorem EOp.mapUpdate {t k et : TypeId} {id : Nat} {m x v : Operand} {key : Value} {d : D} {M M' : List (Value × D)} {kd : TypeDesc} (hdst : o.dst = none) (ho : o.op = .mapUpdate t m x v) (ht : cx.P.underlying t = some (.map k et)) (hk : cx.P.underlying k = some kd) (hm : e.ev m = .own id) (hmem : (id, Ob.map M) ∈ σ)
    (hx : e.ev x = .d (.v key)) (hv : e.ev v = .d d) (hg : IsKey kd key) (hgs : ∀ p ∈ M, IsKey kd p.1) (hp : MPut M key d M') : EOp cx ops o e σ (Obs.upd id (.map M') σ) := by
  intro F ρ a w e0 hr ha
  have hop : ∀ y ∈ o.op.operands.toList, RepS F ρ w (a.eval y) (e.ev y) := fun y hy => ev_rep fun t ht => ha t (looks_op (by rw [← ht]; exact hy))
  have r1 := hop m (by rw [ho]; simp [Op.operands])
  have r2 := hop x (by rw [ho]; simp [Op.operands])
  have r3 := hop v (by rw [ho]; simp [Op.operands])
  rw [hm] at r1
  rw [hx] at r2
  rw [hv] at r3
  obtain ⟨b, es, clock, hρ, hB, hF, hh, hl, hall⟩ := hr.obs.ok _ hmem
  dsimp only at hρ
  have hmv : a.eval m = .map (some b) := by rw [← hρ]; generalize a.eval m = u at r1; cases r1; rfl
  have hxv := repS_v r2
  have r3' := repS_d r3
  have hks := entries_keys hl hall hgs
  have hblk : blk (ρ id) = some b := by rw [hρ]; rfl
  unfold Oper.wp execOp
  simp only [ho, hmv, hxv]
  rcases MapKept.findNow_spec hg es.toList 0 hks with ⟨h1, h2⟩ | ⟨j, en, h1, h2, h3⟩
  · have hrun : (Instr.mapUpdate t (.map (some b)) key (a.eval v)).run cx.P w = .ok () { w with heap := w.heap.setIfInBounds b (.map (es.push { key := key, val := a.eval v, born := clock }) (clock + 1)) } := by
      simp [Instr.mapUpdate, run_underlying ht, MapKept.run_getObj_map hh, MapKept.run_checkKey hk hg, MapKept.run_findKey hk h1, MapKept.run_setObj_map _ hh, Result.andThen]
    rw [Sem.run_bind, hrun]
    refine ⟨by rw [hdst]; rfl, fun e2 hr2 => ⟨F, ρ, hr2.writeOb hblk hmem hB hF setObj_turn ?_⟩⟩
    have hM' : M' = M ++ [(key, d)] := by
      rcases hp with ⟨i, d0, hi, _, _⟩ | ⟨_, hM'⟩
      · exfalso
        have hil : i < M.length := (List.getElem?_eq_some_iff.1 hi).1
        have h4 := (hall i (by omega) hil).1
        have h5 : M[i] = (key, d0) := (List.getElem?_eq_some_iff.1 hi).2
        rw [h5] at h4
        exact h2 es[i] (by simp) h4
      · exact hM'
    have hkeep : ∀ {u : Value} {y : D}, Rep F w u y → Rep F { w with heap := w.heap.setIfInBounds b (.map (es.push { key := key, val := a.eval v, born := clock }) (clock + 1)) } u y := fun h => h.mono (fun _ h => h) fun c hc => by
      have : b ≠ c := fun h => hF (by rw [h]; exact hc)
      simp [this]
    subst hM'
    refine ⟨b, _, _, hρ, hB, hF, (MapKept.heap_set hh).1, by simp [hl], fun i hi hi' => ?_⟩
    by_cases hc : i < es.size
    · have hc' : i < M.length := by omega
      rw [Array.getElem_push_lt hc, List.getElem_append_left hc']
      exact ⟨(hall i hc hc').1, hkeep (hall i hc hc').2⟩
    · have : i = es.size := by simp at hi; omega
      subst this
      rw [Array.getElem_push_eq, List.getElem_append_right (by omega)]
      simp only [hl, Nat.sub_self, List.getElem_cons_zero]
      exact ⟨trivial, hkeep r3'⟩
  · have hjs : j < es.size := by simpa using (List.getElem?_eq_some_iff.1 h2).1
    have hej : es[j] = en := by have := (List.getElem?_eq_some_iff.1 h2).2; simpa using this
    have hrun : (Instr.mapUpdate t (.map (some b)) key (a.eval v)).run cx.P w = .ok () { w with heap := w.heap.setIfInBounds b (.map (es.modify j fun e => { e with key := key, val := a.eval v }) clock) } := by
      have h0 : ((es[j]?).map (·.key)).getD key = key := by rw [Array.getElem?_eq_getElem hjs, hej]; simp [h3]
      simp only [Nat.zero_add] at h1
      simp only [Instr.mapUpdate, run_underlying ht, Sem.run_bind, Result.andThen_ok, MapKept.run_getObj_map hh, MapKept.run_checkKey hk hg, MapKept.run_findKey hk h1, h0, MapKept.run_keyThatStays hg, MapKept.run_setObj_map _ hh]
    rw [Sem.run_bind, hrun]
    refine ⟨by rw [hdst]; rfl, fun e2 hr2 => ⟨F, ρ, hr2.writeOb hblk hmem hB hF setObj_turn ?_⟩⟩
    have hjl : j < M.length := by omega
    have hkj : M[j].1 = key := by rw [← (hall j hjs hjl).1, hej]; exact h3
    have hM' : M' = M.set j (key, d) := by
      rcases hp with ⟨i, d0, hi, hu, hM'⟩ | ⟨hno, _⟩
      · have := hu j M[j] (List.getElem?_eq_getElem hjl) hkj
        rw [this]; exact hM'
      · exact absurd hkj (hno _ (List.getElem_mem hjl))
    have hkeep : ∀ {u : Value} {y : D}, Rep F w u y → Rep F { w with heap := w.heap.setIfInBounds b (.map (es.modify j fun e => { e with key := key, val := a.eval v }) clock) } u y := fun h => h.mono (fun _ h => h) fun c hc => by
      have : b ≠ c := fun h => hF (by rw [h]; exact hc)
      simp [this]
    subst hM'
    refine ⟨b, _, _, hρ, hB, hF, (MapKept.heap_set hh).1, by simp [hl], fun i hi hi' => ?_⟩
    have hc : i < es.size := by simpa using hi
    have hc' : i < M.length := by omega
    rw [Array.getElem_modify, List.getElem_set]
    by_cases hij : j = i
    · rw [if_pos hij, if_pos hij]
      exact ⟨rfl, hkeep r3'⟩
    · rw [if_neg hij, if_neg hij]
      exact ⟨(hall i hc hc').1, hkeep (hall i hc hc').2⟩
/-- make(map[K]V) -/
theorem AOps.makeMap {t dst : Nat} (id : Nat) (hg : o.guard = none) (ht : o.dst = some dst) (hdn : Nat.blt dst cx.N = true) (ho : o.op = .makeMap t none) (hid : Obs.fresh id σ = true)
    (k : AOps cx ops rest ((e.kill id).put (some dst) (.own id)) ((id, .map []) :: Obs.kill id σ) Q) (hfx : cx.free id = true := by rfl) : AOps cx ops (o :: rest) e σ Q := by
  intro a w ⟨F, ρ, h⟩
  refine wpList_plain hg fun K hK => ?_
  unfold Oper.wp execOp
  simp only [ho, Option.map_none, Sem.run_bind, run_makeMap, Result.andThen_ok, Sem.run_pure]
  refine hK _ _ (k _ _ ⟨F, fun j => if j = id then .map (some w.heap.size) else ρ j, ?_⟩)
  have hE : Ext F w F (w.alloc (.map #[] 0)) := Ext.of_below h.lt ((Below.refl _ _).alloc (Nat.le_refl _) _)
  have h2 := h.turn (ρ' := fun j => if j = id then .map (some w.heap.size) else ρ j) (id := id) (ob := .map []) (row := none) (w' := w.alloc (.map #[] 0)) (F' := F) (fun j hj => by simp [hj])
    ⟨hE.below.os, hE.below.tape, hE.below.output, hE.below.size, fun k hk _ => hE.below.block k hk⟩ hfx (fun g hg => by simp at hg) (fun b hb => hb) (fun b hb => .inl hb) hE.lt
    ⟨w.heap.size, #[], 0, by simp, h.hB, fun hf => by have := h.lt _ hf; omega, (MapKept.heap_alloc w _).1, rfl, fun i hi => by simp at hi⟩
    (fun g hg => by simp [blk] at hg; exact .inr (by omega)) ((id, .map []) :: Obs.kill id σ) (fun p hp => by
      cases hp with
      | head => exact .inl rfl
      | tail _ hp => obtain ⟨q, hq, rfl⟩ := Obs.mem_kill hp; exact .inr ⟨q, hq, Obs.fresh_spec hid q hq, rfl⟩)
  have h3 := h2.put (o := ⟨some dst, .ready 0, 0, "", #[], none⟩) (v := .map (some w.heap.size)) (s := .own id) (Ext.refl h2.lt) (by
    have := RepS.own (F := F) (ρ := fun j => if j = id then Value.map (some w.heap.size) else ρ j) (w := w.alloc (.map #[] 0)) id
    simpa using this) (by simpa [DstOk, Nat.blt_eq] using hdn)
  rw [ht]
  exact h3
end
section
variable {P : Program} {B : Nat} {ops : Array Oper} {o : Oper} {e : Env} {σ : Obs}
theorem AOp.lenMap {x : Operand} {t k et : TypeId} {id : Nat} {M : List (Value × D)} (ho : o.op = .call { callee := .builtin .len, args := #[x], argTypes := #[t] }) (ht : P.underlying t = some (.map k et)) (hx : e.ev x = .own id) (hm : (id, Ob.map M) ∈ σ) :
    AOp P B ops o e σ (.d (.v (.int .i64 (M.length : Int)))) := .value fun F ρ w a hF hr hσ => by
  have h1 := hr x (by rw [ho]; simp [Op.operands, Call.operands])
  rw [hx] at h1
  obtain ⟨b, es, clock, hρ, hB, hFb, hh, hl, _⟩ := hσ.ok _ hm
  dsimp only at hρ
  have hv : a.eval x = .map (some b) := by rw [← hρ]; generalize a.eval x = u at h1; cases h1; rfl
  refine ⟨.int .i64 (M.length : Int), F, w, ?_, .d (.v _), Ext.refl hF⟩
  unfold execOp
  simp only [ho, resolve, invoke, builtin, Sem.run_bind, Sem.run_pure, Result.andThen_ok, List.map_toArray, List.map_cons, List.map_nil, hv]
  simp [Builtin.len_, run_underlying ht, MapKept.run_getObj_map hh, Result.andThen, hl, goInt]
theorem AOp.lookup {x ix : Operand} {t k et : TypeId} {id : Nat} {M : List (Value × D)} {key z : Value} {d : D} {kd : TypeDesc} (ho : o.op = .lookup t x ix false) (ht : P.underlying t = some (.map k et)) (hk : P.underlying k = some kd) (hz : (P.info? et).bind (·.zero) = some z) (hx : e.ev x = .own id) (hm : (id, Ob.map M) ∈ σ)
    (hi : e.ev ix = .d (.v key)) (hg : IsKey kd key) (hgs : ∀ p ∈ M, IsKey kd p.1) (hd : MGet M key (.v z) d) : AOp P B ops o e σ (.d d) := .value fun F ρ w a hF hr hσ => by
  have h1 := hr x (by rw [ho]; simp [Op.operands])
  have h2 := hr ix (by rw [ho]; simp [Op.operands])
  rw [hx] at h1
  rw [hi] at h2
  obtain ⟨b, es, clock, hρ, hB, hFb, hh, hl, hall⟩ := hσ.ok _ hm
  dsimp only at hρ
  have hv : a.eval x = .map (some b) := by rw [← hρ]; generalize a.eval x = u at h1; cases h1; rfl
  have hks := entries_keys hl hall hgs
  obtain ⟨ti, hti, hzz⟩ := Option.bind_eq_some_iff.1 hz
  have hprog : (program : Sem Program).run P w = .ok P w := rfl
  rcases MapKept.findNow_spec hg es.toList 0 hks with ⟨h3, h4⟩ | ⟨j, en, h3, h4, h5⟩
  · refine ⟨z, F, w, ?_, ?_, Ext.refl hF⟩
    · unfold execOp
      simp only [ho, hv, repS_v h2, Sem.run_bind]
      simp [Instr.lookup, run_underlying ht, MapKept.run_getObj_map hh, MapKept.run_checkKey hk hg, MapKept.run_findKey hk h3, zeroValue, typeInfo, hti, hzz, Result.andThen]
    · rcases hd with ⟨i, hi2, _⟩ | ⟨_, rfl⟩
      · exfalso
        have hil : i < M.length := (List.getElem?_eq_some_iff.1 hi2).1
        have h6 := (hall i (by omega) hil).1
        rw [(List.getElem?_eq_some_iff.1 hi2).2] at h6
        exact h4 es[i] (by simp) h6
      · exact .d (.v _)
  · have hjs : j < es.size := by simpa using (List.getElem?_eq_some_iff.1 h4).1
    have hej : es[j] = en := by have := (List.getElem?_eq_some_iff.1 h4).2; simpa using this
    have hjl : j < M.length := by omega
    refine ⟨en.val, F, w, ?_, ?_, Ext.refl hF⟩
    · unfold execOp
      simp only [ho, hv, repS_v h2, Sem.run_bind]
      simp only [Nat.zero_add] at h3
      simp [Instr.lookup, run_underlying ht, MapKept.run_getObj_map hh, MapKept.run_checkKey hk hg, MapKept.run_findKey hk h3, Result.andThen]
    · have hkj : M[j].1 = key := by rw [← (hall j hjs hjl).1, hej]; exact h5
      rcases hd with ⟨i, hi2, hu⟩ | ⟨hno, _⟩
      · have := hu j M[j] (List.getElem?_eq_getElem hjl) hkj
        subst this
        have h6 := (hall j hjs hjl).2
        rw [(List.getElem?_eq_some_iff.1 hi2).2, hej] at h6
        exact .d h6
      · exact absurd hkj (hno _ (List.getElem_mem hjl))
/-! Closures. -/
def CapsOk (e : Env) : List Operand → List Cap → Prop
  | [], [] => True
  | x :: xs, .p id off :: cs => e.ev x = .ptr id off ∧ CapsOk e xs cs
  | x :: xs, .d y :: cs => e.ev x = .d y ∧ CapsOk e xs cs
  | _, _ => False
theorem CapsOk.nil : CapsOk e [] [] := trivial
theorem CapsOk.p {x : Operand} {xs : List Operand} {id off : Nat} {cs : List Cap} (h : e.ev x = .ptr id off) (k : CapsOk e xs cs) : CapsOk e (x :: xs) (.p id off :: cs) := ⟨h, k⟩
theorem CapsOk.d {x : Operand} {xs : List Operand} {y : D} {cs : List Cap} (h : e.ev x = .d y) (k : CapsOk e xs cs) : CapsOk e (x :: xs) (.d y :: cs) := ⟨h, k⟩
theorem CapsOk.rep {F : Nat → Prop} {ρ : Nat → Value} {w : World} {a : Act} : ∀ {xs : List Operand} {cs : List Cap}, CapsOk e xs cs → (∀ x ∈ xs, RepS F ρ w (a.eval x) (e.ev x)) → RepCL F ρ w (xs.map a.eval) cs
  | [], [], _, _ => trivial
  | x :: xs, .p id off :: cs, h, ha => by
    refine ⟨?_, CapsOk.rep h.2 fun y hy => ha y (List.mem_cons_of_mem _ hy)⟩
    have h1 := ha x (by simp)
    rw [h.1] at h1
    generalize a.eval x = v at h1
    cases h1 with
    | ptr _ _ g hg => exact .p id off g hg
  | x :: xs, .d y :: cs, h, ha => by
    refine ⟨?_, CapsOk.rep h.2 fun y hy => ha y (List.mem_cons_of_mem _ hy)⟩
    have h1 := ha x (by simp)
    rw [h.1] at h1
    exact .d (repS_d h1)
  | [], _ :: _, h, _ => h.elim
  | _ :: _, [], h, _ => h.elim
theorem AOp.makeClo {f : FuncId} {cs : List Operand} {caps : List Cap} (ho : o.op = .makeFunc (.func f) #[] cs.toArray) (hc : CapsOk e cs caps) : AOp P B ops o e σ (.clo f caps) := .value fun F ρ w a hF hr hσ => by
  refine ⟨.func (.func f) #[] (cs.map a.eval).toArray, F, w, ?_, .clo f _ caps (hc.rep fun x hx => hr x (by rw [ho]; simp [Op.operands, hx])), Ext.refl hF⟩
  unfold execOp
  simp only [ho]
  simp [Instr.makeFunc]
theorem AOp.moveC {x : Operand} {f : FuncId} {caps : List Cap} (ho : o.op = .move x) (hx : e.ev x = .clo f caps) : AOp P B ops o e σ (.clo f caps) := hx ▸ .move ho
theorem AOp.assignC {x : Operand} {f : FuncId} {caps : List Cap} (ho : o.op = .assign x) (hx : e.ev x = .clo f caps) : AOp P B ops o e σ (.clo f caps) := hx ▸ .assign ho
end
def Cap.toS : Cap → S
  | .p id off => .ptr id off
  | .d y => .d y
theorem RepCL.toS {F : Nat → Prop} {ρ : Nat → Value} {w : World} : ∀ {cs : List Value} {caps : List Cap}, RepCL F ρ w cs caps → RepSL F ρ w cs (caps.map Cap.toS)
  | [], [], _ => ⟨rfl, fun i h => absurd h (by simp)⟩
  | x :: xs, c :: cs, h => by
    have h1 := RepCL.toS h.2
    refine ⟨by simpa using h1.1, fun i h2 h3 => ?_⟩
    cases i with
    | zero =>
      have h4 := h.1
      cases c with
      | p id off => cases h4 with | p _ _ g hg => exact .ptr id off g hg
      | d y => cases h4 with | d h4 => exact .d h4
    | succ i => exact h1.2 i (by simpa using h2) (by simpa using h3)
  | [], _ :: _, h => h.elim
  | _ :: _, [], h => h.elim
theorem RepSL.append {F : Nat → Prop} {ρ : Nat → Value} {w : World} {vs vs' : List Value} {ss ss' : List S} (h : RepSL F ρ w vs ss) (k : RepSL F ρ w vs' ss') : RepSL F ρ w (vs ++ vs') (ss ++ ss') := by
  refine ⟨by simp [h.1, k.1], fun i h1 h2 => ?_⟩
  by_cases hi : i < vs.length
  · rw [List.getElem_append_left hi, List.getElem_append_left (by rw [← h.1]; exact hi)]
    exact h.2 _ _ _
  · rw [List.getElem_append_right (by omega), List.getElem_append_right (by rw [← h.1]; omega)]
    simp only [← h.1]
    exact k.2 _ _ _
section
variable {cx : Cx} {ops : Array Oper} {o : Oper} {rest : List Oper} {e : Env} {σ : Obs} {Q : Post}
/-- A call of such a closure. -/
theorem AOps.callXC {f : FuncId} {x : Operand} {caps : List Cap} {xs : List Operand} {ts : Array TypeId} {ss : List S} {σc σ' : Obs} {chg : Nat → Bool} {d : D} (hg : o.guard = none) (hd : DstOk cx.N o)
    (ho : o.op = .call { callee := .value x, args := xs.toArray, argTypes := ts }) (hx : e.ev x = .clo f caps) (ha : ArgsS e xs ss) (h : XCall cx.P f (ss ++ caps.map Cap.toS) σc σ' chg d) (hin : AllIn σ σc)
    (h1 : Obs.allIds (fun i => !(chg i)) (Obs.dels σc σ) = true) (h2 : Obs.allIds (fun i => Obs.allIds (fun j => !(Nat.beq i j)) (Obs.dels σc σ)) σ' = true) (h3 : ∀ i, chg i = true → cx.fixp i = false)
    (k : AOps cx ops rest ((e.killP chg).put o.dst (.d d)) (Obs.join σ' (Obs.killP chg (Obs.dels σc σ))) Q) : AOps cx ops (o :: rest) e σ Q := by
  intro a w ⟨F, ρ, hr⟩
  have hc := ev_rep (e := e) (x := x) (a := a) (fun t _ => hr.env t)
  rw [hx] at hc
  generalize hv : a.eval x = v at hc
  cases hc with
  | clo _ cs _ hcs =>
    have h4 := h.2 F ρ cx.B w _ hr.lt hr.hB (hr.obs.sub hin.mem) ((ArgsS.rep hr.env ha).append hcs.toS)
    have h5 := h.1 (xs.map a.eval ++ cs).toArray w
    have hx : (execOp a.eval o).run cx.P w = .ok (.enter f (xs.map a.eval ++ cs).toArray) w := by
      unfold execOp
      simp only [ho, resolve, Deferred.ofValue, hv, invoke, Sem.run_bind, Sem.run_pure, Result.andThen_ok]
      simpa using h5
    refine wpList_plain hg fun K hK => ?_
    unfold Oper.wp
    rw [hx]
    refine h4.mono fun _ w' ⟨v, F', ρ', he, hv, hE⟩ => ?_
    subst he
    exact hK _ _ (k _ _ ⟨F', ρ', (hr.after hin.mem hE h1 h2 h3).put (Ext.refl hE.lt) (.d hv) hd⟩)
end
/-! Cells. -/
theorem mem_ob_eq {id : Nat} {o o' : Ob} {σ : Obs} (h : (id, o) ∈ σ) (hd : o = o') : (id, o') ∈ σ := hd ▸ h
theorem R0.recell {cx : Cx} {F : Nat → Prop} {ρ : Nat → Value} {e : Env} {σ : Obs} {a : Act} {w : World} (hr : R0 cx F ρ e σ a w) {id off : Nat} {ss : List S} {s s' : S} (hm : (id, Ob.cells ss) ∈ σ) (hs : ss[off]? = some s) (h : ∀ x, RepS F ρ w x s → RepS F ρ w x s') :
    R0 cx F ρ e (Obs.upd id (.cells (ss.set off s')) σ) a w := by
  obtain ⟨g, ty, cs, h2, h3, h4, h5, h6, h7⟩ := hr.obs.ok _ hm
  dsimp only at h2
  refine hr.writeOb (g := g) (by rw [h2]; rfl) hm h3 h4 ⟨rfl, rfl, rfl, Nat.le_refl _, fun _ _ _ => rfl⟩ ⟨g, ty, cs, h2, h3, h4, h5, by simp [h6], fun j hj hj' => ⟨(h7 j hj (by simpa using hj')).1, ?_⟩⟩
  rw [List.getElem_set]
  by_cases hj2 : off = j
  · rw [if_pos hj2]
    subst hj2
    have h8 := (h7 off hj (by simpa using hj')).2
    rw [(List.getElem?_eq_some_iff.1 hs).2] at h8
    exact h _ h8
  · rw [if_neg hj2]
    exact (h7 j hj (by simpa using hj')).2
theorem R0.setSlot' {cx : Cx} {F : Nat → Prop} {ρ : Nat → Value} {e : Env} {σ : Obs} {a : Act} {w : World} {t : Nat} {s : S} (h : R0 cx F ρ (e.put (some t) s) σ a w) : R0 cx F ρ (e.put (some t) (.d .any)) σ a w := by
  have h1 := h.setSlot (t := t) (s := .d .any) (.d (.any _))
  have : ((e.put (some t) s).put (some t) (.d .any)) = e.put (some t) (.d .any) := by
    funext u
    by_cases hu : u = t
    · subst hu; rw [Env.put_same, Env.put_same]
    · rw [Env.put_other _ _ _ _ hu, Env.put_other _ _ _ _ hu, Env.put_other _ _ _ _ hu]
  rwa [this] at h1
/-- A nil slice in an own cell, taken for an own row of nothing. -/
theorem R0.adoptCell {cx : Cx} {F : Nat → Prop} {ρ : Nat → Value} {e : Env} {σ : Obs} {a : Act} {w : World} (h : R0 cx F ρ e σ a w) {id off : Nat} {ss : List S} (id2 ee size : Nat) (hm : (id, Ob.cells ss) ∈ σ) (hs : ss[off]? = some (.d (.v (.slice none 0 0)))) (hid : ∀ p ∈ σ, p.1 ≠ id2) (hfx : cx.free id2 = true) :
    ∃ ρ', R0 cx F ρ' (e.kill id2) (Obs.upd id (.cells ((ss.map (S.kill id2)).set off (.own id2))) ((id2, .row ee size []) :: Obs.kill id2 σ)) a w := by
  refine ⟨fun j => if j = id2 then .slice none 0 0 else ρ j, ?_⟩
  have h1 := h.turn (ρ' := fun j => if j = id2 then .slice none 0 0 else ρ j) (id := id2) (ob := .row ee size []) (row := none) (w' := w) (F' := F) (fun j hj => by simp [hj])
    ⟨rfl, rfl, rfl, Nat.le_refl _, fun _ _ _ => rfl⟩ hfx (fun g hg => by simp at hg) (fun b hb => hb) (fun b hb => .inl hb) h.lt
    ⟨fun _ _ => undef, by simp [World.ownsRow], fun i hi => by simp at hi, fun i hi => by simp at hi, fun g hg => by simp [blk] at hg⟩ (fun g hg => by simp [blk] at hg) ((id2, .row ee size []) :: Obs.kill id2 σ) (fun p hp => by
      cases hp with
      | head => exact .inl rfl
      | tail _ hp => obtain ⟨q, hq, rfl⟩ := Obs.mem_kill hp; exact .inr ⟨q, hq, hid q hq, rfl⟩)
  have hmk : ∀ {σ : Obs}, (id, Ob.cells ss) ∈ σ → (id, Ob.cells (ss.map (S.kill id2))) ∈ Obs.kill id2 σ := by
    intro σ hh
    induction σ with
    | nil => cases hh
    | cons p l ih =>
      cases hh with
      | head => exact .head _
      | tail _ hh => exact .tail _ (ih hh)
  refine h1.recell (s := .d (.v (.slice none 0 0))) (.tail _ (hmk hm)) (by rw [List.getElem?_map, hs]; rfl) fun x hx => ?_
  rw [repS_v hx]
  have := RepS.own (F := F) (ρ := fun j => if j = id2 then Value.slice none 0 0 else ρ j) (w := w) id2
  simpa using this
theorem AWP.adoptCell {cx : Cx} {c : Code} {e : Env} {σ : Obs} {Q : Post} (id2 ee size id off : Nat) {ss : List S} (hm : (id, Ob.cells ss) ∈ σ) (hs : ss[off]? = some (.d (.v (.slice none 0 0)))) (hid : Obs.fresh id2 σ = true)
    (k : AWP cx c (e.kill id2) (Obs.upd id (.cells ((ss.map (S.kill id2)).set off (.own id2))) ((id2, .row ee size []) :: Obs.kill id2 σ)) Q) (hfx : cx.free id2 = true := by rfl) : AWP cx c e σ Q := fun a w ⟨_, _, hr⟩ => by
  obtain ⟨ρ', h⟩ := hr.adoptCell id2 ee size hm hs (Obs.fresh_spec hid) hfx
  exact k a w ⟨_, ρ', h⟩
theorem AOps.adoptCell {cx : Cx} {ops : Array Oper} {rest : List Oper} {e : Env} {σ : Obs} {Q : Post} (id2 ee size id off : Nat) {ss : List S} (hm : (id, Ob.cells ss) ∈ σ) (hs : ss[off]? = some (.d (.v (.slice none 0 0)))) (hid : Obs.fresh id2 σ = true)
    (k : AOps cx ops rest (e.kill id2) (Obs.upd id (.cells ((ss.map (S.kill id2)).set off (.own id2))) ((id2, .row ee size []) :: Obs.kill id2 σ)) Q) (hfx : cx.free id2 = true := by rfl) : AOps cx ops rest e σ Q := fun a w ⟨_, _, hr⟩ => by
  obtain ⟨ρ', h⟩ := hr.adoptCell id2 ee size hm hs (Obs.fresh_spec hid) hfx
  exact k a w ⟨_, ρ', h⟩
/-- An own block of cells that is written no more: it is data now. -/
theorem R0.freezeCells {cx : Cx} {F : Nat → Prop} {ρ : Nat → Value} {e : Env} {σ : Obs} {a : Act} {w : World} (h : R0 cx F ρ e σ a w) {t id : Nat} {ds : List D} (ht : e t = .ptr id 0) (hm : (id, Ob.cells (ds.map S.d)) ∈ σ) :
    ∃ F', R0 cx F' ρ (e.put (some t) (.d (.fp ds))) (Obs.del id σ) a w := by
  have hF2 : ∀ b, (F b ∨ blk (ρ id) = some b) → b < w.heap.size := fun b hb => by
    rcases hb with hb | hb
    · exact h.lt b hb
    · exact ((h.obs.ok _ hm).blk_lt hb).2
  have keep : ∀ {x : Value} {s : S}, RepS F ρ w x s → RepS (fun b => F b ∨ blk (ρ id) = some b) ρ w x s := fun hx =>
    RepS.turn (row := none) hx h.lt (fun g hg => by simp at hg) ⟨rfl, rfl, rfl, Nat.le_refl _, fun _ _ _ => rfl⟩ (fun b hb => .inl hb)
  refine ⟨fun b => F b ∨ blk (ρ id) = some b, h.size, h.defers, hF2, fun b hb => .inl (h.base b hb), fun b hb => ?_, h.below, h.hB, fun u => ?_, ?_, h.up, fun p hp => h.kown p (Obs.mem_del hp).1, h.fixed⟩
  · rcases hb with hb | hb
    · exact h.new b hb
    · exact .inr (h.kown _ hm b hb)
  · by_cases hu : u = t
    · subst hu
      rw [Env.put_same]
      have h1 := h.env u
      rw [ht] at h1
      obtain ⟨g, ty, cs, h2, h3, h4, h5, h6, h7⟩ := h.obs.ok _ hm
      dsimp only at h2
      have hv := ptr_at h1 (g := g) (by rw [h2]; rfl)
      rw [hv]
      refine .d (.fp ⟨g, 0, none⟩ ds (fun j => cs.getD j undef) (.inr (by rw [h2]; rfl)) (fun j hj => ?_) (fun j hj => ?_) (fun j hj => ?_))
      · have hjc : j < cs.length := by simp at h6; omega
        rw [addr_add, cell_of_row w g (0 + j) cs.toArray ty (0, 0) h5]
        simp [hjc]
      · have hjc : j < cs.length := by simp at h6; omega
        have := (h7 j hjc (by simpa using hj)).1
        simpa [hjc] using this
      · have hjc : j < cs.length := by simp at h6; omega
        have h8 := (h7 j hjc (by simpa using hj)).2
        rw [List.getElem_map] at h8
        have h9 := repS_d (keep h8)
        simpa [hjc] using h9
    · rw [Env.put_other _ _ _ _ hu]
      exact keep (h.env u)
  · refine ⟨fun p hp => ?_, fun p hp q hq => h.obs.apart p (Obs.mem_del hp).1 q (Obs.mem_del hq).1, fun p hp q hq => h.obs.uniq p (Obs.mem_del hp).1 q (Obs.mem_del hq).1⟩
    obtain ⟨h1, h2⟩ := Obs.mem_del hp
    exact (h.obs.ok p h1).more h.lt (fun b hb => .inl hb) fun g hg hf => by
      rcases hf with hf | hf
      · exact (h.obs.ok p h1).nF hg hf
      · exact h.obs.apart p h1 _ hm h2 g hg hf
theorem AWP.freezeCells {cx : Cx} {c : Code} {e : Env} {σ : Obs} {Q : Post} (t : Nat) {id : Nat} {ds : List D} (ht : e t = .ptr id 0) (hm : (id, Ob.cells (ds.map S.d)) ∈ σ) (k : AWP cx c (e.put (some t) (.d (.fp ds))) (Obs.del id σ) Q) : AWP cx c e σ Q :=
  fun a w ⟨_, ρ, hr⟩ => by
    obtain ⟨F', h⟩ := hr.freezeCells ht hm
    exact k a w ⟨F', ρ, h⟩
theorem AOps.freezeCells {cx : Cx} {ops : Array Oper} {rest : List Oper} {e : Env} {σ : Obs} {Q : Post} (t : Nat) {id : Nat} {ds : List D} (ht : e t = .ptr id 0) (hm : (id, Ob.cells (ds.map S.d)) ∈ σ) (k : AOps cx ops rest (e.put (some t) (.d (.fp ds))) (Obs.del id σ) Q) : AOps cx ops rest e σ Q :=
  fun a w ⟨_, ρ, hr⟩ => by
    obtain ⟨F', h⟩ := hr.freezeCells ht hm
    exact k a w ⟨F', ρ, h⟩
end Go.Proofs.YtajghehicmlajaaDoor
