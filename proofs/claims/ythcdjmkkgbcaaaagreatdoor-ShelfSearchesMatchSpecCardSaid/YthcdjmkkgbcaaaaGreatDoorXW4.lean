/- Walks and laws over abstract values, merged by tools/merge.py. No statement of the seat. -/
import Derived.Maps.RangeRun
import Derived.Test.YthcdjmkkgbcaaaaGreatDoorXW3

namespace Go.Proofs.YthcdjmkkgbcaaaaGreatDoor
open Go.RowKit Go.MapKept
set_option linter.unusedVariables false
set_option linter.unusedSimpArgs false

/-- What reads so is exactly this value. -/
def DExact (kd : D) (key : Value) : Prop := ∀ F w v, Rep F w v kd → v = key
theorem DExact.v (x : Value) : DExact (.v x) x := fun _ _ _ h => rep_v h
theorem DExact.agg2 (k1 k2 : Value) : DExact (.agg [.v k1, .v k2]) (.agg #[k1, k2]) := fun _ _ _ h => rep_agg2 h
section
variable {cx : Cx} {ops : Array Oper} {o : Oper} {rest : List Oper} {e : Env} {σ σ' : Obs} {Q : Post} {P : Program} {B : Nat}
theorem EOp.mapUpdateX {t k et : TypeId} {id : Nat} {m x v : Operand} {key : Value} {d kd : D} {M M' : List (Value × D)}  (hdst : o.dst = none) (ho : o.op = .mapUpdate t m x v) (ht : cx.P.underlying t = some (.map k et)) (K : Maps.Keyed cx.P k) (hm : e.ev m = .own id) (hmem : (id, Ob.map M) ∈ σ)
    (hx : e.ev x = .d kd) (hke : DExact kd key) (hv : e.ev v = .d d) (hg : ∃ l, keyOf cx.P k key = some l) (hgs : ∀ p ∈ M, ∃ l, keyOf cx.P k p.1 = some l) (hp : MPut M key d M') : EOp cx ops o e σ (Obs.upd id (.map M') σ) := by
  intro F ρ a w e0 hr ha
  have hop : ∀ y ∈ o.op.operands.toList, RepS F ρ w (a.eval y) (e.ev y) := fun y hy => ev_rep fun t ht => ha t (looks_op (by rw [← ht]; exact hy))
  have r1 := hop m (by rw [ho]; simp [Op.operands])
  have r2 := hop x (by rw [ho]; simp [Op.operands])
  have r3 := hop v (by rw [ho]; simp [Op.operands])
  rw [hm] at r1
  rw [hx] at r2
  rw [hv] at r3
  obtain ⟨b, es, clock, hρ, hB, hF, hh, hMC, hall⟩ := hr.obs.ok _ hmem
  have hl := hMC.size
  dsimp only at hρ
  have hmv : a.eval m = .map (some b) := by rw [← hρ]; generalize a.eval m = u at r1; cases r1; rfl
  have hxv := hke _ _ _ (repS_d r2)
  have r3' := repS_d r3
  have hks : ∀ en ∈ es.toList, ∃ l, keyOf cx.P k en.key = some l := fun en hen => by
    obtain ⟨j, hj⟩ := List.mem_iff_getElem?.1 hen
    obtain ⟨p, h1, h2, _⟩ := entries_get hl hall hj
    rw [h2]; exact hgs p (List.mem_of_getElem? h1)
  obtain ⟨kl, hkl⟩ := hg
  have hblk : blk (ρ id) = some b := by rw [hρ]; rfl
  unfold Oper.wp execOp
  simp only [ho, hmv, hxv]
  rcases K.find w hkl es.toList hks with ⟨h1, h2⟩ | ⟨j, en, h1, h2, h3⟩
  · have hrun : (Instr.mapUpdate t (.map (some b)) key (a.eval v)).run cx.P w = .ok () { w with heap := w.heap.setIfInBounds b (.map (es.push { key := key, val := a.eval v, born := clock }) (clock + 1)) } := by
      simp [Instr.mapUpdate, run_underlying ht, MapKept.run_getObj_map hh, K.check w _ hkl, h1, MapKept.run_setObj_map _ hh, Result.andThen]
    rw [Sem.run_bind, hrun]
    refine ⟨by rw [hdst]; rfl, fun e2 hr2 => ⟨F, ρ, hr2.writeOb hblk hmem hB hF setObj_turn ?_⟩⟩
    have hM' : M' = M ++ [(key, d)] := by
      rcases hp with ⟨i, d0, hi, _, _⟩ | ⟨_, hM'⟩
      · exfalso
        have hil : i < M.length := (List.getElem?_eq_some_iff.1 hi).1
        have h4 := (hall i (by omega) hil).1
        have h5 : M[i] = (key, d0) := (List.getElem?_eq_some_iff.1 hi).2
        rw [h5] at h4
        exact h2 es[i] (by simp) h4
      · exact hM'
    have hkeep : ∀ {u : Value} {y : D}, Rep F w u y → Rep F { w with heap := w.heap.setIfInBounds b (.map (es.push { key := key, val := a.eval v, born := clock }) (clock + 1)) } u y := fun h => h.mono (fun _ h => h) fun c hc => by
      have : b ≠ c := fun h => hF (by rw [h]; exact hc)
      simp [this]
    subst hM'
    refine ⟨b, _, _, hρ, hB, hF, (MapKept.heap_set hh).1, by simpa using hMC.push key (a.eval v), fun i hi hi' => ?_⟩
    by_cases hc : i < es.size
    · have hc' : i < M.length := by omega
      rw [Array.getElem_push_lt hc, List.getElem_append_left hc']
      exact ⟨(hall i hc hc').1, hkeep (hall i hc hc').2⟩
    · have : i = es.size := by simp at hi; omega
      subst this
      rw [Array.getElem_push_eq, List.getElem_append_right (by omega)]
      simp only [hl, Nat.sub_self, List.getElem_cons_zero]
      exact ⟨trivial, hkeep r3'⟩
  · have hjs : j < es.size := by simpa using (List.getElem?_eq_some_iff.1 h2).1
    have hej : es[j] = en := by have := (List.getElem?_eq_some_iff.1 h2).2; simpa using this
    have hrun : (Instr.mapUpdate t (.map (some b)) key (a.eval v)).run cx.P w = .ok () { w with heap := w.heap.setIfInBounds b (.map (es.modify j fun e => { e with key := key, val := a.eval v }) clock) } := by
      have h0 : ((es[j]?).map (·.key)).getD key = key := by rw [Array.getElem?_eq_getElem hjs, hej]; simp [h3]
      simp only [Instr.mapUpdate, run_underlying ht, Sem.run_bind, Result.andThen_ok, MapKept.run_getObj_map hh, K.check w _ hkl, h1, h0, K.stays w hkl, MapKept.run_setObj_map _ hh]
    rw [Sem.run_bind, hrun]
    refine ⟨by rw [hdst]; rfl, fun e2 hr2 => ⟨F, ρ, hr2.writeOb hblk hmem hB hF setObj_turn ?_⟩⟩
    have hjl : j < M.length := by omega
    have hkj : M[j].1 = key := by rw [← (hall j hjs hjl).1, hej]; exact h3
    have hM' : M' = M.set j (key, d) := by
      rcases hp with ⟨i, d0, hi, hu, hM'⟩ | ⟨hno, _⟩
      · have := hu j M[j] (List.getElem?_eq_getElem hjl) hkj
        rw [this]; exact hM'
      · exact absurd hkj (hno _ (List.getElem_mem hjl))
    have hkeep : ∀ {u : Value} {y : D}, Rep F w u y → Rep F { w with heap := w.heap.setIfInBounds b (.map (es.modify j fun e => { e with key := key, val := a.eval v }) clock) } u y := fun h => h.mono (fun _ h => h) fun c hc => by
      have : b ≠ c := fun h => hF (by rw [h]; exact hc)
      simp [this]
    subst hM'
    refine ⟨b, _, _, hρ, hB, hF, (MapKept.heap_set hh).1, by rw [List.length_set]; exact hMC.modify _ _ (fun _ => rfl), fun i hi hi' => ?_⟩
    have hc : i < es.size := by simpa using hi
    have hc' : i < M.length := by omega
    rw [Array.getElem_modify, List.getElem_set]
    by_cases hij : j = i
    · rw [if_pos hij, if_pos hij]
      exact ⟨rfl, hkeep r3'⟩
    · rw [if_neg hij, if_neg hij]
      exact ⟨(hall i hc hc').1, hkeep (hall i hc hc').2⟩
theorem AOp.lookupX {x ix : Operand} {t k et : TypeId} {id : Nat} {M : List (Value × D)} {key z : Value} {d kd zd : D}  (ho : o.op = .lookup t x ix false) (ht : P.underlying t = some (.map k et)) (K : Maps.Keyed P k) (hz : (P.info? et).bind (·.zero) = some z) (hzd : ∀ F w, Rep F w z zd) (hx : e.ev x = .own id) (hm : (id, Ob.map M) ∈ σ)
    (hi : e.ev ix = .d kd) (hke : DExact kd key) (hg : ∃ l, keyOf P k key = some l) (hgs : ∀ p ∈ M, ∃ l, keyOf P k p.1 = some l) (hd : MGet M key zd d) : AOp P B ops o e σ (.d d) := .value fun F ρ w a hF hr hσ => by
  have h1 := hr x (by rw [ho]; simp [Op.operands])
  have h2 := hr ix (by rw [ho]; simp [Op.operands])
  rw [hx] at h1
  rw [hi] at h2
  have hxv := hke _ _ _ (repS_d h2)
  obtain ⟨b, es, clock, hρ, hB, hFb, hh, ⟨hl, _, _⟩, hall⟩ := hσ.ok _ hm
  dsimp only at hρ
  have hv : a.eval x = .map (some b) := by rw [← hρ]; generalize a.eval x = u at h1; cases h1; rfl
  have hks : ∀ en ∈ es.toList, ∃ l, keyOf P k en.key = some l := fun en hen => by
    obtain ⟨j, hj⟩ := List.mem_iff_getElem?.1 hen
    obtain ⟨p, h1, h2, _⟩ := entries_get hl hall hj
    rw [h2]; exact hgs p (List.mem_of_getElem? h1)
  obtain ⟨kl, hkl⟩ := hg
  obtain ⟨ti, hti, hzz⟩ := Option.bind_eq_some_iff.1 hz
  have hprog : (program : Sem Program).run P w = .ok P w := rfl
  rcases K.find w hkl es.toList hks with ⟨h3, h4⟩ | ⟨j, en, h3, h4, h5⟩
  · refine ⟨z, F, w, ?_, ?_, Ext.refl hF⟩
    · unfold execOp
      simp only [ho, hv, hxv, Sem.run_bind]
      simp [Instr.lookup, run_underlying ht, MapKept.run_getObj_map hh, K.check w _ hkl, h3, zeroValue, typeInfo, hti, hzz, Result.andThen]
    · rcases hd with ⟨i, hi2, _⟩ | ⟨_, rfl⟩
      · exfalso
        have hil : i < M.length := (List.getElem?_eq_some_iff.1 hi2).1
        have h6 := (hall i (by omega) hil).1
        rw [(List.getElem?_eq_some_iff.1 hi2).2] at h6
        exact h4 es[i] (by simp) h6
      · exact .d (hzd _ _)
  · have hjs : j < es.size := by simpa using (List.getElem?_eq_some_iff.1 h4).1
    have hej : es[j] = en := by have := (List.getElem?_eq_some_iff.1 h4).2; simpa using this
    have hjl : j < M.length := by omega
    refine ⟨en.val, F, w, ?_, ?_, Ext.refl hF⟩
    · unfold execOp
      simp only [ho, hv, hxv, Sem.run_bind]
      simp [Instr.lookup, run_underlying ht, MapKept.run_getObj_map hh, K.check w _ hkl, h3, Result.andThen]
    · have hkj : M[j].1 = key := by rw [← (hall j hjs hjl).1, hej]; exact h5
      rcases hd with ⟨i, hi2, hu⟩ | ⟨hno, _⟩
      · have := hu j M[j] (List.getElem?_eq_getElem hjl) hkj
        subst this
        have h6 := (hall j hjs hjl).2
        rw [(List.getElem?_eq_some_iff.1 hi2).2, hej] at h6
        exact .d h6
      · exact absurd hkj (hno _ (List.getElem_mem hjl))

end
end Go.Proofs.YthcdjmkkgbcaaaaGreatDoor

namespace Go.Proofs.YthcdjmkkgbcaaaaGreatDoor
open Go.RowKit Go.MapKept
set_option linter.unusedVariables false
set_option linter.unusedSimpArgs false

/-! A map's entries in another order. -/
theorem uniq_split {M : List (Value × D)} {key : Value} {d : D} {i : Nat} (h : M[i]? = some (key, d)) (hu : ∀ (j : Nat) (p : Value × D), M[j]? = some p → p.1 = key → j = i) :
    M = M.take i ++ (key, d) :: M.drop (i + 1) ∧ ∀ p ∈ M.take i ++ M.drop (i + 1), p.1 ≠ key := by
  obtain ⟨hi, he⟩ := List.getElem?_eq_some_iff.1 h
  refine ⟨?_, fun p hp hk => ?_⟩
  · rw [← he, ← List.drop_eq_getElem_cons hi, List.take_append_drop]
  · rcases List.mem_append.1 hp with hp | hp
    · obtain ⟨j, hj, rfl⟩ := List.mem_iff_getElem.1 hp
      rw [List.length_take] at hj
      rw [List.getElem_take] at hk
      have := hu j _ (List.getElem?_eq_getElem (by omega)) hk
      omega
    · obtain ⟨j, hj, rfl⟩ := List.mem_iff_getElem.1 hp
      rw [List.length_drop] at hj
      rw [List.getElem_drop] at hk
      have := hu (i + 1 + j) _ (List.getElem?_eq_getElem (by omega)) hk
      omega
theorem split_uniq {A C : List (Value × D)} {key : Value} {d : D} (h : ∀ p ∈ A ++ C, p.1 ≠ key) :
    (A ++ (key, d) :: C)[A.length]? = some (key, d) ∧ ∀ (j : Nat) (p : Value × D), (A ++ (key, d) :: C)[j]? = some p → p.1 = key → j = A.length := by
  refine ⟨by simp, fun j p hp hk => ?_⟩
  rcases Nat.lt_trichotomy j A.length with hj | hj | hj
  · rw [List.getElem?_append_left hj] at hp
    exact absurd hk (h p (List.mem_append_left _ (List.mem_of_getElem? hp)))
  · exact hj
  · rw [List.getElem?_append_right (by omega)] at hp
    obtain ⟨m, hm⟩ : ∃ m, j - A.length = m + 1 := ⟨j - A.length - 1, by omega⟩
    rw [hm, List.getElem?_cons_succ] at hp
    exact absurd hk (h p (List.mem_append_right _ (List.mem_of_getElem? hp)))
theorem perm_split {M0 M : List (Value × D)} (hp : M0.Perm M) {key : Value} {d : D} {A C : List (Value × D)} (hM : M = A ++ (key, d) :: C) (h : ∀ p ∈ A ++ C, p.1 ≠ key) :
    ∃ A' C', M0 = A' ++ (key, d) :: C' ∧ (∀ p ∈ A' ++ C', p.1 ≠ key) ∧ (A' ++ C').Perm (A ++ C) := by
  have hm : (key, d) ∈ M0 := hp.mem_iff.2 (by rw [hM]; simp)
  obtain ⟨A', C', rfl⟩ := List.append_of_mem hm
  subst hM
  have h2 : (A' ++ C').Perm (A ++ C) := by
    have h3 := (List.perm_middle.symm.trans hp).trans List.perm_middle
    exact (List.perm_cons _).1 h3
  exact ⟨A', C', rfl, fun p hq => h p (h2.mem_iff.1 hq), h2⟩
theorem mget_perm {M0 M : List (Value × D)} (hp : M0.Perm M) {key : Value} {z d : D} (h : MGet M key z d) : MGet M0 key z d := by
  rcases h with ⟨i, h1, h2⟩ | ⟨h1, h2⟩
  · obtain ⟨h3, h4⟩ := uniq_split h1 h2
    obtain ⟨A', C', rfl, h5, _⟩ := perm_split hp h3 h4
    exact .inl ⟨_, split_uniq h5⟩
  · exact .inr ⟨fun p hq => h1 p (hp.mem_iff.1 hq), h2⟩
theorem mgetok_perm {M0 M : List (Value × D)} (hp : M0.Perm M) {key : Value} {z d : D} {ok : Bool} (h : MGetOk M key z d ok) : MGetOk M0 key z d ok := by
  rcases h with ⟨h0, i, h1, h2⟩ | ⟨h0, h1, h2⟩
  · obtain ⟨h3, h4⟩ := uniq_split h1 h2
    obtain ⟨A', C', rfl, h5, _⟩ := perm_split hp h3 h4
    exact .inl ⟨h0, _, split_uniq h5⟩
  · exact .inr ⟨h0, fun p hq => h1 p (hp.mem_iff.1 hq), h2⟩
/-- An own map that is written no more: it is data now. -/
theorem R0.freezeMap {cx : Cx} {F : Nat → Prop} {ρ : Nat → Value} {e : Env} {σ : Obs} {a : Act} {w : World} (h : R0 cx F ρ e σ a w) {t id : Nat} {M0 M : List (Value × D)} (ht : e t = .own id) (hm : (id, Ob.map M0) ∈ σ) (hpm : M0.Perm M) :
    ∃ F', R0 cx F' ρ (e.put (some t) (.d (.fm M))) (Obs.del id σ) a w := by
  have hF2 : ∀ b, (F b ∨ blk (ρ id) = some b) → b < w.heap.size := fun b hb => by
    rcases hb with hb | hb
    · exact h.lt b hb
    · exact ((h.obs.ok _ hm).blk_lt hb).2
  have keep : ∀ {x : Value} {s : S}, RepS F ρ w x s → RepS (fun b => F b ∨ blk (ρ id) = some b) ρ w x s := fun hx =>
    RepS.turn (row := none) hx h.lt (fun g hg => by simp at hg) ⟨rfl, rfl, rfl, Nat.le_refl _, fun _ _ _ => rfl⟩ (fun b hb => .inl hb)
  refine ⟨fun b => F b ∨ blk (ρ id) = some b, h.size, h.defers, hF2, fun b hb => .inl (h.base b hb), fun b hb => ?_, h.below, h.hB, fun u => ?_, ?_, h.up, fun p hp => h.kown p (Obs.mem_del hp).1, h.fixed⟩
  · rcases hb with hb | hb
    · exact h.new b hb
    · exact .inr (h.kown _ hm b hb)
  · by_cases hu : u = t
    · subst hu
      rw [Env.put_same]
      have h1 := h.env u
      rw [ht] at h1
      obtain ⟨b, es, clock, h2, h3, h4, h5, h6, h7⟩ := h.obs.ok _ hm
      dsimp only at h2
      have hv : a.tmps.getD u undef = .map (some b) := by rw [← h2]; generalize a.tmps.getD u undef = x at h1; cases h1; rfl
      rw [hv]
      exact .d (.fm b clock es M0 M hpm (.inr (by rw [h2]; rfl)) h5 h6 (fun i h1 h2 => (h7 i h1 h2).1) fun i h1 h2 => (h7 i h1 h2).2.mono (fun _ h => .inl h) fun _ _ => rfl)
    · rw [Env.put_other _ _ _ _ hu]
      exact keep (h.env u)
  · refine ⟨fun p hp => ?_, fun p hp q hq => h.obs.apart p (Obs.mem_del hp).1 q (Obs.mem_del hq).1, fun p hp q hq => h.obs.uniq p (Obs.mem_del hp).1 q (Obs.mem_del hq).1⟩
    obtain ⟨h1, h2⟩ := Obs.mem_del hp
    exact (h.obs.ok p h1).more h.lt (fun b hb => .inl hb) fun g hg hf => by
      rcases hf with hf | hf
      · exact (h.obs.ok p h1).nF hg hf
      · exact h.obs.apart p h1 _ hm h2 g hg hf
theorem AWP.freezeMap {cx : Cx} {c : Code} {e : Env} {σ : Obs} {Q : Post} (t : Nat) {id : Nat} {M : List (Value × D)} (ht : e t = .own id) (hm : (id, Ob.map M) ∈ σ) (k : AWP cx c (e.put (some t) (.d (.fm M))) (Obs.del id σ) Q) : AWP cx c e σ Q :=
  fun a w ⟨_, ρ, hr⟩ => by
    obtain ⟨F', h⟩ := hr.freezeMap ht hm (List.Perm.refl _)
    exact k a w ⟨F', ρ, h⟩
theorem rep_fm {F : Nat → Prop} {w : World} {x : Value} {M : List (Value × D)} (h : Rep F w x (.fm M)) :
    ∃ M0 : List (Value × D), M0.Perm M ∧ ∃ b clock, ∃ es : Array MapEntry, x = .map (some b) ∧ w.heap[b]? = some (.map es clock) ∧ es.size = M0.length ∧ ∀ i (h1 : i < es.size) (h2 : i < M0.length), es[i].key = M0[i].1 ∧ Rep F w es[i].val M0[i].2 := by
  cases h with
  | fm b clock es M0 _ hp hF hh hc hk h => exact ⟨M0, hp, b, clock, es, rfl, hh, hc.size, fun i h1 h2 => ⟨hk i h1 h2, h i h1 h2⟩⟩
section
variable {P : Program} {B : Nat} {ops : Array Oper} {o : Oper} {e : Env} {σ : Obs}
theorem AOp.lenF {x : Operand} {t k et : TypeId} {M : List (Value × D)} (ho : o.op = .call { callee := .builtin .len, args := #[x], argTypes := #[t] }) (ht : P.underlying t = some (.map k et)) (hx : e.ev x = .d (.fm M)) :
    AOp P B ops o e σ (.d (.v (.int .i64 (M.length : Int)))) := .value fun F ρ w a hF hr hσ => by
  have h1 := hr x (by rw [ho]; simp [Op.operands, Call.operands])
  rw [hx] at h1
  obtain ⟨M0, hpm, b, clock, es, hv, hh, hl, _⟩ := rep_fm (repS_d h1)
  rw [hpm.length_eq] at hl
  refine ⟨.int .i64 (M.length : Int), F, w, ?_, .d (.v _), Ext.refl hF⟩
  unfold execOp
  simp only [ho, resolve, invoke, builtin, Sem.run_bind, Sem.run_pure, Result.andThen_ok, List.map_toArray, List.map_cons, List.map_nil, hv]
  simp [Builtin.len_, run_underlying ht, MapKept.run_getObj_map hh, Result.andThen, hl, goInt]
theorem AOp.lookupF {x ix : Operand} {t k et : TypeId} {M : List (Value × D)} {key z : Value} {d kd zd : D} (ho : o.op = .lookup t x ix false) (ht : P.underlying t = some (.map k et)) (K : Maps.Keyed P k) (hz : (P.info? et).bind (·.zero) = some z) (hzd : ∀ F w, Rep F w z zd) (hx : e.ev x = .d (.fm M))
    (hi : e.ev ix = .d kd) (hke : DExact kd key) (hg : ∃ l, keyOf P k key = some l) (hgs : ∀ p ∈ M, ∃ l, keyOf P k p.1 = some l) (hd : MGet M key zd d) : AOp P B ops o e σ (.d d) := .value fun F ρ w a hF hr hσ => by
  have h1 := hr x (by rw [ho]; simp [Op.operands])
  have h2 := hr ix (by rw [ho]; simp [Op.operands])
  rw [hx] at h1
  rw [hi] at h2
  have hxv := hke _ _ _ (repS_d h2)
  obtain ⟨M0, hpm, b, clock, es, hv, hh, hl, hall⟩ := rep_fm (repS_d h1)
  replace hgs := fun p hp => hgs p (hpm.mem_iff.1 hp)
  replace hd := mget_perm hpm hd
  have hks : ∀ en ∈ es.toList, ∃ l, keyOf P k en.key = some l := fun en hen => by
    obtain ⟨j, hj⟩ := List.mem_iff_getElem?.1 hen
    obtain ⟨p, h1, h2, _⟩ := entries_get hl hall hj
    rw [h2]; exact hgs p (List.mem_of_getElem? h1)
  obtain ⟨kl, hkl⟩ := hg
  obtain ⟨ti, hti, hzz⟩ := Option.bind_eq_some_iff.1 hz
  have hprog : (program : Sem Program).run P w = .ok P w := rfl
  rcases K.find w hkl es.toList hks with ⟨h3, h4⟩ | ⟨j, en, h3, h4, h5⟩
  · refine ⟨z, F, w, ?_, ?_, Ext.refl hF⟩
    · unfold execOp
      simp only [ho, hv, hxv, Sem.run_bind]
      simp [Instr.lookup, run_underlying ht, MapKept.run_getObj_map hh, K.check w _ hkl, h3, zeroValue, typeInfo, hti, hzz, Result.andThen]
    · rcases hd with ⟨i, hi2, _⟩ | ⟨_, rfl⟩
      · exfalso
        have hil : i < M0.length := (List.getElem?_eq_some_iff.1 hi2).1
        have h6 := (hall i (by omega) hil).1
        rw [(List.getElem?_eq_some_iff.1 hi2).2] at h6
        exact h4 es[i] (by simp) h6
      · exact .d (hzd _ _)
  · have hjs : j < es.size := by simpa using (List.getElem?_eq_some_iff.1 h4).1
    have hej : es[j] = en := by have := (List.getElem?_eq_some_iff.1 h4).2; simpa using this
    have hjl : j < M0.length := by omega
    refine ⟨en.val, F, w, ?_, ?_, Ext.refl hF⟩
    · unfold execOp
      simp only [ho, hv, hxv, Sem.run_bind]
      simp [Instr.lookup, run_underlying ht, MapKept.run_getObj_map hh, K.check w _ hkl, h3, Result.andThen]
    · have hkj : M0[j].1 = key := by rw [← (hall j hjs hjl).1, hej]; exact h5
      rcases hd with ⟨i, hi2, hu⟩ | ⟨hno, _⟩
      · have := hu j M0[j] (List.getElem?_eq_getElem hjl) hkj
        subst this
        have h6 := (hall j hjs hjl).2
        rw [(List.getElem?_eq_some_iff.1 hi2).2, hej] at h6
        exact .d h6
      · exact absurd hkj (hno _ (List.getElem_mem hjl))
theorem AOp.lookupOkF {x ix : Operand} {t k et : TypeId} {M : List (Value × D)} {key z : Value} {d kd zd : D} (ho : o.op = .lookup t x ix true) (ht : P.underlying t = some (.map k et)) (K : Maps.Keyed P k) (hz : (P.info? et).bind (·.zero) = some z) (hzd : ∀ F w, Rep F w z zd) (hx : e.ev x = .d (.fm M))
    (hi : e.ev ix = .d kd) (hke : DExact kd key) (hg : ∃ l, keyOf P k key = some l) (hgs : ∀ p ∈ M, ∃ l, keyOf P k p.1 = some l) (ok : Bool) (hd : MGetOk M key zd d ok) : AOp P B ops o e σ (.d (.tup [d, .v (.bool ok)])) := .value fun F ρ w a hF hr hσ => by
  have h1 := hr x (by rw [ho]; simp [Op.operands])
  have h2 := hr ix (by rw [ho]; simp [Op.operands])
  rw [hx] at h1
  rw [hi] at h2
  have hxv := hke _ _ _ (repS_d h2)
  obtain ⟨M0, hpm, b, clock, es, hv, hh, hl, hall⟩ := rep_fm (repS_d h1)
  replace hgs := fun p hp => hgs p (hpm.mem_iff.1 hp)
  replace hd := mgetok_perm hpm hd
  have hks : ∀ en ∈ es.toList, ∃ l, keyOf P k en.key = some l := fun en hen => by
    obtain ⟨j, hj⟩ := List.mem_iff_getElem?.1 hen
    obtain ⟨p, h1, h2, _⟩ := entries_get hl hall hj
    rw [h2]; exact hgs p (List.mem_of_getElem? h1)
  obtain ⟨kl, hkl⟩ := hg
  obtain ⟨ti, hti, hzz⟩ := Option.bind_eq_some_iff.1 hz
  have hprog : (program : Sem Program).run P w = .ok P w := rfl
  rcases K.find w hkl es.toList hks with ⟨h3, h4⟩ | ⟨j, en, h3, h4, h5⟩
  · refine ⟨.tuple #[z, .bool false], F, w, ?_, ?_, Ext.refl hF⟩
    · unfold execOp
      simp only [ho, hv, hxv, Sem.run_bind]
      simp [Instr.lookup, run_underlying ht, MapKept.run_getObj_map hh, K.check w _ hkl, h3, zeroValue, typeInfo, hti, hzz, Result.andThen]
    · rcases hd with ⟨_, i, hi2, _⟩ | ⟨hok, _, rfl⟩
      · exfalso
        have hil : i < M0.length := (List.getElem?_eq_some_iff.1 hi2).1
        have h6 := (hall i (by omega) hil).1
        rw [(List.getElem?_eq_some_iff.1 hi2).2] at h6
        exact h4 es[i] (by simp) h6
      · subst hok
        exact .d (.tup [_, _] [_, _] rfl (fun i a b => by
          match i, a with
          | 0, _ => exact hzd _ _
          | 1, _ => exact .v _))
  · have hjs : j < es.size := by simpa using (List.getElem?_eq_some_iff.1 h4).1
    have hej : es[j] = en := by have := (List.getElem?_eq_some_iff.1 h4).2; simpa using this
    have hjl : j < M0.length := by omega
    refine ⟨.tuple #[en.val, .bool true], F, w, ?_, ?_, Ext.refl hF⟩
    · unfold execOp
      simp only [ho, hv, hxv, Sem.run_bind]
      simp [Instr.lookup, run_underlying ht, MapKept.run_getObj_map hh, K.check w _ hkl, h3, Result.andThen]
    · have hkj : M0[j].1 = key := by rw [← (hall j hjs hjl).1, hej]; exact h5
      rcases hd with ⟨hok, i, hi2, hu⟩ | ⟨_, hno, _⟩
      · have := hu j M0[j] (List.getElem?_eq_getElem hjl) hkj
        subst this
        have h6 := (hall j hjs hjl).2
        rw [(List.getElem?_eq_some_iff.1 hi2).2, hej] at h6
        subst hok
        exact .d (.tup [_, _] [_, _] rfl (fun i a b => by
          match i, a with
          | 0, _ => exact h6
          | 1, _ => exact .v _))
      · exact absurd hkj (hno _ (List.getElem_mem hjl))
end
end Go.Proofs.YthcdjmkkgbcaaaaGreatDoor

namespace Go.Proofs.YthcdjmkkgbcaaaaGreatDoor
open Go.RowKit
set_option linter.unusedVariables false

/-! Types. -/
namespace TyKA
theorem et_39 : ElemTy Tryz.prog 39 3 1 8 (.int .i64 0) := ⟨by kernel_rfl, by kernel_rfl, by kernel_rfl, by decide⟩
theorem sc_3 : Scal Tryz.prog 3 := .of (by kernel_rfl)
end TyKA
open TyH3 TyH4 TyH5 TyJ3 TyJ4 TyJ5 TyKA

open Go.Lib
set_option linter.unusedSimpArgs false
set_option linter.unusedSectionVars false
theorem at_lst {α : Type} {l : List α} {f : α → List D} {k : Nat} (h : k < l.length) : (l.map f)[k]? = some (f l[k]) := by simp [h]
def ffst (f : Nat → Int) : Nat → Int
  | 0 => 0
  | n + 1 => if ffst f n = 0 then f n else ffst f n
theorem ffst_next {f : Nat → Int} {k : Nat} (h : ffst f k = 0) (h2 : f k = 0) : ffst f (k + 1) = 0 := by simp [ffst, h, h2]
theorem ffst_hit {f : Nat → Int} {k : Nat} (h : ffst f k = 0) (h2 : f k ≠ 0) : ∀ n, k < n → ffst f n = f k
  | 0, hn => by omega
  | n + 1, hn => by
    unfold ffst
    by_cases hk : k = n
    · subst hk; rw [if_pos h]
    · rw [ffst_hit h h2 n (by omega), if_neg h2]
theorem ffst_all {f : Nat → Int} : ∀ n, ffst f n = 0 → ∀ k, k < n → f k = 0
  | 0, _, k, hk => by omega
  | n + 1, h, k, hk => by
    unfold ffst at h
    by_cases hn : ffst f n = 0
    · rw [if_pos hn] at h
      by_cases hk2 : k = n
      · rw [hk2]; exact h
      · exact ffst_all n hn k (by omega)
    · rw [if_neg hn] at h; exact absurd h hn
def prB (c : UInt8) : Bool := decide (32 ≤ c.toNat) && decide (c.toNat ≤ 126)
def titleB (l : List UInt8) : Bool := decide (1 ≤ l.length) && decide (l.length ≤ 100) && !(decide (at0 l 0 = 32)) && !(decide (at0 l (l.length - 1) = 32)) && !(Lib.contains l [32, 32]) && l.all prB
def titleOk (s : ByteArray) : Bool := titleB s.data.toList
/-- The library's variable holds some number. -/
def MaxT (w : World) : Prop := ∃ m, w.cell? ⟨Tryz.l144_ren.g 1, 0, none⟩ = some (.int .i64 m)
theorem maxT_stays : Stays MaxT := fun w w' k ⟨m, hm⟩ => by
  refine ⟨m, ?_⟩
  have hlt := World.block_lt_of_cell? _ _ hm
  dsimp only at hlt
  rw [World.cell?_of_block (k.block _ hlt (fun h => by have h2 : w.heap.size ≤ Tryz.l144_ren.g 1 := h; omega))]
  exact hm
theorem c_contains (s p : ByteArray) (hs : s.size < 4294967281) : ACallT Tryz.prog MaxT 138 [.v (.string s), .v (.string p)] (.v (.bool (Lib.contains s.data.toList p.data.toList))) :=
 ⟨.of Tryz.func138 (by kernel_rfl) rfl, fun F w vs hT hF hv => by
  rw [repL_v (us := [.string s, .string p]) hv]
  obtain ⟨m, hm⟩ := hT
  have h := Any.strings_Contains { Tryz.l144 with } s p m w hs hm
  change Calls Tryz.prog 138 #[.string s, .string p] w _ at h
  refine h.mono fun e w' ⟨h1, h2⟩ => ?_
  subst h2
  exact ⟨_, F, h1, .v _, Ext.refl hF⟩⟩
theorem c_contains2 (s : ByteArray) (hs : s.size ≤ 100) : ACallT Tryz.prog MaxT 138 [.v (.string s), .v (.string ⟨#[32, 32]⟩)] (.v (.bool (Lib.contains s.data.toList [32, 32]))) := c_contains s ⟨#[32, 32]⟩ (by omega)
theorem at0_ba {s : ByteArray} {i : Nat} (h : i < s.data.toList.length) : s.data.toList[i]? = some (at0 s.data.toList i) := by rw [at0_eq h, List.getElem?_eq_getElem h]
theorem emp_size {s : ByteArray} (h : s = ⟨#[]⟩) : s.size = 0 := by rw [h]; rfl
theorem nemp_size {s : ByteArray} (h : ¬ s = ⟨#[]⟩) : 0 < s.size := by
  rcases Nat.eq_zero_or_pos s.size with h0 | h0
  · exfalso; apply h
    apply ByteArray.ext
    have : s.data.toList = [] := List.eq_nil_of_length_eq_zero (by rw [← Lib.size_eq]; exact h0)
    exact Array.toList_inj.1 this
  · exact h0
theorem all_nx {p : UInt8 → Bool} {l : List UInt8} {k : Nat} (hk : k < l.length) (h : ∀ c ∈ l.take k, p c = true) (h2 : p (at0 l k) = true) : ∀ c ∈ l.take (k + 1), p c = true := fun c hc => by
  rw [List.take_add_one, List.getElem?_eq_getElem hk, Option.toList_some, List.mem_append, List.mem_singleton] at hc
  rcases hc with hc | hc
  · exact h c hc
  · rw [hc, ← at0_eq hk]; exact h2
theorem all_end {p : UInt8 → Bool} {l : List UInt8} {k : Nat} (hk : l.length ≤ k) (h : ∀ c ∈ l.take k, p c = true) : l.all p = true := by
  rw [List.take_of_length_le hk] at h
  rw [List.all_eq_true]; exact h
theorem all_hit {p : UInt8 → Bool} {l : List UInt8} {k : Nat} (hk : k < l.length) (h : ¬ p (at0 l k) = true) : l.all p = false := by
  cases ha : l.all p with
  | false => rfl
  | true => exact absurd (by rw [at0_eq hk]; exact List.all_eq_true.1 ha _ (List.getElem_mem hk)) h
theorem tt_no {l : List UInt8} (h : ¬ (1 ≤ l.length ∧ l.length ≤ 100 ∧ at0 l 0 ≠ 32 ∧ at0 l (l.length - 1) ≠ 32 ∧ Lib.contains l [32, 32] = false ∧ l.all prB = true)) : titleB l = false := by
  rw [Bool.eq_false_iff]
  intro hb
  unfold titleB at hb
  simp only [Bool.and_eq_true, decide_eq_true_eq, Bool.not_eq_true', decide_eq_false_iff_not] at hb
  exact h ⟨hb.1.1.1.1.1, hb.1.1.1.1.2, hb.1.1.1.2, hb.1.1.2, hb.1.2, hb.2⟩
theorem tt_yes {l : List UInt8} (h1 : 1 ≤ l.length) (h2 : l.length ≤ 100) (h3 : at0 l 0 ≠ 32) (h4 : at0 l (l.length - 1) ≠ 32) (h5 : Lib.contains l [32, 32] = false) (h6 : l.all prB = true) : titleB l = true := by
  unfold titleB
  simp only [h1, h2, h3, h4, h5, h6, decide_true, decide_false, Bool.not_false, Bool.and_true]
theorem u32' {x : UInt8} (h : (x.toNat : Int) = 32) : x = 32 := UInt8.toNat_inj.1 (by show x.toNat = 32; omega)
theorem u32n {x : UInt8} (h : ¬ (x.toNat : Int) = 32) : x ≠ 32 := fun e => h (by rw [e]; rfl)
theorem prB_iff {c : UInt8} : prB c = true ↔ 32 ≤ c.toNat ∧ c.toNat ≤ 126 := by unfold prB; simp

set_option maxRecDepth 100000 in
set_option maxHeartbeats 1000000 in
theorem c_pTitle (s : ByteArray) (hs : s.size ≤ 9223372036854775807) : ACallT Tryz.prog MaxT 90 [.v (.string s)] (.v (.bool (titleOk s))) := by
 refine acall_ofT (n := 45) (ds' := [.v (.bool (titleOk s))]) Tryz.func90 rfl (by kernel_rfl) rfl [2] rfl rfl ?_
 intro B w0 F0 hT
 have hsz := Lib.size_eq s
 refine .sr ?_
 refine .aA (.nil ?_)
 refine .seq ?_
 refine .sr ?_
 refine .mA ?_
 refine .sA (.lenStr rfl st_9 rfl) ?_
 refine .sA (.lss rfl rfl rfl) ?_
 refine .mA ?_
 refine .split 7 rfl (fun g1 => ?_) (fun g1 => ?_)
 ·replace g1 := of_decide_eq_true g1
  have HR : titleOk s = false := tt_no (fun hh => by omega)
  refine .pA ?_
  refine .pA ?_
  refine .pA ?_
  refine .sA (.pickT rfl rfl rfl) ?_
  refine .mA ?_
  refine .pA ?_
  refine .pA ?_
  refine .pA ?_
  refine .sA (.pickT rfl rfl rfl) ?_
  refine .mA ?_
  refine .pA ?_
  refine .pA ?_
  refine .pA ?_
  refine .pA ?_
  refine .pA ?_
  refine .pA ?_
  refine .sA (.pickT rfl rfl rfl) ?_
  refine .mA ?_
  refine .pA ?_
  refine .pA ?_
  refine .sA (.pickT rfl rfl rfl) (.nil ?_)
  refine .cond rfl (fun _ => ?_) (fun h => nomatch h)
  refine .sr ?_
  refine .aA (.nil ?_)
  refine .ret ?_
  refine ⟨RetD.eq rfl ?_, trivial⟩
  all_goals (first | rw [HR] | rw [show titleOk s = false from tt_no (fun hh => by rw [all_hit hlt (fun hc => by have := prB_iff.1 hc; omega)] at hh; exact absurd hh.2.2.2.2.2 (by decide))])
 replace g1 := of_decide_eq_false g1
 have hp : 0 < s.size := by omega
 refine .sG (.moveD rfl rfl) ?_
 refine .sG (.lenStr rfl st_9 rfl) ?_
 refine .sG (.gtr rfl rfl rfl) ?_
 refine .sA (.pickF rfl rfl rfl) ?_
 refine .mA ?_
 refine .split 12 rfl (fun g2 => ?_) (fun g2 => ?_)
 ·replace g2 := of_decide_eq_true g2
  have HR : titleOk s = false := tt_no (fun hh => by omega)
  refine .pA ?_
  refine .pA ?_
  refine .pA ?_
  refine .sA (.pickT rfl rfl rfl) ?_
  refine .mA ?_
  refine .pA ?_
  refine .pA ?_
  refine .pA ?_
  refine .pA ?_
  refine .pA ?_
  refine .pA ?_
  refine .sA (.pickT rfl rfl rfl) ?_
  refine .mA ?_
  refine .pA ?_
  refine .pA ?_
  refine .sA (.pickT rfl rfl rfl) (.nil ?_)
  refine .cond rfl (fun _ => ?_) (fun h => nomatch h)
  refine .sr ?_
  refine .aA (.nil ?_)
  refine .ret ?_
  refine ⟨RetD.eq rfl ?_, trivial⟩
  all_goals (first | rw [HR] | rw [show titleOk s = false from tt_no (fun hh => by rw [all_hit hlt (fun hc => by have := prB_iff.1 hc; omega)] at hh; exact absurd hh.2.2.2.2.2 (by decide))])
 replace g2 := of_decide_eq_false g2
 have hq : s.size ≤ 100 := by omega
 refine .sG (.moveD rfl rfl) ?_
 refine .sG (.indexStr rfl st_9 rfl rfl 0 rfl (at0_ba (by omega))) ?_
 refine .sG (.eql rfl rfl rfl) ?_
 refine .sA (.pickF rfl rfl rfl) ?_
 refine .mA ?_
 refine .split 17 rfl (fun g3 => ?_) (fun g3 => ?_)
 ·replace g3 := of_decide_eq_true g3
  have HR : titleOk s = false := tt_no (fun hh => hh.2.2.1 (u32' g3))
  refine .pA ?_
  refine .pA ?_
  refine .pA ?_
  refine .pA ?_
  refine .pA ?_
  refine .pA ?_
  refine .sA (.pickT rfl rfl rfl) ?_
  refine .mA ?_
  refine .pA ?_
  refine .pA ?_
  refine .sA (.pickT rfl rfl rfl) (.nil ?_)
  refine .cond rfl (fun _ => ?_) (fun h => nomatch h)
  refine .sr ?_
  refine .aA (.nil ?_)
  refine .ret ?_
  refine ⟨RetD.eq rfl ?_, trivial⟩
  all_goals (first | rw [HR] | rw [show titleOk s = false from tt_no (fun hh => by rw [all_hit hlt (fun hc => by have := prB_iff.1 hc; omega)] at hh; exact absurd hh.2.2.2.2.2 (by decide))])
 replace g3 := of_decide_eq_false g3
 have hf := u32n g3
 refine .sG (.moveD rfl rfl) ?_
 refine .sG (.moveD rfl rfl) ?_
 refine .sG (.lenStr rfl st_9 rfl) ?_
 refine .sG (.sub64 rfl rfl rfl (by omega) (by omega)) ?_
 refine .sG (.indexStr rfl st_9 rfl rfl (s.data.toList.length - 1) (by omega) (at0_ba (by omega))) ?_
 refine .sG (.eql rfl rfl rfl) ?_
 refine .sA (.pickF rfl rfl rfl) ?_
 refine .mA ?_
 refine .split 25 rfl (fun g4 => ?_) (fun g4 => ?_)
 ·replace g4 := of_decide_eq_true g4
  have HR : titleOk s = false := tt_no (fun hh => hh.2.2.2.1 (u32' g4))
  refine .pA ?_
  refine .pA ?_
  refine .sA (.pickT rfl rfl rfl) (.nil ?_)
  refine .cond rfl (fun _ => ?_) (fun h => nomatch h)
  refine .sr ?_
  refine .aA (.nil ?_)
  refine .ret ?_
  refine ⟨RetD.eq rfl ?_, trivial⟩
  all_goals (first | rw [HR] | rw [show titleOk s = false from tt_no (fun hh => by rw [all_hit hlt (fun hc => by have := prB_iff.1 hc; omega)] at hh; exact absurd hh.2.2.2.2.2 (by decide))])
 replace g4 := of_decide_eq_false g4
 have hl := u32n g4
 refine .sG (.moveD rfl rfl) ?_
 -- wants the world
 refine .callT ⟨25, rfl, .inl ⟨_, rfl, rfl⟩⟩ rfl rfl hT maxT_stays rfl (.cons (.rfl' rfl) (.cons (.rfl' rfl) .nil)) (c_contains2 s hq) ?_
 refine .sA (.pickF rfl rfl rfl) (.nil ?_)
 refine .cond rfl (fun h5 => ?_) (fun h5 => ?_)
 ·skip
  have HR : titleOk s = false := tt_no (fun hh => by rw [hh.2.2.2.2.1] at h5; cases h5)
  refine .sr ?_
  refine .aA (.nil ?_)
  refine .ret ?_
  refine ⟨RetD.eq rfl ?_, trivial⟩
  all_goals (first | rw [HR] | rw [show titleOk s = false from tt_no (fun hh => by rw [all_hit hlt (fun hc => by have := prB_iff.1 hc; omega)] at hh; exact absurd hh.2.2.2.2.2 (by decide))])
 have hcn := h5
 refine .skip ?_
 refine .seq ?_
 refine .sr ?_
 refine .mA ?_
 refine .sA (.lenStr rfl st_9 rfl) ?_
 refine .mA (.nil ?_)
 refine .block ?_
 refine .loop (G := Nat) (fun k => Env.of [(31, .d (.v (.int .i64 (k : Int)))), (30, .d (.v (.int .i64 (s.size : Int)))), (0, .d (.v (.string s)))]) (fun k => []) (fun k => k ≤ s.size ∧ ∀ c ∈ s.data.toList.take k, prB c = true) (fun k => s.size - k) 0 ⟨Nat.zero_le _, fun c h => by simp at h⟩ (Sub.less ⟨(SLe.of_eq rfl), SLe.refl _, SLe.refl _, trivial⟩ (fun _ h => h)) ?_
 intro k hk
 refine .sr ?_
 refine .sA (.lss rfl rfl rfl) (.nil ?_)
 refine .seq ?_
 refine .cond rfl (fun h6 => ?_) (fun h6 => ?_)
 ·replace h6 := of_decide_eq_true h6
  have hlt : k < s.data.toList.length := by omega
  refine .skip ?_
  refine .seq ?_
  refine .block ?_
  refine .sr ?_
  refine .mA ?_
  refine .aA (.nil ?_)
  refine .sr ?_
  refine .mA ?_
  refine .mA ?_
  refine .sA (.indexStr rfl st_9 rfl rfl k rfl (at0_ba hlt)) ?_
  refine .sA (.lss rfl rfl rfl) ?_
  refine .mA ?_
  refine .split 38 rfl (fun g7 => ?_) (fun g7 => ?_)
  ·replace g7 := of_decide_eq_true g7
   refine .pA ?_
   refine .pA ?_
   refine .pA ?_
   refine .pA ?_
   refine .sA (.pickT rfl rfl rfl) (.nil ?_)
   refine .cond rfl (fun _ => ?_) (fun h => nomatch h)
   refine .sr ?_
   refine .aA (.nil ?_)
   refine .ret ?_
   refine ⟨RetD.eq rfl ?_, trivial⟩
   all_goals (first | rw [HR] | rw [show titleOk s = false from tt_no (fun hh => by rw [all_hit hlt (fun hc => by have := prB_iff.1 hc; omega)] at hh; exact absurd hh.2.2.2.2.2 (by decide))])
  replace g7 := of_decide_eq_false g7
  refine .sG (.moveD rfl rfl) ?_
  refine .sG (.moveD rfl rfl) ?_
  refine .sG (.indexStr rfl st_9 rfl rfl k rfl (at0_ba hlt)) ?_
  refine .sG (.gtr rfl rfl rfl) ?_
  refine .sA (.pickF rfl rfl rfl) (.nil ?_)
  refine .cond rfl (fun h8 => ?_) (fun h8 => ?_)
  ·replace h8 := of_decide_eq_true h8
   refine .sr ?_
   refine .aA (.nil ?_)
   refine .ret ?_
   refine ⟨RetD.eq rfl ?_, trivial⟩
   all_goals (first | rw [HR] | rw [show titleOk s = false from tt_no (fun hh => by rw [all_hit hlt (fun hc => by have := prB_iff.1 hc; omega)] at hh; exact absurd hh.2.2.2.2.2 (by decide))])
  replace h8 := of_decide_eq_false h8
  refine .skip ?_
  refine .region ?_
  refine .sA (.add64 rfl rfl rfl (by omega) (by omega)) ?_
  refine .mA (.nil ?_)
  refine ⟨k + 1, ⟨by omega, all_nx hlt hk.2 (prB_iff.2 (by omega))⟩, (by dsimp only; omega), Sub.less ⟨(SLe.of_eq rfl), SLe.refl _, SLe.refl _, trivial⟩ (fun _ h => h)⟩
 replace h6 := of_decide_eq_false h6
 have HR : titleOk s = true := tt_yes (by omega) (by omega) hf hl hcn (all_end (by omega) hk.2)
 refine .exit ?_
 refine .sr ?_
 refine .aA (.nil ?_)
 refine .ret ?_
 refine ⟨RetD.eq rfl ?_, trivial⟩
 all_goals (first | rw [HR] | rw [show titleOk s = false from tt_no (fun hh => by rw [all_hit hlt (fun hc => by have := prB_iff.1 hc; omega)] at hh; exact absurd hh.2.2.2.2.2 (by decide))])

set_option maxRecDepth 100000 in
set_option maxHeartbeats 1000000 in
theorem c_rTitle (s : ByteArray) (hs : s.size ≤ 9223372036854775807) : ACallT Tryz.prog MaxT 96 [.v (.string s)] (.v (.bool (titleOk s))) := by
 refine acall_ofT (n := 44) (ds' := [.v (.bool (titleOk s))]) Tryz.func96 rfl (by kernel_rfl) rfl [2] rfl rfl ?_
 intro B w0 F0 hT
 have hsz := Lib.size_eq s
 refine .sr ?_
 refine .aA (.nil ?_)
 refine .seq ?_
 refine .sr ?_
 refine .mA ?_
 refine .sA (.seql rfl rfl rfl) ?_
 refine .mA ?_
 refine .split 6 rfl (fun g1 => ?_) (fun g1 => ?_)
 ·replace g1 := of_decide_eq_true g1
  have HR : titleOk s = false := tt_no (fun hh => by have := emp_size g1; omega)
  refine .pA ?_
  refine .pA ?_
  refine .pA ?_
  refine .sA (.pickT rfl rfl rfl) ?_
  refine .mA ?_
  refine .pA ?_
  refine .pA ?_
  refine .pA ?_
  refine .sA (.pickT rfl rfl rfl) ?_
  refine .mA ?_
  refine .pA ?_
  refine .pA ?_
  refine .pA ?_
  refine .pA ?_
  refine .pA ?_
  refine .pA ?_
  refine .sA (.pickT rfl rfl rfl) ?_
  refine .mA ?_
  refine .pA ?_
  refine .pA ?_
  refine .sA (.pickT rfl rfl rfl) (.nil ?_)
  refine .cond rfl (fun _ => ?_) (fun h => nomatch h)
  refine .sr ?_
  refine .aA (.nil ?_)
  refine .ret ?_
  refine ⟨RetD.eq rfl ?_, trivial⟩
  all_goals (first | rw [HR] | rw [show titleOk s = false from tt_no (fun hh => by rw [all_hit hlt (fun hc => by have := prB_iff.1 hc; omega)] at hh; exact absurd hh.2.2.2.2.2 (by decide))])
 replace g1 := of_decide_eq_false g1
 have hp : 0 < s.size := nemp_size g1
 refine .sG (.moveD rfl rfl) ?_
 refine .sG (.lenStr rfl st_9 rfl) ?_
 refine .sG (.gtr rfl rfl rfl) ?_
 refine .sA (.pickF rfl rfl rfl) ?_
 refine .mA ?_
 refine .split 11 rfl (fun g2 => ?_) (fun g2 => ?_)
 ·replace g2 := of_decide_eq_true g2
  have HR : titleOk s = false := tt_no (fun hh => by omega)
  refine .pA ?_
  refine .pA ?_
  refine .pA ?_
  refine .sA (.pickT rfl rfl rfl) ?_
  refine .mA ?_
  refine .pA ?_
  refine .pA ?_
  refine .pA ?_
  refine .pA ?_
  refine .pA ?_
  refine .pA ?_
  refine .sA (.pickT rfl rfl rfl) ?_
  refine .mA ?_
  refine .pA ?_
  refine .pA ?_
  refine .sA (.pickT rfl rfl rfl) (.nil ?_)
  refine .cond rfl (fun _ => ?_) (fun h => nomatch h)
  refine .sr ?_
  refine .aA (.nil ?_)
  refine .ret ?_
  refine ⟨RetD.eq rfl ?_, trivial⟩
  all_goals (first | rw [HR] | rw [show titleOk s = false from tt_no (fun hh => by rw [all_hit hlt (fun hc => by have := prB_iff.1 hc; omega)] at hh; exact absurd hh.2.2.2.2.2 (by decide))])
 replace g2 := of_decide_eq_false g2
 have hq : s.size ≤ 100 := by omega
 refine .sG (.moveD rfl rfl) ?_
 refine .sG (.indexStr rfl st_9 rfl rfl 0 rfl (at0_ba (by omega))) ?_
 refine .sG (.eql rfl rfl rfl) ?_
 refine .sA (.pickF rfl rfl rfl) ?_
 refine .mA ?_
 refine .split 16 rfl (fun g3 => ?_) (fun g3 => ?_)
 ·replace g3 := of_decide_eq_true g3
  have HR : titleOk s = false := tt_no (fun hh => hh.2.2.1 (u32' g3))
  refine .pA ?_
  refine .pA ?_
  refine .pA ?_
  refine .pA ?_
  refine .pA ?_
  refine .pA ?_
  refine .sA (.pickT rfl rfl rfl) ?_
  refine .mA ?_
  refine .pA ?_
  refine .pA ?_
  refine .sA (.pickT rfl rfl rfl) (.nil ?_)
  refine .cond rfl (fun _ => ?_) (fun h => nomatch h)
  refine .sr ?_
  refine .aA (.nil ?_)
  refine .ret ?_
  refine ⟨RetD.eq rfl ?_, trivial⟩
  all_goals (first | rw [HR] | rw [show titleOk s = false from tt_no (fun hh => by rw [all_hit hlt (fun hc => by have := prB_iff.1 hc; omega)] at hh; exact absurd hh.2.2.2.2.2 (by decide))])
 replace g3 := of_decide_eq_false g3
 have hf := u32n g3
 refine .sG (.moveD rfl rfl) ?_
 refine .sG (.moveD rfl rfl) ?_
 refine .sG (.lenStr rfl st_9 rfl) ?_
 refine .sG (.sub64 rfl rfl rfl (by omega) (by omega)) ?_
 refine .sG (.indexStr rfl st_9 rfl rfl (s.data.toList.length - 1) (by omega) (at0_ba (by omega))) ?_
 refine .sG (.eql rfl rfl rfl) ?_
 refine .sA (.pickF rfl rfl rfl) ?_
 refine .mA ?_
 refine .split 24 rfl (fun g4 => ?_) (fun g4 => ?_)
 ·replace g4 := of_decide_eq_true g4
  have HR : titleOk s = false := tt_no (fun hh => hh.2.2.2.1 (u32' g4))
  refine .pA ?_
  refine .pA ?_
  refine .sA (.pickT rfl rfl rfl) (.nil ?_)
  refine .cond rfl (fun _ => ?_) (fun h => nomatch h)
  refine .sr ?_
  refine .aA (.nil ?_)
  refine .ret ?_
  refine ⟨RetD.eq rfl ?_, trivial⟩
  all_goals (first | rw [HR] | rw [show titleOk s = false from tt_no (fun hh => by rw [all_hit hlt (fun hc => by have := prB_iff.1 hc; omega)] at hh; exact absurd hh.2.2.2.2.2 (by decide))])
 replace g4 := of_decide_eq_false g4
 have hl := u32n g4
 refine .sG (.moveD rfl rfl) ?_
 -- wants the world
 refine .callT ⟨24, rfl, .inl ⟨_, rfl, rfl⟩⟩ rfl rfl hT maxT_stays rfl (.cons (.rfl' rfl) (.cons (.rfl' rfl) .nil)) (c_contains2 s hq) ?_
 refine .sA (.pickF rfl rfl rfl) (.nil ?_)
 refine .cond rfl (fun h5 => ?_) (fun h5 => ?_)
 ·skip
  have HR : titleOk s = false := tt_no (fun hh => by rw [hh.2.2.2.2.1] at h5; cases h5)
  refine .sr ?_
  refine .aA (.nil ?_)
  refine .ret ?_
  refine ⟨RetD.eq rfl ?_, trivial⟩
  all_goals (first | rw [HR] | rw [show titleOk s = false from tt_no (fun hh => by rw [all_hit hlt (fun hc => by have := prB_iff.1 hc; omega)] at hh; exact absurd hh.2.2.2.2.2 (by decide))])
 have hcn := h5
 refine .skip ?_
 refine .seq ?_
 refine .sr ?_
 refine .mA ?_
 refine .sA (.lenStr rfl st_9 rfl) ?_
 refine .mA (.nil ?_)
 refine .block ?_
 refine .loop (G := Nat) (fun k => Env.of [(30, .d (.v (.int .i64 (k : Int)))), (29, .d (.v (.int .i64 (s.size : Int)))), (0, .d (.v (.string s)))]) (fun k => []) (fun k => k ≤ s.size ∧ ∀ c ∈ s.data.toList.take k, prB c = true) (fun k => s.size - k) 0 ⟨Nat.zero_le _, fun c h => by simp at h⟩ (Sub.less ⟨(SLe.of_eq rfl), SLe.refl _, SLe.refl _, trivial⟩ (fun _ h => h)) ?_
 intro k hk
 refine .sr ?_
 refine .sA (.lss rfl rfl rfl) (.nil ?_)
 refine .seq ?_
 refine .cond rfl (fun h6 => ?_) (fun h6 => ?_)
 ·replace h6 := of_decide_eq_true h6
  have hlt : k < s.data.toList.length := by omega
  refine .skip ?_
  refine .seq ?_
  refine .block ?_
  refine .sr ?_
  refine .mA ?_
  refine .aA (.nil ?_)
  refine .sr ?_
  refine .mA ?_
  refine .mA ?_
  refine .sA (.indexStr rfl st_9 rfl rfl k rfl (at0_ba hlt)) ?_
  refine .sA (.lss rfl rfl rfl) ?_
  refine .mA ?_
  refine .split 37 rfl (fun g7 => ?_) (fun g7 => ?_)
  ·replace g7 := of_decide_eq_true g7
   refine .pA ?_
   refine .pA ?_
   refine .pA ?_
   refine .pA ?_
   refine .sA (.pickT rfl rfl rfl) (.nil ?_)
   refine .cond rfl (fun _ => ?_) (fun h => nomatch h)
   refine .sr ?_
   refine .aA (.nil ?_)
   refine .ret ?_
   refine ⟨RetD.eq rfl ?_, trivial⟩
   all_goals (first | rw [HR] | rw [show titleOk s = false from tt_no (fun hh => by rw [all_hit hlt (fun hc => by have := prB_iff.1 hc; omega)] at hh; exact absurd hh.2.2.2.2.2 (by decide))])
  replace g7 := of_decide_eq_false g7
  refine .sG (.moveD rfl rfl) ?_
  refine .sG (.moveD rfl rfl) ?_
  refine .sG (.indexStr rfl st_9 rfl rfl k rfl (at0_ba hlt)) ?_
  refine .sG (.gtr rfl rfl rfl) ?_
  refine .sA (.pickF rfl rfl rfl) (.nil ?_)
  refine .cond rfl (fun h8 => ?_) (fun h8 => ?_)
  ·replace h8 := of_decide_eq_true h8
   refine .sr ?_
   refine .aA (.nil ?_)
   refine .ret ?_
   refine ⟨RetD.eq rfl ?_, trivial⟩
   all_goals (first | rw [HR] | rw [show titleOk s = false from tt_no (fun hh => by rw [all_hit hlt (fun hc => by have := prB_iff.1 hc; omega)] at hh; exact absurd hh.2.2.2.2.2 (by decide))])
  replace h8 := of_decide_eq_false h8
  refine .skip ?_
  refine .region ?_
  refine .sA (.add64 rfl rfl rfl (by omega) (by omega)) ?_
  refine .mA (.nil ?_)
  refine ⟨k + 1, ⟨by omega, all_nx hlt hk.2 (prB_iff.2 (by omega))⟩, (by dsimp only; omega), Sub.less ⟨(SLe.of_eq rfl), SLe.refl _, SLe.refl _, trivial⟩ (fun _ h => h)⟩
 replace h6 := of_decide_eq_false h6
 have HR : titleOk s = true := tt_yes (by omega) (by omega) hf hl hcn (all_end (by omega) hk.2)
 refine .exit ?_
 refine .sr ?_
 refine .aA (.nil ?_)
 refine .ret ?_
 refine ⟨RetD.eq rfl ?_, trivial⟩
 all_goals (first | rw [HR] | rw [show titleOk s = false from tt_no (fun hh => by rw [all_hit hlt (fun hc => by have := prB_iff.1 hc; omega)] at hh; exact absurd hh.2.2.2.2.2 (by decide))])

set_option maxRecDepth 100000 in
set_option maxHeartbeats 1000000 in
theorem c_rIn (n a b : Int) : ACall Tryz.prog 48 [.v (.int .i64 n), .v (.int .i64 a), .v (.int .i64 b)] (.v (.bool (decide (a ≤ n ∧ n ≤ b)))) := by
 refine acall_of (n := 15) (ds' := [.v (.bool (decide (a ≤ n ∧ n ≤ b)))]) Tryz.func48 rfl (by kernel_rfl) rfl [6] rfl rfl ?_
 intro B w0 F0 fr
 refine .sr ?_
 refine .aA (.nil ?_)
 refine .sr ?_
 refine .mA ?_
 refine .mA ?_
 refine .sA (.leq rfl rfl rfl) ?_
 refine .mA ?_
 refine .split 10 rfl (fun g1 => ?_) (fun g1 => ?_)
 ·replace g1 := of_decide_eq_true g1
  refine .sG (.moveD rfl rfl) ?_
  refine .sG (.moveD rfl rfl) ?_
  refine .sG (.leq rfl rfl rfl) ?_
  refine .sA (.pickT rfl rfl rfl) ?_
  refine .aA (.nil ?_)
  refine .ret ?_
  refine ⟨RetD.eq rfl ?_, trivial⟩
  all_goals (simp; omega)
 replace g1 := of_decide_eq_false g1
 refine .pA ?_
 refine .pA ?_
 refine .pA ?_
 refine .sA (.pickF rfl rfl rfl) ?_
 refine .aA (.nil ?_)
 refine .ret ?_
 refine ⟨RetD.eq rfl ?_, trivial⟩
 all_goals (simp; omega)

/-- The number of the first one; -1: there is none. -/
def idxBy {α : Type} (p : α → Bool) (l : List α) : Int := if l.any p then (l.findIdx p : Int) else -1
/-! ## Lists by keys -/
section
variable {κ β : Type} [DecidableEq κ]
def hasG (L : List (κ × β)) (k : κ) : Bool := L.any fun p => decide (p.1 = k)
def findG (L : List (κ × β)) (k : κ) : Option β := (L.find? fun p => decide (p.1 = k)).map (·.2)
def putG (L : List (κ × β)) (k : κ) (v : β) : List (κ × β) := if hasG L k = true then L.map (fun p => if p.1 = k then (k, v) else p) else L ++ [(k, v)]
def NkG (L : List (κ × β)) : Prop := L.Pairwise fun p q => p.1 ≠ q.1
theorem hasG_iff {L : List (κ × β)} {k : κ} : hasG L k = true ↔ ∃ p ∈ L, p.1 = k := by
  unfold hasG
  rw [List.any_eq_true]
  constructor
  · rintro ⟨p, h1, h2⟩; exact ⟨p, h1, of_decide_eq_true h2⟩
  · rintro ⟨p, h1, h2⟩; exact ⟨p, h1, decide_eq_true h2⟩
theorem putG_nk {L : List (κ × β)} (h : NkG L) (k : κ) (v : β) : NkG (putG L k v) := by
  unfold putG
  by_cases hh : hasG L k = true
  · rw [if_pos hh]
    unfold NkG
    rw [List.pairwise_map]
    refine h.imp fun {p q} hpq => ?_
    by_cases h1 : p.1 = k <;> by_cases h2 : q.1 = k
    · exact absurd (h1.trans h2.symm) hpq
    · rw [if_pos h1, if_neg h2]; exact fun e => h2 e.symm
    · rw [if_neg h1, if_pos h2]; exact h1
    · rw [if_neg h1, if_neg h2]; exact hpq
  · rw [if_neg hh]
    refine List.pairwise_append.2 ⟨h, by simp, fun p hp q hq => ?_⟩
    rw [List.mem_singleton] at hq
    subst hq
    exact fun e => hh (hasG_iff.2 ⟨p, hp, e⟩)
theorem findG_cons (p : κ × β) (L : List (κ × β)) (k : κ) : findG (p :: L) k = if p.1 = k then some p.2 else findG L k := by
  unfold findG
  rw [List.find?_cons]
  by_cases h : p.1 = k <;> simp [h]
theorem findG_nil (k : κ) : findG ([] : List (κ × β)) k = none := rfl
theorem findG_append (L M : List (κ × β)) (k : κ) : findG (L ++ M) k = match findG L k with | some v => some v | none => findG M k := by
  induction L with
  | nil => rfl
  | cons p L ih =>
    rw [List.cons_append, findG_cons, findG_cons, ih]
    by_cases h : p.1 = k <;> simp [h]
theorem findG_none {L : List (κ × β)} {k : κ} : findG L k = none ↔ hasG L k = false := by
  induction L with
  | nil => simp [findG_nil, hasG]
  | cons p L ih =>
    rw [findG_cons]
    have : hasG (p :: L) k = (decide (p.1 = k) || hasG L k) := by simp [hasG]
    rw [this]
    by_cases h : p.1 = k <;> simp [h, ih]
theorem findG_map (L : List (κ × β)) (k k' : κ) (v : β) : findG (L.map fun p => if p.1 = k then (k, v) else p) k' = if k' = k then (if hasG L k = true then some v else none) else findG L k' := by
  induction L with
  | nil => by_cases h : k' = k <;> simp [h, findG_nil, hasG]
  | cons p L ih =>
    rw [List.map_cons, findG_cons, findG_cons, ih]
    have hh : hasG (p :: L) k = (decide (p.1 = k) || hasG L k) := by simp [hasG]
    rw [hh]
    by_cases h : p.1 = k
    · rw [if_pos h]
      by_cases h2 : k' = k
      · subst h2; simp [h]
      · have h3 : ¬ k = k' := fun e => h2 e.symm
        have h4 : ¬ p.1 = k' := fun e => h2 (e.symm.trans h)
        simp [h2, h3, h4]
    · rw [if_neg h]
      by_cases h2 : k' = k
      · subst h2; simp [h]
      · simp [h2]
theorem findG_put (L : List (κ × β)) (k : κ) (v : β) (k' : κ) : findG (putG L k v) k' = if k' = k then some v else findG L k' := by
  unfold putG
  by_cases hh : hasG L k = true
  · rw [if_pos hh, findG_map, if_pos hh]
  · rw [if_neg hh, findG_append, findG_cons, findG_nil]
    by_cases h : k' = k
    · subst h
      rw [findG_none.2 (by simpa using hh)]
      try simp
    · have h3 : ¬ k = k' := fun e => h e.symm
      rw [if_neg h, if_neg h3]
      cases findG L k' <;> rfl
theorem findG_mem {L : List (κ × β)} (h : NkG L) (p : κ × β) : p ∈ L ↔ findG L p.1 = some p.2 := by
  induction L with
  | nil => simp [findG_nil]
  | cons q L ih =>
    obtain ⟨h1, h2⟩ := List.pairwise_cons.1 h
    rw [findG_cons, List.mem_cons]
    by_cases hq : q.1 = p.1
    · rw [if_pos hq]
      constructor
      · rintro (rfl | hp)
        · rfl
        · exact absurd hq (h1 p hp)
      · intro e
        exact .inl (Prod.ext hq.symm (Option.some.inj e).symm)
    · rw [if_neg hq, ← ih h2]
      constructor
      · rintro (rfl | hp)
        · exact absurd rfl hq
        · exact hp
      · exact .inr
end
/-! ### Maps, by their entries -/
section
variable {κ β : Type} [DecidableEq κ] (kv : κ → Value) (dv : κ × β → D)
def encG (L : List (κ × β)) : List (Value × D) := L.map fun p => (kv p.1, dv p)
variable {kv dv}
theorem nkG_one {L : List (κ × β)} (h : NkG L) {i j : Nat} (hi : i < L.length) (hj : j < L.length) (he : L[j].1 = L[i].1) : j = i := by
  rcases Nat.lt_trichotomy i j with h1 | h1 | h1
  · exact absurd he.symm (List.pairwise_iff_getElem.1 h i j hi hj h1)
  · exact h1.symm
  · exact absurd he (List.pairwise_iff_getElem.1 h j i hj hi h1)
theorem encG_at {L : List (κ × β)} {j : Nat} {p : Value × D} (h : (encG kv dv L)[j]? = some p) : ∃ hj : j < L.length, p = (kv L[j].1, dv L[j]) := by
  unfold encG at h
  rw [List.getElem?_map] at h
  cases h2 : L[j]? with
  | none => rw [h2] at h; cases h
  | some q =>
    rw [h2] at h
    obtain ⟨hj, rfl⟩ := List.getElem?_eq_some_iff.1 h2
    exact ⟨hj, (Option.some.inj h).symm⟩
theorem encG_one (hinj : ∀ {a b}, kv a = kv b → a = b) {L : List (κ × β)} (h : NkG L) {i : Nat} (hi : i < L.length) : ∀ (j : Nat) (p : Value × D), (encG kv dv L)[j]? = some p → p.1 = kv L[i].1 → j = i := fun j p hp he => by
  obtain ⟨hj, rfl⟩ := encG_at hp
  exact nkG_one h hi hj (hinj he)
theorem encG_no (hinj : ∀ {a b}, kv a = kv b → a = b) {L : List (κ × β)} {k : κ} (h : ¬ hasG L k = true) : ∀ p ∈ encG kv dv L, p.1 ≠ kv k := fun p hp e => by
  unfold encG at hp
  obtain ⟨q, hq, rfl⟩ := List.mem_map.1 hp
  exact h (hasG_iff.2 ⟨q, hq, hinj e⟩)
theorem mputG (hinj : ∀ {a b}, kv a = kv b → a = b) {L : List (κ × β)} (h : NkG L) (k : κ) (v : β) : MPut (encG kv dv L) (kv k) (dv (k, v)) (encG kv dv (putG L k v)) := by
  by_cases hh : hasG L k = true
  · obtain ⟨p, hp, rfl⟩ := hasG_iff.1 hh
    obtain ⟨i, hi, rfl⟩ := List.mem_iff_getElem.1 hp
    refine .inl ⟨i, dv L[i], ?_, encG_one hinj h hi, ?_⟩
    · unfold encG; rw [List.getElem?_map, List.getElem?_eq_getElem hi]; rfl
    · unfold putG
      rw [if_pos hh]
      apply List.ext_getElem
      · simp [encG]
      · intro j h1 h2
        have hj : j < L.length := by simpa [encG] using h1
        rw [List.getElem_set]
        simp only [encG, List.getElem_map]
        by_cases he : i = j
        · subst he; simp
        · have : ¬ L[j].1 = L[i].1 := fun e => he (nkG_one h hi hj e).symm
          rw [if_neg he, if_neg this]
  · refine .inr ⟨encG_no hinj hh, ?_⟩
    unfold putG
    rw [if_neg hh]
    simp [encG]
theorem mgetG (hinj : ∀ {a b}, kv a = kv b → a = b) {L : List (κ × β)} (h : NkG L) (k : κ) (zd d : D) (hd : d = match findG L k with | some v => dv (k, v) | none => zd) : MGet (encG kv dv L) (kv k) zd d := by
  subst hd
  by_cases hh : hasG L k = true
  · obtain ⟨p, hp, rfl⟩ := hasG_iff.1 hh
    obtain ⟨i, hi, rfl⟩ := List.mem_iff_getElem.1 hp
    refine .inl ⟨i, ?_, encG_one hinj h hi⟩
    rw [(findG_mem h L[i]).1 hp]
    unfold encG; rw [List.getElem?_map, List.getElem?_eq_getElem hi]; rfl
  · refine .inr ⟨encG_no hinj hh, ?_⟩
    rw [findG_none.2 (by simpa using hh)]
end

end Go.Proofs.YthcdjmkkgbcaaaaGreatDoor

namespace Go.Proofs.YthcdjmkkgbcaaaaGreatDoor
open Go.RowKit
set_option linter.unusedVariables false

/-! Types. -/
namespace TyKB
end TyKB
open TyH3 TyH4 TyH5 TyJ3 TyJ4 TyJ5 TyKA TyKB

set_option linter.unusedSimpArgs false
structure Thg where
  id : Int
  kind : Int
  title : ByteArray
  code : ByteArray
  since : Int
  parent : Int
  parts : List Int
deriving DecidableEq
structure Mvd where
  src : Int
  dst : Int
deriving DecidableEq
structure Ctl where
  things : List Thg
  moved : List Mvd
deriving DecidableEq
def zT : Thg := ⟨0, 0, ⟨#[]⟩, ⟨#[]⟩, 0, 0, []⟩
instance : Inhabited Thg := ⟨zT⟩
instance : Inhabited Mvd := ⟨⟨0, 0⟩⟩
instance : Inhabited Ctl := ⟨⟨[], []⟩⟩
def Thg.ds (x : Thg) : List D := [.v (.int .i64 x.id), .v (.int .i64 x.kind), .v (.string x.title), .v (.string x.code), .v (.int .i64 x.since), .v (.int .i64 x.parent), .sl (x.parts.map intD)]
def Mvd.ds (x : Mvd) : List D := [.v (.int .i64 x.src), .v (.int .i64 x.dst)]
def Ctl.ds (x : Ctl) : List D := [.sl (x.things.map Thg.ds), .sl (x.moved.map Mvd.ds)]
def i64 (n : Int) : Prop := -9223372036854775808 ≤ n ∧ n ≤ 9223372036854775807
structure ThgOk (x : Thg) : Prop where
  id : i64 x.id
  kind : i64 x.kind
  title : x.title.size ≤ 9223372036854775807
  code : x.code.size ≤ 9223372036854775807
  since : i64 x.since
  parent : i64 x.parent
  parts : ∀ n ∈ x.parts, i64 n
structure CtlOk (c : Ctl) : Prop where
  things : ∀ x ∈ c.things, ThgOk x
  moved : ∀ x ∈ c.moved, i64 x.src ∧ i64 x.dst
/-- No more than there may be. -/
def Lim (c : Ctl) : Prop := c.things.length ≤ 300 ∧ c.moved.length ≤ 300
def Lim2 (c : Ctl) : Prop := c.things.length ≤ 1000 ∧ c.moved.length ≤ 1000
theorem Lim.two {c : Ctl} (h : Lim c) : Lim2 c := ⟨Nat.le_trans h.1 (by decide), Nat.le_trans h.2 (by decide)⟩
theorem i64_0 : i64 0 := ⟨by decide, by decide⟩
theorem zT_ok : ThgOk zT := ⟨i64_0, i64_0, by decide, by decide, i64_0, i64_0, fun n h => by cases h⟩
/-! ## Things by their numbers -/
def idxL (l : List Thg) : List (Int × Thg) := l.map fun t => (t.id, t)
def findT (l : List Thg) (id : Int) : Option Thg := findG (idxL l) id
def getT (l : List Thg) (id : Int) : Thg := (findT l id).getD zT
def thereB (l : List Thg) (id : Int) : Bool := (findT l id).isSome
theorem findT_cons (t : Thg) (l : List Thg) (id : Int) : findT (t :: l) id = if t.id = id then some t else findT l id := findG_cons _ _ _
theorem findT_some {l : List Thg} {id : Int} {t : Thg} (h : findT l id = some t) : t ∈ l ∧ t.id = id := by
  induction l with
  | nil => cases h
  | cons x l ih =>
    rw [findT_cons] at h
    by_cases hx : x.id = id
    · rw [if_pos hx] at h
      obtain rfl := Option.some.inj h
      exact ⟨List.mem_cons_self, hx⟩
    · rw [if_neg hx] at h
      exact ⟨List.mem_cons_of_mem _ (ih h).1, (ih h).2⟩
theorem findT_none {l : List Thg} {id : Int} : findT l id = none ↔ ∀ t ∈ l, t.id ≠ id := by
  induction l with
  | nil => simp [findT, idxL, findG_nil]
  | cons x l ih =>
    rw [findT_cons]
    by_cases hx : x.id = id
    · simp [hx]
    · simp [hx, ih]
theorem findT_first {l : List Thg} {id : Int} {k : Nat} (hk : k < l.length) (h : ∀ t ∈ l.take k, t.id ≠ id) (he : l[k].id = id) : findT l id = some l[k] := by
  induction l generalizing k with
  | nil => simp at hk
  | cons x l ih =>
    rw [findT_cons]
    cases k with
    | zero => exact if_pos he
    | succ k =>
      rw [if_neg (h x (by simp))]
      exact ih (by simpa using hk) (fun t ht => h t (by rw [List.take_succ_cons]; exact List.mem_cons_of_mem _ ht)) he
theorem thereB_no {l : List Thg} {id : Int} : thereB l id = false ↔ findT l id = none := by
  unfold thereB
  cases findT l id <;> simp
theorem getT_ok {l : List Thg} (h : ∀ x ∈ l, ThgOk x) (id : Int) : ThgOk (getT l id) := by
  unfold getT
  cases hf : findT l id with
  | none => exact zT_ok
  | some t => exact h t (findT_some hf).1
theorem getT_id {l : List Thg} {id : Int} (h : thereB l id = true) : (getT l id).id = id ∧ getT l id ∈ l := by
  unfold thereB at h
  unfold getT
  cases hf : findT l id with
  | none => rw [hf] at h; cases h
  | some t => exact ⟨(findT_some hf).2, (findT_some hf).1⟩
theorem getT_no {l : List Thg} {id : Int} (h : thereB l id = false) : getT l id = zT := by unfold getT; rw [thereB_no.1 h]; rfl
theorem take_ne {l : List Thg} {id : Int} {k : Nat} (hk : k < l.length) (h : ∀ t ∈ l.take k, t.id ≠ id) (h2 : ¬ l[k].id = id) : ∀ t ∈ l.take (k + 1), t.id ≠ id := fun t ht => by
  rw [List.take_add_one, List.getElem?_eq_getElem hk, Option.toList_some, List.mem_append, List.mem_singleton] at ht
  rcases ht with ht | ht
  · exact h t ht
  · rw [ht]; exact h2
theorem first_hit {l : List Thg} {id : Int} {k : Nat} (hk : k < l.length) (h : ∀ t ∈ l.take k, t.id ≠ id) (he : l[k].id = id) : getT l id = l[k] ∧ thereB l id = true := by
  have h1 := findT_first hk h he
  unfold getT thereB
  rw [h1]; exact ⟨rfl, rfl⟩
theorem first_no {l : List Thg} {id : Int} {k : Nat} (hk : l.length ≤ k) (h : ∀ t ∈ l.take k, t.id ≠ id) : getT l id = zT ∧ thereB l id = false := by
  rw [List.take_of_length_le hk] at h
  have h1 := findT_none.2 h
  unfold getT thereB
  rw [h1]; exact ⟨rfl, rfl⟩
/-! ## Numbers that moved -/
def mvL (m : List Mvd) : List (Int × Int) := m.map fun x => (x.src, x.dst)
def getM (m : List Mvd) (id : Int) : Int := (findG (mvL m) id).getD 0
def hasM (m : List Mvd) (id : Int) : Bool := (findG (mvL m) id).isSome
theorem findM_cons (x : Mvd) (m : List Mvd) (id : Int) : findG (mvL (x :: m)) id = if x.src = id then some x.dst else findG (mvL m) id := findG_cons _ _ _
theorem findM_none {m : List Mvd} {id : Int} : findG (mvL m) id = none ↔ ∀ x ∈ m, x.src ≠ id := by
  induction m with
  | nil => simp [mvL, findG_nil]
  | cons x m ih =>
    rw [findM_cons]
    by_cases hx : x.src = id
    · simp [hx]
    · simp [hx, ih]
theorem findM_first {m : List Mvd} {id : Int} {k : Nat} (hk : k < m.length) (h : ∀ x ∈ m.take k, x.src ≠ id) (he : m[k].src = id) : findG (mvL m) id = some m[k].dst := by
  induction m generalizing k with
  | nil => simp at hk
  | cons x m ih =>
    rw [findM_cons]
    cases k with
    | zero => exact if_pos he
    | succ k =>
      rw [if_neg (h x (by simp))]
      exact ih (by simpa using hk) (fun t ht => h t (by rw [List.take_succ_cons]; exact List.mem_cons_of_mem _ ht)) he
theorem takeM_ne {m : List Mvd} {id : Int} {k : Nat} (hk : k < m.length) (h : ∀ x ∈ m.take k, x.src ≠ id) (h2 : ¬ m[k].src = id) : ∀ x ∈ m.take (k + 1), x.src ≠ id := fun t ht => by
  rw [List.take_add_one, List.getElem?_eq_getElem hk, Option.toList_some, List.mem_append, List.mem_singleton] at ht
  rcases ht with ht | ht
  · exact h t ht
  · rw [ht]; exact h2
theorem firstM_hit {m : List Mvd} {id : Int} {k : Nat} (hk : k < m.length) (h : ∀ x ∈ m.take k, x.src ≠ id) (he : m[k].src = id) : getM m id = m[k].dst ∧ hasM m id = true := by
  have h1 := findM_first hk h he
  unfold getM hasM
  rw [h1]; exact ⟨rfl, rfl⟩
theorem firstM_no {m : List Mvd} {id : Int} {k : Nat} (hk : m.length ≤ k) (h : ∀ x ∈ m.take k, x.src ≠ id) : getM m id = 0 ∧ hasM m id = false := by
  rw [List.take_of_length_le hk] at h
  have h1 := findM_none.2 h
  unfold getM hasM
  rw [h1]; exact ⟨rfl, rfl⟩
/-! ## Faults -/
def hasPB (k : Int) : Bool := decide (k = 3) || decide (k = 4)
/-- The fault of a thing alone. -/
def thgF (x : Thg) : Int :=
  if kindB x.kind = false then 4
  else if titleOk x.title = false then 3
  else if ¬ x.code = ⟨#[]⟩ ∧ codeF x.kind x.code.data.toList ≠ 0 then codeF x.kind x.code.data.toList
  else if x.since < 0 ∨ 200000 < x.since then 1
  else if (x.kind = 3 ∧ x.parent ≠ 0) ∨ (x.kind = 4 ∧ x.parent = 0) ∨ (x.kind ≤ 2 ∧ 0 < x.parts.length) then 3
  else if 50 < x.parts.length then 2 else 0
def thF (l : List Thg) (k : Nat) : Int :=
  if h : k < l.length then
    if l[k].id < 1 ∨ 1000000 < l[k].id then 1
    else if 0 < k ∧ l[k].id ≤ (l[k-1]'(by omega)).id then 8
    else thgF l[k]
  else 0
def wantK (t : Thg) : Int := if t.kind = 4 then 3 else 1
def parF (l : List Thg) (t : Thg) : Int := if t.parent = 0 then 0 else if thereB l t.parent = false then 9 else if (getT l t.parent).kind ≠ wantK t then 6 else 0
def ptF (l : List Thg) (t : Thg) (k : Nat) : Int := if h : k < t.parts.length then (if thereB l t.parts[k] = false then 9 else if (getT l t.parts[k]).kind ≠ 2 then 6 else 0) else 0
/-- n steps up. -/
def upN (l : List Thg) (a : Int) : Nat → Int
  | 0 => a
  | n + 1 => (getT l (upN l a n)).parent
def loopB (l : List Thg) (t : Thg) : Bool := (List.range l.length).any fun k => decide (upN l t.parent k = t.id)
def linkF (l : List Thg) (t : Thg) : Int := if parF l t ≠ 0 then parF l t else if ffst (ptF l t) t.parts.length ≠ 0 then ffst (ptF l t) t.parts.length else if loopB l t = true then 14 else 0
def twB (l : List Thg) (i : Nat) (t : Thg) : Bool := (l.take i).any fun x => decide (x.kind = t.kind) && decide (x.code = t.code)
def lkF (l : List Thg) (i : Nat) : Int :=
  if h : i < l.length then
    if linkF l l[i] ≠ 0 then linkF l l[i]
    else if ¬ l[i].code = ⟨#[]⟩ ∧ twB l i l[i] = true then 7 else 0
  else 0
/-- Where a number leads, in n steps. -/
def led (c : Ctl) : Nat → Int → Option Int
  | 0, _ => none
  | n + 1, id => if thereB c.things id = true then some id else if hasM c.moved id = true then led c n (getM c.moved id) else none
def ledC (c : Ctl) (id : Int) : Option Int := led c (c.moved.length + 1) id
def mvF (c : Ctl) (i : Nat) : Int :=
  if h : i < c.moved.length then
    if c.moved[i].src < 1 ∨ 1000000 < c.moved[i].src then 1
    else if 0 < i ∧ c.moved[i].src ≤ (c.moved[i-1]'(by omega)).src then 8
    else if thereB c.things c.moved[i].src = true then 7
    else if thereB c.things c.moved[i].dst = false ∧ hasM c.moved c.moved[i].dst = false then 9 else 0
  else 0
def lpF (c : Ctl) (i : Nat) : Int := if h : i < c.moved.length then (if (ledC c c.moved[i].src).isSome = false then 14 else 0) else 0
def mvdF (c : Ctl) : Int := if ffst (mvF c) c.moved.length ≠ 0 then ffst (mvF c) c.moved.length else ffst (lpF c) c.moved.length
/-- The fault of a catalogue. -/
def chkF (c : Ctl) : Int :=
  if 300 < c.things.length ∨ 300 < c.moved.length then 2
  else if ffst (thF c.things) c.things.length ≠ 0 then ffst (thF c.things) c.things.length
  else if ffst (lkF c.things) c.things.length ≠ 0 then ffst (lkF c.things) c.things.length
  else mvdF c
/-! ## What is right -/
theorem thF_0 {l : List Thg} {k : Nat} (hk : k < l.length) (h : thF l k = 0) : (1 ≤ l[k].id ∧ l[k].id ≤ 1000000) ∧ (∀ h0 : 0 < k, (l[k-1]'(by omega)).id < l[k].id) ∧ thgF l[k] = 0 := by
  unfold thF at h
  rw [dif_pos hk] at h
  by_cases h1 : l[k].id < 1 ∨ 1000000 < l[k].id
  · rw [if_pos h1] at h; omega
  · rw [if_neg h1] at h
    by_cases h2 : 0 < k ∧ l[k].id ≤ (l[k-1]'(by omega)).id
    · rw [if_pos h2] at h; omega
    · rw [if_neg h2] at h
      exact ⟨by omega, fun h0 => by
        have h3 : ¬ l[k].id ≤ (l[k-1]'(by omega)).id := fun h3 => h2 ⟨h0, h3⟩
        omega, h⟩
/-- Things whose numbers rise. -/
structure RisT (l : List Thg) : Prop where
  rng : ∀ t ∈ l, 1 ≤ t.id ∧ t.id ≤ 1000000
  up : ∀ i j (hi : i < l.length) (hj : j < l.length), i < j → l[i].id < l[j].id
theorem risT_of {l : List Thg} (h : ffst (thF l) l.length = 0) : RisT l := by
  have h0 := fun k (hk : k < l.length) => thF_0 hk (ffst_all _ h k hk)
  refine ⟨fun t ht => ?_, ?_⟩
  · obtain ⟨k, hk, rfl⟩ := List.mem_iff_getElem.1 ht
    exact (h0 k hk).1
  · intro i j hi hj hij
    induction j with
    | zero => omega
    | succ j ih =>
      have h1 := (h0 (j + 1) hj).2.1 (by omega)
      simp only [Nat.add_sub_cancel] at h1
      by_cases he : i = j
      · subst he; exact h1
      · have := ih (by omega) (by omega); omega
theorem RisT.nk {l : List Thg} (h : RisT l) : NkG (idxL l) := by
  unfold NkG idxL
  rw [List.pairwise_map, List.pairwise_iff_getElem]
  intro i j hi hj hij
  have := h.up i j hi hj hij
  show l[i].id ≠ l[j].id
  omega
theorem RisT.take {l : List Thg} (h : RisT l) (k : Nat) : RisT (l.take k) :=
  ⟨fun t ht => h.rng t (List.mem_of_mem_take ht), fun i j hi hj hij => by
    simp only [List.getElem_take]
    exact h.up i j _ _ hij⟩
theorem RisT.get {l : List Thg} (h : RisT l) {t : Thg} (ht : t ∈ l) : getT l t.id = t ∧ thereB l t.id = true := by
  obtain ⟨k, hk, rfl⟩ := List.mem_iff_getElem.1 ht
  refine first_hit hk (fun x hx => ?_) rfl
  obtain ⟨j, hj, rfl⟩ := List.mem_iff_getElem.1 hx
  have hj2 : j < k := by rw [List.length_take] at hj; omega
  rw [List.getElem_take]
  have := h.up j k (by omega) hk hj2
  omega
theorem RisT.zero {l : List Thg} (h : RisT l) : thereB l 0 = false := thereB_no.2 (findT_none.2 fun t ht => by have := h.rng t ht; omega)
theorem upN_next (l : List Thg) (a : Int) (k : Nat) : upN l a (k + 1) = (getT l (upN l a k)).parent := rfl
theorem upN_gone {l : List Thg} (h : RisT l) {a : Int} {k : Nat} (hk : thereB l (upN l a k) = false) : ∀ j, k < j → upN l a j = 0
  | 0, hj => by omega
  | j + 1, hj => by
    rw [upN_next]
    by_cases he : k = j
    · subst he; rw [getT_no hk]; rfl
    · rw [upN_gone h hk j (by omega), getT_no h.zero]; rfl
theorem loop_yes {l : List Thg} {t : Thg} {k : Nat} (hk : k < l.length) (h : upN l t.parent k = t.id) : loopB l t = true := List.any_eq_true.2 ⟨k, List.mem_range.2 hk, decide_eq_true h⟩
theorem loop_no {l : List Thg} {t : Thg} (h : ∀ j, j < l.length → upN l t.parent j ≠ t.id) : loopB l t = false := by
  rw [Bool.eq_false_iff]
  intro hh
  obtain ⟨k, hk, h2⟩ := List.any_eq_true.1 hh
  exact h k (List.mem_range.1 hk) (of_decide_eq_true h2)
theorem loop_gone {l : List Thg} {t : Thg} (hr : RisT l) (ht : t ∈ l) {k : Nat} (h : ∀ j, j < k → upN l t.parent j ≠ t.id) (hk : thereB l (upN l t.parent k) = false) : loopB l t = false := by
  refine loop_no fun j _ he => ?_
  rcases Nat.lt_trichotomy j k with h1 | h1 | h1
  · exact h j h1 he
  · subst h1
    rw [he, (hr.get ht).2] at hk; cases hk
  · rw [upN_gone hr hk j h1] at he
    have := hr.rng t ht
    omega
theorem up_next {l : List Thg} {t : Thg} {k : Nat} (h : ∀ j, j < k → upN l t.parent j ≠ t.id) (h2 : ¬ upN l t.parent k = t.id) : ∀ j, j < k + 1 → upN l t.parent j ≠ t.id := fun j hj => by
  by_cases he : j = k
  · subst he; exact h2
  · exact h j (by omega)
theorem link_p {l : List Thg} {t : Thg} {n : Int} (h : parF l t = n) (hn : n ≠ 0) : linkF l t = n := by unfold linkF; rw [if_pos (by rw [h]; exact hn), h]
theorem link_q {l : List Thg} {t : Thg} {k : Nat} {n : Int} (h : parF l t = 0) (hk : k < t.parts.length) (hf : ffst (ptF l t) k = 0) (h2 : ptF l t k = n) (hn : n ≠ 0) : linkF l t = n := by
  have h3 := ffst_hit hf (by rw [h2]; exact hn) _ hk
  unfold linkF
  rw [if_neg (by omega), h3, h2, if_pos hn]
theorem link_l {l : List Thg} {t : Thg} (h : parF l t = 0) (hf : ffst (ptF l t) t.parts.length = 0) : linkF l t = if loopB l t = true then 14 else 0 := by
  unfold linkF
  rw [if_neg (by omega), if_neg (by omega)]
theorem par_0 {l : List Thg} {t : Thg} (h : t.parent = 0) : parF l t = 0 := if_pos h
theorem par_9 {l : List Thg} {t : Thg} (h : ¬ t.parent = 0) (h2 : thereB l t.parent = false) : parF l t = 9 := by unfold parF; rw [if_neg h, if_pos h2]
theorem par_6 {l : List Thg} {t : Thg} (h : ¬ t.parent = 0) (h2 : thereB l t.parent = true) (h3 : ¬ (getT l t.parent).kind = wantK t) : parF l t = 6 := by unfold parF; rw [if_neg h, if_neg (by rw [h2]; decide), if_pos h3]
theorem par_ok {l : List Thg} {t : Thg} (h : ¬ t.parent = 0) (h2 : thereB l t.parent = true) (h3 : (getT l t.parent).kind = wantK t) : parF l t = 0 := by unfold parF; rw [if_neg h, if_neg (by rw [h2]; decide), if_neg (by rw [h3]; exact fun hh => hh rfl)]
theorem pt_9 {l : List Thg} {t : Thg} {k : Nat} (hk : k < t.parts.length) (h2 : thereB l t.parts[k] = false) : ptF l t k = 9 := by unfold ptF; rw [dif_pos hk, if_pos h2]
theorem pt_6 {l : List Thg} {t : Thg} {k : Nat} (hk : k < t.parts.length) (h2 : thereB l t.parts[k] = true) (h3 : ¬ (getT l t.parts[k]).kind = 2) : ptF l t k = 6 := by unfold ptF; rw [dif_pos hk, if_neg (by rw [h2]; decide), if_pos h3]
theorem pt_ok {l : List Thg} {t : Thg} {k : Nat} (hk : k < t.parts.length) (h2 : thereB l t.parts[k] = true) (h3 : (getT l t.parts[k]).kind = 2) : ptF l t k = 0 := by unfold ptF; rw [dif_pos hk, if_neg (by rw [h2]; decide), if_neg (by rw [h3]; exact fun hh => hh rfl)]

end Go.Proofs.YthcdjmkkgbcaaaaGreatDoor

namespace Go.Proofs.YthcdjmkkgbcaaaaGreatDoor
open Go.RowKit
set_option linter.unusedVariables false

/-! Types. -/
namespace TyKC
theorem ag_54 : AggT Tryz.prog 54 2 := .of (by kernel_rfl)
theorem ag_61 : AggT Tryz.prog 61 7 := .of (by kernel_rfl)
theorem bu_61 : StructT Tryz.prog 61 (fun i => (#[(0, 1), (1, 1), (2, 1), (3, 1), (4, 1), (5, 1), (6, 1)] : Array (Nat × Nat))[i]?) [(.int .i64 0), (.int .i64 0), (.string ⟨#[]⟩), (.string ⟨#[]⟩), (.int .i64 0), (.int .i64 0), (.slice none 0 0)] := .of (by kernel_rfl) (by kernel_rfl) (by decide)
theorem et_22 : ElemTy Tryz.prog 22 61 7 88 (.agg #[(.int .i64 0), (.int .i64 0), (.string ⟨#[]⟩), (.string ⟨#[]⟩), (.int .i64 0), (.int .i64 0), (.slice none 0 0)]) := ⟨by kernel_rfl, by kernel_rfl, by kernel_rfl, by decide⟩
theorem et_23 : ElemTy Tryz.prog 23 54 2 16 (.agg #[(.int .i64 0), (.int .i64 0)]) := ⟨by kernel_rfl, by kernel_rfl, by kernel_rfl, by decide⟩
theorem fo_25_0 : fieldOff Tryz.prog 25 0 = some 0 := by kernel_rfl
theorem fo_25_1 : fieldOff Tryz.prog 25 1 = some 1 := by kernel_rfl
theorem fo_54_0 : fieldOff Tryz.prog 54 0 = some 0 := by kernel_rfl
theorem fo_54_1 : fieldOff Tryz.prog 54 1 = some 1 := by kernel_rfl
theorem fo_61_0 : fieldOff Tryz.prog 61 0 = some 0 := by kernel_rfl
theorem fo_61_1 : fieldOff Tryz.prog 61 1 = some 1 := by kernel_rfl
theorem fo_61_2 : fieldOff Tryz.prog 61 2 = some 2 := by kernel_rfl
theorem fo_61_3 : fieldOff Tryz.prog 61 3 = some 3 := by kernel_rfl
theorem fo_61_4 : fieldOff Tryz.prog 61 4 = some 4 := by kernel_rfl
theorem fo_61_5 : fieldOff Tryz.prog 61 5 = some 5 := by kernel_rfl
theorem fo_61_6 : fieldOff Tryz.prog 61 6 = some 6 := by kernel_rfl
theorem sc_22 : Scal Tryz.prog 22 := .of (by kernel_rfl)
theorem sc_23 : Scal Tryz.prog 23 := .of (by kernel_rfl)
theorem sc_39 : Scal Tryz.prog 39 := .of (by kernel_rfl)
theorem sz_54 : ∀ w, (sizeOf 54).run Tryz.prog w = .ok 2 w := SizeT.of (by kernel_rfl)
theorem sz_61 : ∀ w, (sizeOf 61).run Tryz.prog w = .ok 7 w := SizeT.of (by kernel_rfl)
theorem zt_54 : (Tryz.prog.info? 54).bind (·.zero) = some (.agg #[(.int .i64 0), (.int .i64 0)]) := by kernel_rfl
theorem zt_61 : (Tryz.prog.info? 61).bind (·.zero) = some (.agg #[(.int .i64 0), (.int .i64 0), (.string ⟨#[]⟩), (.string ⟨#[]⟩), (.int .i64 0), (.int .i64 0), (.slice none 0 0)]) := by kernel_rfl
end TyKC
open TyH3 TyH4 TyH5 TyJ3 TyJ4 TyJ5 TyKA TyKB TyKC

set_option linter.unusedSimpArgs false
theorem bs_of (s : ByteArray) : bStr s.data.toList = s := by cases s; simp [bStr]
theorem c_pCodeS (kind : Int) (s : ByteArray) (h : s.size ≤ 9223372036854775807) : ACall Tryz.prog 91 [.v (.int .i64 kind), .v (.string s)] (.v (.int .i64 (codeF kind s.data.toList))) := by
 have := c_pCode kind s.data.toList (by rw [← Lib.size_eq]; exact h)
 rw [bs_of] at this; exact this
theorem c_rCodeS (kind : Int) (s : ByteArray) (h : s.size ≤ 9223372036854775807) : ACall Tryz.prog 97 [.v (.int .i64 kind), .v (.string s)] (.v (.int .i64 (codeF kind s.data.toList))) := by
 have := c_rCode kind s.data.toList (by rw [← Lib.size_eq]; exact h)
 rw [bs_of] at this; exact this
theorem has_no {k : Int} (hk : kindB k = true) (h : hasPB k = false) : k ≤ 2 := by
  unfold kindB at hk; unfold hasPB at h
  simp at hk h
  omega
theorem has_yes {k : Int} (hk : kindB k = true) (h : hasPB k = true) : ¬ k ≤ 2 := by
  unfold kindB at hk; unfold hasPB at h
  simp at hk h
  omega
/-! ## The index -/
def kI (n : Int) : Value := .int .i64 n
def dT (p : Int × Thg) : D := .agg p.2.ds
def dI (p : Int × Int) : D := .v (.int .i64 p.2)
def idxM (l : List Thg) : List (Value × D) := encG kI dT (idxL l)
def toM (L : List (Int × Int)) : List (Value × D) := encG kI dI L
theorem kI_inj {a b : Int} (h : kI a = kI b) : a = b := by unfold kI at h; injection h
theorem wf64 {n : Int} (h : i64 n) : (Lit.int .i64 n).wf = true := by unfold i64 at h; simpa [Lit.wf, IntKind.min, IntKind.max, IntKind.signed, IntKind.bits] using h
theorem mt_idx : Tryz.prog.underlying 101 = some (.map 3 61) := by kernel_rfl
theorem mt_to : Tryz.prog.underlying 134 = some (.map 3 3) := by kernel_rfl
theorem kd_int : Maps.Keyed Tryz.prog 3 := Maps.int_keyed (q := .i64) Tryz.underlying3
theorem kI_ok {n : Int} (h : i64 n) : ∃ l, keyOf Tryz.prog 3 (kI n) = some l := ⟨_, Maps.keyOf_int_mk Tryz.underlying3 (wf64 h)⟩
def zThg : List Value := [.int .i64 0, .int .i64 0, .string ⟨#[]⟩, .string ⟨#[]⟩, .int .i64 0, .int .i64 0, .slice none 0 0]
theorem zt_thg : (Tryz.prog.info? 61).bind (·.zero) = some (.agg zThg.toArray) := by kernel_rfl
theorem zt_int : (Tryz.prog.info? 3).bind (·.zero) = some (.int .i64 0) := by kernel_rfl
theorem zd_thg (F : Nat → Prop) (w : World) : Rep F w (.agg zThg.toArray) (.agg zT.ds) := .agg zThg zT.ds rfl (fun i hi => by
    match i, hi with
    | 0, _ => rfl
    | 1, _ => rfl
    | 2, _ => rfl
    | 3, _ => rfl
    | 4, _ => rfl
    | 5, _ => rfl
    | 6, _ => rfl) fun i hi _ => by
  match i, hi with
  | 0, _ => exact .v _
  | 1, _ => exact .v _
  | 2, _ => exact .v _
  | 3, _ => exact .v _
  | 4, _ => exact .v _
  | 5, _ => exact .v _
  | 6, _ => exact .nil
theorem zd_int (F : Nat → Prop) (w : World) : Rep F w (.int .i64 0) (.v (.int .i64 0)) := .v _
theorem idxM_keys {l : List Thg} (h : ∀ x ∈ l, ThgOk x) : ∀ p ∈ idxM l, ∃ q, keyOf Tryz.prog 3 p.1 = some q := fun p hp => by
  unfold idxM encG idxL at hp
  rw [List.map_map] at hp
  obtain ⟨t, ht, rfl⟩ := List.mem_map.1 hp
  exact kI_ok (h t ht).id
theorem toM_keys {L : List (Int × Int)} (h : ∀ p ∈ L, i64 p.1) : ∀ p ∈ toM L, ∃ q, keyOf Tryz.prog 3 p.1 = some q := fun p hp => by
  unfold toM encG at hp
  obtain ⟨t, ht, rfl⟩ := List.mem_map.1 hp
  exact kI_ok (h t ht)
theorem idx_len (l : List Thg) : (idxM l).length = l.length := by simp [idxM, encG, idxL]
theorem put_idx {l : List Thg} (h : RisT l) {k : Nat} (hk : k < l.length) : MPut (idxM (l.take k)) (kI l[k].id) (.agg l[k].ds) (idxM (l.take (k + 1))) := by
  have h1 := mputG (kv := kI) (dv := dT) kI_inj (h.take k).nk l[k].id l[k]
  have h2 : putG (idxL (l.take k)) l[k].id l[k] = idxL (l.take (k + 1)) := by
    have hno : ¬ hasG (idxL (l.take k)) l[k].id = true := fun hh => by
      obtain ⟨p, hp, he⟩ := hasG_iff.1 hh
      unfold idxL at hp
      obtain ⟨t, ht, rfl⟩ := List.mem_map.1 hp
      obtain ⟨j, hj, rfl⟩ := List.mem_iff_getElem.1 ht
      rw [List.length_take] at hj
      rw [List.getElem_take] at he
      have := h.up j k (by omega) hk (by omega)
      dsimp only at he
      omega
    unfold putG
    rw [if_neg hno]
    unfold idxL
    rw [List.take_add_one, List.getElem?_eq_getElem hk, Option.toList_some, List.map_append]
    rfl
  rw [h2] at h1
  exact h1
theorem get_idx {l : List Thg} (h : NkG (idxL l)) (id : Int) : MGet (idxM l) (kI id) (.agg zT.ds) (.agg (getT l id).ds) :=
  mgetG (kv := kI) (dv := dT) kI_inj h id _ _ (by unfold getT findT; cases findG (idxL l) id <;> rfl)
theorem mgetokG {κ β : Type} [DecidableEq κ] {kv : κ → Value} {dv : κ × β → D} (hinj : ∀ {a b}, kv a = kv b → a = b) {L : List (κ × β)} (h : NkG L) (k : κ) (zd d : D) (hd : d = match findG L k with | some v => dv (k, v) | none => zd) : MGetOk (encG kv dv L) (kv k) zd d (findG L k).isSome := by
  subst hd
  by_cases hh : hasG L k = true
  · obtain ⟨p, hp, rfl⟩ := hasG_iff.1 hh
    obtain ⟨i, hi, rfl⟩ := List.mem_iff_getElem.1 hp
    refine .inl ⟨?_, i, ?_, encG_one hinj h hi⟩
    · rw [(findG_mem h L[i]).1 hp]; rfl
    · rw [(findG_mem h L[i]).1 hp]
      unfold encG; rw [List.getElem?_map, List.getElem?_eq_getElem hi]; rfl
  · refine .inr ⟨?_, encG_no hinj hh, ?_⟩
    · rw [findG_none.2 (by simpa using hh)]; rfl
    · rw [findG_none.2 (by simpa using hh)]
theorem getok_idx {l : List Thg} (h : NkG (idxL l)) (id : Int) : MGetOk (idxM l) (kI id) (.agg zT.ds) (.agg (getT l id).ds) (thereB l id) :=
  mgetokG (kv := kI) (dv := dT) kI_inj h id _ _ (by unfold getT findT; cases findG (idxL l) id <;> rfl)
theorem map_1 {i : Nat} {A A' : List (Value × D)} {τ : Obs} (h : A = A') : ∀ p ∈ [(i, Ob.map A')], p ∈ (i, Ob.map A) :: τ := fun p hp => by
  subst h
  rw [List.mem_singleton] at hp
  subst hp; exact .head _

set_option maxRecDepth 100000 in
set_option maxHeartbeats 1000000 in
theorem c_pHas (k : Int) : ACall Tryz.prog 92 [.v (.int .i64 k)] (.v (.bool (hasPB k))) := by
 refine acall_of (n := 9) (ds' := [.v (.bool (hasPB k))]) Tryz.func92 rfl (by kernel_rfl) rfl [2] rfl rfl ?_
 intro B w0 F0 fr
 refine .sr ?_
 refine .aA (.nil ?_)
 refine .sr ?_
 refine .mA ?_
 refine .sA (.eql rfl rfl rfl) ?_
 refine .mA ?_
 refine .split 5 rfl (fun g1 => ?_) (fun g1 => ?_)
 ·replace g1 := of_decide_eq_true g1
  refine .pA ?_
  refine .pA ?_
  refine .sA (.pickT rfl rfl rfl) ?_
  refine .aA (.nil ?_)
  refine .ret ?_
  refine ⟨RetD.eq rfl ?_, trivial⟩
  all_goals (simp [hasPB]; omega)
 replace g1 := of_decide_eq_false g1
 refine .sG (.moveD rfl rfl) ?_
 refine .sG (.eql rfl rfl rfl) ?_
 refine .sA (.pickF rfl rfl rfl) ?_
 refine .aA (.nil ?_)
 refine .ret ?_
 refine ⟨RetD.eq rfl ?_, trivial⟩
 all_goals (simp [hasPB]; omega)

set_option maxRecDepth 100000 in
set_option maxHeartbeats 1000000 in
theorem c_pThg (x : Thg) (hx : ThgOk x) : ACallT Tryz.prog MaxT 55 [.agg x.ds] (.v (.int .i64 (thgF x))) := by
 refine acall_ofT (n := 66) (ds' := [.v (.int .i64 (thgF x))]) Tryz.func55 rfl (by kernel_rfl) rfl [2] rfl rfl ?_
 intro B w0 F0 hT
 have hpl : (x.parts.map intD).length = x.parts.length := List.length_map ..
 refine .sr ?_
 refine .sA (.box rfl rfl rfl) ?_
 refine .aA (.nil ?_)
 refine .seq ?_
 refine .block ?_
 refine .sr ?_
 refine .sA (.fieldAddr rfl fo_61_1 rfl) ?_
 refine .sA (.load rfl sc_3 rfl) ?_
 refine .sA (.call rfl (.cons (.rfl' rfl) .nil) (c_pKind _)) ?_
 refine .sA (.not rfl rfl) ?_
 refine .aA (.nil ?_)
 refine .cond rfl (fun h1 => ?_) (fun h1 => ?_)
 ·replace h1 := bnot_t h1
  have HR : thgF x = 4 := if_pos h1
  refine .sr ?_
  refine .aA (.nil ?_)
  refine .ret ?_
  refine ⟨RetD.eq rfl ?_, trivial⟩
  all_goals (first | (exfalso; omega) | rw [HR] | rw [show thgF x = 1 from by unfold thgF; (first | (exfalso; omega) | ((repeat (first | rw [if_pos (by first | assumption | omega)] | rw [if_neg (by first | assumption | omega)])); first | done | rfl | omega | decide))] | rw [show thgF x = 3 from by unfold thgF; (first | (exfalso; omega) | ((repeat (first | rw [if_pos (by first | assumption | omega)] | rw [if_neg (by first | assumption | omega)])); first | done | rfl | omega | decide))] | rw [show thgF x = 2 from by unfold thgF; (first | (exfalso; omega) | ((repeat (first | rw [if_pos (by first | assumption | omega)] | rw [if_neg (by first | assumption | omega)])); first | done | rfl | omega | decide))] | rw [show thgF x = 0 from by unfold thgF; (first | (exfalso; omega) | ((repeat (first | rw [if_pos (by first | assumption | omega)] | rw [if_neg (by first | assumption | omega)])); first | done | rfl | omega | decide))])
 replace h1 := bnot_f h1
 have hkd := h1
 have n0 : ¬ kindB x.kind = false := by rw [hkd]; decide
 refine .sr ?_
 refine .sA (.fieldAddr rfl fo_61_2 rfl) ?_
 refine .sA (.load rfl sc_9 rfl) ?_
 -- wants the world
 refine .callT rfl rfl rfl hT maxT_stays rfl (.cons (.rfl' rfl) .nil) (c_pTitle _ hx.title) ?_
 refine .sA (.not rfl rfl) ?_
 refine .aA (.nil ?_)
 refine .cond rfl (fun h2 => ?_) (fun h2 => ?_)
 ·replace h2 := bnot_t h2
  have n1 : titleOk x.title = false := h2
  have HR : thgF x = 3 := by unfold thgF; (first | (exfalso; omega) | ((repeat (first | rw [if_pos (by first | assumption | omega)] | rw [if_neg (by first | assumption | omega)])); first | done | rfl | omega | decide))
  refine .sr ?_
  refine .aA (.nil ?_)
  refine .ret ?_
  refine ⟨RetD.eq rfl ?_, trivial⟩
  all_goals (first | (exfalso; omega) | rw [HR] | rw [show thgF x = 1 from by unfold thgF; (first | (exfalso; omega) | ((repeat (first | rw [if_pos (by first | assumption | omega)] | rw [if_neg (by first | assumption | omega)])); first | done | rfl | omega | decide))] | rw [show thgF x = 3 from by unfold thgF; (first | (exfalso; omega) | ((repeat (first | rw [if_pos (by first | assumption | omega)] | rw [if_neg (by first | assumption | omega)])); first | done | rfl | omega | decide))] | rw [show thgF x = 2 from by unfold thgF; (first | (exfalso; omega) | ((repeat (first | rw [if_pos (by first | assumption | omega)] | rw [if_neg (by first | assumption | omega)])); first | done | rfl | omega | decide))] | rw [show thgF x = 0 from by unfold thgF; (first | (exfalso; omega) | ((repeat (first | rw [if_pos (by first | assumption | omega)] | rw [if_neg (by first | assumption | omega)])); first | done | rfl | omega | decide))])
 replace h2 := bnot_f h2
 have n1 : ¬ titleOk x.title = false := by rw [h2]; decide
 refine .skip ?_
 refine .seqJ ((¬ (¬ x.code = ⟨#[]⟩ ∧ codeF x.kind x.code.data.toList ≠ 0))) (Env.of [(1, .d (.fp x.ds))]) [] ?_ (fun n2 => ?_)
 ·skip
  refine .sr ?_
  refine .sA (.fieldAddr rfl fo_61_3 rfl) ?_
  refine .sA (.load rfl sc_9 rfl) ?_
  refine .sA (.sneq rfl rfl rfl) (.nil ?_)
  refine .cond rfl (fun h3 => ?_) (fun h3 => ?_)
  ·replace h3 := of_decide_eq_true h3
   have hco := h3
   refine .sr ?_
   refine .sA (.fieldAddr rfl fo_61_1 rfl) ?_
   refine .sA (.load rfl sc_3 rfl) ?_
   refine .sA (.fieldAddr rfl fo_61_3 rfl) ?_
   refine .sA (.load rfl sc_9 rfl) ?_
   refine .sA (.call rfl (.cons (.rfl' rfl) (.cons (.rfl' rfl) .nil)) (c_pCodeS _ _ hx.code)) ?_
   refine .aA (.nil ?_)
   refine .sr ?_
   refine .mA ?_
   refine .sA (.neq rfl rfl rfl) (.nil ?_)
   refine .cond rfl (fun h4 => ?_) (fun h4 => ?_)
   ·replace h4 := of_decide_eq_true h4
    have n2 : ¬ x.code = ⟨#[]⟩ ∧ codeF x.kind x.code.data.toList ≠ 0 := ⟨hco, h4⟩
    have HR : thgF x = codeF x.kind x.code.data.toList := by unfold thgF; (first | (exfalso; omega) | ((repeat (first | rw [if_pos (by first | assumption | omega)] | rw [if_neg (by first | assumption | omega)])); first | done | rfl | omega | decide))
    refine .sr ?_
    refine .mA ?_
    refine .aA (.nil ?_)
    refine .ret ?_
    refine ⟨RetD.eq rfl ?_, trivial⟩
    all_goals (first | (exfalso; omega) | rw [HR] | rw [show thgF x = 1 from by unfold thgF; (first | (exfalso; omega) | ((repeat (first | rw [if_pos (by first | assumption | omega)] | rw [if_neg (by first | assumption | omega)])); first | done | rfl | omega | decide))] | rw [show thgF x = 3 from by unfold thgF; (first | (exfalso; omega) | ((repeat (first | rw [if_pos (by first | assumption | omega)] | rw [if_neg (by first | assumption | omega)])); first | done | rfl | omega | decide))] | rw [show thgF x = 2 from by unfold thgF; (first | (exfalso; omega) | ((repeat (first | rw [if_pos (by first | assumption | omega)] | rw [if_neg (by first | assumption | omega)])); first | done | rfl | omega | decide))] | rw [show thgF x = 0 from by unfold thgF; (first | (exfalso; omega) | ((repeat (first | rw [if_pos (by first | assumption | omega)] | rw [if_neg (by first | assumption | omega)])); first | done | rfl | omega | decide))])
   replace h4 := of_decide_eq_false h4
   have n2 : ¬ (¬ x.code = ⟨#[]⟩ ∧ codeF x.kind x.code.data.toList ≠ 0) := fun hh => h4 hh.2
   refine .skip ?_
   refine ⟨?_, Sub.less ⟨SLe.refl _, trivial⟩ (fun _ h => h)⟩
   exact n2
  replace h3 := of_decide_eq_false h3
  have n2 : ¬ (¬ x.code = ⟨#[]⟩ ∧ codeF x.kind x.code.data.toList ≠ 0) := fun hh => h3 hh.1
  refine .skip ?_
  refine ⟨?_, Sub.less ⟨SLe.refl _, trivial⟩ (fun _ h => h)⟩
  exact n2
 refine .seq ?_
 refine .block ?_
 refine .sr ?_
 refine .sA (.fieldAddr rfl fo_61_4 rfl) ?_
 refine .sA (.load rfl sc_3 rfl) ?_
 refine .sA (.lss rfl rfl rfl) ?_
 refine .mA ?_
 refine .split 29 rfl (fun g5 => ?_) (fun g5 => ?_)
 ·replace g5 := of_decide_eq_true g5
  refine .pA ?_
  refine .pA ?_
  refine .pA ?_
  refine .sA (.pickT rfl rfl rfl) ?_
  refine .aA (.nil ?_)
  refine .cond rfl (fun _ => ?_) (fun h => nomatch h)
  refine .sr ?_
  refine .aA (.nil ?_)
  refine .ret ?_
  refine ⟨RetD.eq rfl ?_, trivial⟩
  all_goals (first | (exfalso; omega) | rw [HR] | rw [show thgF x = 1 from by unfold thgF; (first | (exfalso; omega) | ((repeat (first | rw [if_pos (by first | assumption | omega)] | rw [if_neg (by first | assumption | omega)])); first | done | rfl | omega | decide))] | rw [show thgF x = 3 from by unfold thgF; (first | (exfalso; omega) | ((repeat (first | rw [if_pos (by first | assumption | omega)] | rw [if_neg (by first | assumption | omega)])); first | done | rfl | omega | decide))] | rw [show thgF x = 2 from by unfold thgF; (first | (exfalso; omega) | ((repeat (first | rw [if_pos (by first | assumption | omega)] | rw [if_neg (by first | assumption | omega)])); first | done | rfl | omega | decide))] | rw [show thgF x = 0 from by unfold thgF; (first | (exfalso; omega) | ((repeat (first | rw [if_pos (by first | assumption | omega)] | rw [if_neg (by first | assumption | omega)])); first | done | rfl | omega | decide))])
 replace g5 := of_decide_eq_false g5
 refine .sG (.fieldAddr rfl fo_61_4 rfl) ?_
 refine .sG (.load rfl sc_3 rfl) ?_
 refine .sG (.gtr rfl rfl rfl) ?_
 refine .sA (.pickF rfl rfl rfl) ?_
 refine .aA (.nil ?_)
 refine .cond rfl (fun h6 => ?_) (fun h6 => ?_)
 ·replace h6 := of_decide_eq_true h6
  refine .sr ?_
  refine .aA (.nil ?_)
  refine .ret ?_
  refine ⟨RetD.eq rfl ?_, trivial⟩
  all_goals (first | (exfalso; omega) | rw [HR] | rw [show thgF x = 1 from by unfold thgF; (first | (exfalso; omega) | ((repeat (first | rw [if_pos (by first | assumption | omega)] | rw [if_neg (by first | assumption | omega)])); first | done | rfl | omega | decide))] | rw [show thgF x = 3 from by unfold thgF; (first | (exfalso; omega) | ((repeat (first | rw [if_pos (by first | assumption | omega)] | rw [if_neg (by first | assumption | omega)])); first | done | rfl | omega | decide))] | rw [show thgF x = 2 from by unfold thgF; (first | (exfalso; omega) | ((repeat (first | rw [if_pos (by first | assumption | omega)] | rw [if_neg (by first | assumption | omega)])); first | done | rfl | omega | decide))] | rw [show thgF x = 0 from by unfold thgF; (first | (exfalso; omega) | ((repeat (first | rw [if_pos (by first | assumption | omega)] | rw [if_neg (by first | assumption | omega)])); first | done | rfl | omega | decide))])
 replace h6 := of_decide_eq_false h6
 refine .seqJ ((¬ (x.since < 0 ∨ 200000 < x.since))) (Env.of [(1, .d (.fp x.ds)), (34, .d (.v (.bool (decide ((x.kind = 3 ∧ x.parent ≠ 0) ∨ (x.kind = 4 ∧ x.parent = 0) ∨ (x.kind ≤ 2 ∧ 0 < x.parts.length))))))]) [] ?_ (fun hS => ?_)
 ·skip
  refine .sr ?_
  refine .sA (.fieldAddr rfl fo_61_1 rfl) ?_
  refine .sA (.load rfl sc_3 rfl) ?_
  refine .sA (.eql rfl rfl rfl) ?_
  refine .mA ?_
  refine .split 38 rfl (fun g7 => ?_) (fun g7 => ?_)
  ·replace g7 := of_decide_eq_true g7
   refine .sG (.fieldAddr rfl fo_61_5 rfl) ?_
   refine .sG (.load rfl sc_3 rfl) ?_
   refine .sG (.neq rfl rfl rfl) ?_
   refine .sA (.pickT rfl rfl rfl) ?_
   refine .aA (.nil ?_)
   refine .cond rfl (fun h8 => ?_) (fun h8 => ?_)
   ·replace h8 := of_decide_eq_true h8
    refine .skip ?_
    refine ⟨?_, Sub.less ⟨SLe.refl _, (SLe.of_eq (bool_eq (by first | (simp only [true_iff, decide_eq_true_eq, Bool.false_eq_true, false_iff]; omega) | (simp; omega)))), trivial⟩ (fun _ h => h)⟩
    omega
   replace h8 := of_decide_eq_false h8
   refine .sr ?_
   refine .sA (.fieldAddr rfl fo_61_1 rfl) ?_
   refine .sA (.load rfl sc_3 rfl) ?_
   refine .sA (.eql rfl rfl rfl) ?_
   refine .mA ?_
   refine .split 46 rfl (fun g9 => ?_) (fun g9 => ?_)
   ·replace g9 := of_decide_eq_true g9
    refine .sG (.fieldAddr rfl fo_61_5 rfl) ?_
    refine .sG (.load rfl sc_3 rfl) ?_
    refine .sG (.eql rfl rfl rfl) ?_
    refine .sA (.pickT rfl rfl rfl) ?_
    refine .aA (.nil ?_)
    refine .cond rfl (fun h10 => ?_) (fun h10 => ?_)
    ·replace h10 := of_decide_eq_true h10
     refine .skip ?_
     refine ⟨?_, Sub.less ⟨SLe.refl _, (SLe.of_eq (bool_eq (by first | (simp only [true_iff, decide_eq_true_eq, Bool.false_eq_true, false_iff]; omega) | (simp; omega)))), trivial⟩ (fun _ h => h)⟩
     omega
    replace h10 := of_decide_eq_false h10
    refine .region ?_
    refine .sA (.fieldAddr rfl fo_61_1 rfl) ?_
    refine .sA (.load rfl sc_3 rfl) ?_
    refine .sA (.call rfl (.cons (.rfl' rfl) .nil) (c_pHas _)) ?_
    refine .sA (.not rfl rfl) ?_
    refine .mA ?_
    refine .split 55 rfl (fun g11 => ?_) (fun g11 => ?_)
    ·replace g11 := bnot_t g11
     have hk2 := has_no hkd g11
     refine .sG (.fieldAddr rfl fo_61_6 rfl) ?_
     refine .sG (.load rfl sc_39 rfl) ?_
     refine .sG (.lenSl rfl et_39.ht rfl) ?_
     refine .sG (.gtr rfl rfl rfl) ?_
     refine .sA (.pickT rfl rfl rfl) ?_
     refine .aA (.nil ?_)
     refine ⟨?_, Sub.less ⟨SLe.refl _, (SLe.of_eq (bool_eq (by first | (simp only [true_iff, decide_eq_true_eq, Bool.false_eq_true, false_iff]; omega) | (simp; omega)))), trivial⟩ (fun _ h => h)⟩
     omega
    replace g11 := bnot_f g11
    have hk3 := has_yes hkd g11
    refine .pA ?_
    refine .pA ?_
    refine .pA ?_
    refine .pA ?_
    refine .sA (.pickF rfl rfl rfl) ?_
    refine .aA (.nil ?_)
    refine ⟨?_, Sub.less ⟨SLe.refl _, (SLe.of_eq (bool_eq (by first | (simp only [true_iff, decide_eq_true_eq, Bool.false_eq_true, false_iff]; omega) | (simp; omega)))), trivial⟩ (fun _ h => h)⟩
    omega
   replace g9 := of_decide_eq_false g9
   refine .pA ?_
   refine .pA ?_
   refine .pA ?_
   refine .sA (.pickF rfl rfl rfl) ?_
   refine .aA (.nil ?_)
   refine .cond rfl (fun h => nomatch h) (fun _ => ?_)
   refine .region ?_
   refine .sA (.fieldAddr rfl fo_61_1 rfl) ?_
   refine .sA (.load rfl sc_3 rfl) ?_
   refine .sA (.call rfl (.cons (.rfl' rfl) .nil) (c_pHas _)) ?_
   refine .sA (.not rfl rfl) ?_
   refine .mA ?_
   refine .split 55 rfl (fun g12 => ?_) (fun g12 => ?_)
   ·replace g12 := bnot_t g12
    have hk2 := has_no hkd g12
    refine .sG (.fieldAddr rfl fo_61_6 rfl) ?_
    refine .sG (.load rfl sc_39 rfl) ?_
    refine .sG (.lenSl rfl et_39.ht rfl) ?_
    refine .sG (.gtr rfl rfl rfl) ?_
    refine .sA (.pickT rfl rfl rfl) ?_
    refine .aA (.nil ?_)
    refine ⟨?_, Sub.less ⟨SLe.refl _, (SLe.of_eq (bool_eq (by first | (simp only [true_iff, decide_eq_true_eq, Bool.false_eq_true, false_iff]; omega) | (simp; omega)))), trivial⟩ (fun _ h => h)⟩
    omega
   replace g12 := bnot_f g12
   have hk3 := has_yes hkd g12
   refine .pA ?_
   refine .pA ?_
   refine .pA ?_
   refine .pA ?_
   refine .sA (.pickF rfl rfl rfl) ?_
   refine .aA (.nil ?_)
   refine ⟨?_, Sub.less ⟨SLe.refl _, (SLe.of_eq (bool_eq (by first | (simp only [true_iff, decide_eq_true_eq, Bool.false_eq_true, false_iff]; omega) | (simp; omega)))), trivial⟩ (fun _ h => h)⟩
   omega
  replace g7 := of_decide_eq_false g7
  refine .pA ?_
  refine .pA ?_
  refine .pA ?_
  refine .sA (.pickF rfl rfl rfl) ?_
  refine .aA (.nil ?_)
  refine .cond rfl (fun h => nomatch h) (fun _ => ?_)
  refine .sr ?_
  refine .sA (.fieldAddr rfl fo_61_1 rfl) ?_
  refine .sA (.load rfl sc_3 rfl) ?_
  refine .sA (.eql rfl rfl rfl) ?_
  refine .mA ?_
  refine .split 46 rfl (fun g13 => ?_) (fun g13 => ?_)
  ·replace g13 := of_decide_eq_true g13
   refine .sG (.fieldAddr rfl fo_61_5 rfl) ?_
   refine .sG (.load rfl sc_3 rfl) ?_
   refine .sG (.eql rfl rfl rfl) ?_
   refine .sA (.pickT rfl rfl rfl) ?_
   refine .aA (.nil ?_)
   refine .cond rfl (fun h14 => ?_) (fun h14 => ?_)
   ·replace h14 := of_decide_eq_true h14
    refine .skip ?_
    refine ⟨?_, Sub.less ⟨SLe.refl _, (SLe.of_eq (bool_eq (by first | (simp only [true_iff, decide_eq_true_eq, Bool.false_eq_true, false_iff]; omega) | (simp; omega)))), trivial⟩ (fun _ h => h)⟩
    omega
   replace h14 := of_decide_eq_false h14
   refine .region ?_
   refine .sA (.fieldAddr rfl fo_61_1 rfl) ?_
   refine .sA (.load rfl sc_3 rfl) ?_
   refine .sA (.call rfl (.cons (.rfl' rfl) .nil) (c_pHas _)) ?_
   refine .sA (.not rfl rfl) ?_
   refine .mA ?_
   refine .split 55 rfl (fun g15 => ?_) (fun g15 => ?_)
   ·replace g15 := bnot_t g15
    have hk2 := has_no hkd g15
    refine .sG (.fieldAddr rfl fo_61_6 rfl) ?_
    refine .sG (.load rfl sc_39 rfl) ?_
    refine .sG (.lenSl rfl et_39.ht rfl) ?_
    refine .sG (.gtr rfl rfl rfl) ?_
    refine .sA (.pickT rfl rfl rfl) ?_
    refine .aA (.nil ?_)
    refine ⟨?_, Sub.less ⟨SLe.refl _, (SLe.of_eq (bool_eq (by first | (simp only [true_iff, decide_eq_true_eq, Bool.false_eq_true, false_iff]; omega) | (simp; omega)))), trivial⟩ (fun _ h => h)⟩
    omega
   replace g15 := bnot_f g15
   have hk3 := has_yes hkd g15
   refine .pA ?_
   refine .pA ?_
   refine .pA ?_
   refine .pA ?_
   refine .sA (.pickF rfl rfl rfl) ?_
   refine .aA (.nil ?_)
   refine ⟨?_, Sub.less ⟨SLe.refl _, (SLe.of_eq (bool_eq (by first | (simp only [true_iff, decide_eq_true_eq, Bool.false_eq_true, false_iff]; omega) | (simp; omega)))), trivial⟩ (fun _ h => h)⟩
   omega
  replace g13 := of_decide_eq_false g13
  refine .pA ?_
  refine .pA ?_
  refine .pA ?_
  refine .sA (.pickF rfl rfl rfl) ?_
  refine .aA (.nil ?_)
  refine .cond rfl (fun h => nomatch h) (fun _ => ?_)
  refine .region ?_
  refine .sA (.fieldAddr rfl fo_61_1 rfl) ?_
  refine .sA (.load rfl sc_3 rfl) ?_
  refine .sA (.call rfl (.cons (.rfl' rfl) .nil) (c_pHas _)) ?_
  refine .sA (.not rfl rfl) ?_
  refine .mA ?_
  refine .split 55 rfl (fun g16 => ?_) (fun g16 => ?_)
  ·replace g16 := bnot_t g16
   have hk2 := has_no hkd g16
   refine .sG (.fieldAddr rfl fo_61_6 rfl) ?_
   refine .sG (.load rfl sc_39 rfl) ?_
   refine .sG (.lenSl rfl et_39.ht rfl) ?_
   refine .sG (.gtr rfl rfl rfl) ?_
   refine .sA (.pickT rfl rfl rfl) ?_
   refine .aA (.nil ?_)
   refine ⟨?_, Sub.less ⟨SLe.refl _, (SLe.of_eq (bool_eq (by first | (simp only [true_iff, decide_eq_true_eq, Bool.false_eq_true, false_iff]; omega) | (simp; omega)))), trivial⟩ (fun _ h => h)⟩
   omega
  replace g16 := bnot_f g16
  have hk3 := has_yes hkd g16
  refine .pA ?_
  refine .pA ?_
  refine .pA ?_
  refine .pA ?_
  refine .sA (.pickF rfl rfl rfl) ?_
  refine .aA (.nil ?_)
  refine ⟨?_, Sub.less ⟨SLe.refl _, (SLe.of_eq (bool_eq (by first | (simp only [true_iff, decide_eq_true_eq, Bool.false_eq_true, false_iff]; omega) | (simp; omega)))), trivial⟩ (fun _ h => h)⟩
  omega
 refine .cond rfl (fun h17 => ?_) (fun h17 => ?_)
 ·replace h17 := of_decide_eq_true h17
  refine .sr ?_
  refine .aA (.nil ?_)
  refine .ret ?_
  refine ⟨RetD.eq rfl ?_, trivial⟩
  all_goals (first | (exfalso; omega) | rw [HR] | rw [show thgF x = 1 from by unfold thgF; (first | (exfalso; omega) | ((repeat (first | rw [if_pos (by first | assumption | omega)] | rw [if_neg (by first | assumption | omega)])); first | done | rfl | omega | decide))] | rw [show thgF x = 3 from by unfold thgF; (first | (exfalso; omega) | ((repeat (first | rw [if_pos (by first | assumption | omega)] | rw [if_neg (by first | assumption | omega)])); first | done | rfl | omega | decide))] | rw [show thgF x = 2 from by unfold thgF; (first | (exfalso; omega) | ((repeat (first | rw [if_pos (by first | assumption | omega)] | rw [if_neg (by first | assumption | omega)])); first | done | rfl | omega | decide))] | rw [show thgF x = 0 from by unfold thgF; (first | (exfalso; omega) | ((repeat (first | rw [if_pos (by first | assumption | omega)] | rw [if_neg (by first | assumption | omega)])); first | done | rfl | omega | decide))])
 replace h17 := of_decide_eq_false h17
 refine .sr ?_
 refine .sA (.fieldAddr rfl fo_61_6 rfl) ?_
 refine .sA (.load rfl sc_39 rfl) ?_
 refine .sA (.lenSl rfl et_39.ht rfl) ?_
 refine .sA (.gtr rfl rfl rfl) ?_
 refine .aA (.nil ?_)
 refine .cond rfl (fun h18 => ?_) (fun h18 => ?_)
 ·replace h18 := of_decide_eq_true h18
  refine .sr ?_
  refine .aA (.nil ?_)
  refine .ret ?_
  refine ⟨RetD.eq rfl ?_, trivial⟩
  all_goals (first | (exfalso; omega) | rw [HR] | rw [show thgF x = 1 from by unfold thgF; (first | (exfalso; omega) | ((repeat (first | rw [if_pos (by first | assumption | omega)] | rw [if_neg (by first | assumption | omega)])); first | done | rfl | omega | decide))] | rw [show thgF x = 3 from by unfold thgF; (first | (exfalso; omega) | ((repeat (first | rw [if_pos (by first | assumption | omega)] | rw [if_neg (by first | assumption | omega)])); first | done | rfl | omega | decide))] | rw [show thgF x = 2 from by unfold thgF; (first | (exfalso; omega) | ((repeat (first | rw [if_pos (by first | assumption | omega)] | rw [if_neg (by first | assumption | omega)])); first | done | rfl | omega | decide))] | rw [show thgF x = 0 from by unfold thgF; (first | (exfalso; omega) | ((repeat (first | rw [if_pos (by first | assumption | omega)] | rw [if_neg (by first | assumption | omega)])); first | done | rfl | omega | decide))])
 replace h18 := of_decide_eq_false h18
 refine .skip ?_
 refine .sr ?_
 refine .aA (.nil ?_)
 refine .ret ?_
 refine ⟨RetD.eq rfl ?_, trivial⟩
 all_goals (first | (exfalso; omega) | rw [HR] | rw [show thgF x = 1 from by unfold thgF; (first | (exfalso; omega) | ((repeat (first | rw [if_pos (by first | assumption | omega)] | rw [if_neg (by first | assumption | omega)])); first | done | rfl | omega | decide))] | rw [show thgF x = 3 from by unfold thgF; (first | (exfalso; omega) | ((repeat (first | rw [if_pos (by first | assumption | omega)] | rw [if_neg (by first | assumption | omega)])); first | done | rfl | omega | decide))] | rw [show thgF x = 2 from by unfold thgF; (first | (exfalso; omega) | ((repeat (first | rw [if_pos (by first | assumption | omega)] | rw [if_neg (by first | assumption | omega)])); first | done | rfl | omega | decide))] | rw [show thgF x = 0 from by unfold thgF; (first | (exfalso; omega) | ((repeat (first | rw [if_pos (by first | assumption | omega)] | rw [if_neg (by first | assumption | omega)])); first | done | rfl | omega | decide))])

set_option maxRecDepth 100000 in
set_option maxHeartbeats 1000000 in
theorem c_rThg (x : Thg) (hx : ThgOk x) : ACallT Tryz.prog MaxT 64 [.agg x.ds] (.v (.int .i64 (thgF x))) := by
 refine acall_ofT (n := 61) (ds' := [.v (.int .i64 (thgF x))]) Tryz.func64 rfl (by kernel_rfl) rfl [2] rfl rfl ?_
 intro B w0 F0 hT
 have hpl : (x.parts.map intD).length = x.parts.length := List.length_map ..
 refine .sr ?_
 refine .sA (.box rfl rfl rfl) ?_
 refine .aA (.nil ?_)
 refine .seq ?_
 refine .block ?_
 refine .sr ?_
 refine .sA (.fieldAddr rfl fo_61_1 rfl) ?_
 refine .sA (.load rfl sc_3 rfl) ?_
 refine .sA (.call rfl (.cons (.rfl' rfl) .nil) (c_rKind _)) ?_
 refine .sA (.not rfl rfl) ?_
 refine .aA (.nil ?_)
 refine .cond rfl (fun h1 => ?_) (fun h1 => ?_)
 ·replace h1 := bnot_t h1
  have HR : thgF x = 4 := if_pos h1
  refine .sr ?_
  refine .aA (.nil ?_)
  refine .ret ?_
  refine ⟨RetD.eq rfl ?_, trivial⟩
  all_goals (first | (exfalso; omega) | rw [HR] | rw [show thgF x = 1 from by unfold thgF; (first | (exfalso; omega) | ((repeat (first | rw [if_pos (by first | assumption | omega)] | rw [if_neg (by first | assumption | omega)])); first | done | rfl | omega | decide))] | rw [show thgF x = 3 from by unfold thgF; (first | (exfalso; omega) | ((repeat (first | rw [if_pos (by first | assumption | omega)] | rw [if_neg (by first | assumption | omega)])); first | done | rfl | omega | decide))] | rw [show thgF x = 2 from by unfold thgF; (first | (exfalso; omega) | ((repeat (first | rw [if_pos (by first | assumption | omega)] | rw [if_neg (by first | assumption | omega)])); first | done | rfl | omega | decide))] | rw [show thgF x = 0 from by unfold thgF; (first | (exfalso; omega) | ((repeat (first | rw [if_pos (by first | assumption | omega)] | rw [if_neg (by first | assumption | omega)])); first | done | rfl | omega | decide))])
 replace h1 := bnot_f h1
 have hkd := h1
 have n0 : ¬ kindB x.kind = false := by rw [hkd]; decide
 refine .sr ?_
 refine .sA (.fieldAddr rfl fo_61_2 rfl) ?_
 refine .sA (.load rfl sc_9 rfl) ?_
 -- wants the world
 refine .callT rfl rfl rfl hT maxT_stays rfl (.cons (.rfl' rfl) .nil) (c_rTitle _ hx.title) ?_
 refine .sA (.not rfl rfl) ?_
 refine .aA (.nil ?_)
 refine .cond rfl (fun h2 => ?_) (fun h2 => ?_)
 ·replace h2 := bnot_t h2
  have n1 : titleOk x.title = false := h2
  have HR : thgF x = 3 := by unfold thgF; (first | (exfalso; omega) | ((repeat (first | rw [if_pos (by first | assumption | omega)] | rw [if_neg (by first | assumption | omega)])); first | done | rfl | omega | decide))
  refine .sr ?_
  refine .aA (.nil ?_)
  refine .ret ?_
  refine ⟨RetD.eq rfl ?_, trivial⟩
  all_goals (first | (exfalso; omega) | rw [HR] | rw [show thgF x = 1 from by unfold thgF; (first | (exfalso; omega) | ((repeat (first | rw [if_pos (by first | assumption | omega)] | rw [if_neg (by first | assumption | omega)])); first | done | rfl | omega | decide))] | rw [show thgF x = 3 from by unfold thgF; (first | (exfalso; omega) | ((repeat (first | rw [if_pos (by first | assumption | omega)] | rw [if_neg (by first | assumption | omega)])); first | done | rfl | omega | decide))] | rw [show thgF x = 2 from by unfold thgF; (first | (exfalso; omega) | ((repeat (first | rw [if_pos (by first | assumption | omega)] | rw [if_neg (by first | assumption | omega)])); first | done | rfl | omega | decide))] | rw [show thgF x = 0 from by unfold thgF; (first | (exfalso; omega) | ((repeat (first | rw [if_pos (by first | assumption | omega)] | rw [if_neg (by first | assumption | omega)])); first | done | rfl | omega | decide))])
 replace h2 := bnot_f h2
 have n1 : ¬ titleOk x.title = false := by rw [h2]; decide
 refine .skip ?_
 refine .seqJ ((¬ (¬ x.code = ⟨#[]⟩ ∧ codeF x.kind x.code.data.toList ≠ 0))) (Env.of [(1, .d (.fp x.ds))]) [] ?_ (fun n2 => ?_)
 ·skip
  refine .sr ?_
  refine .sA (.fieldAddr rfl fo_61_3 rfl) ?_
  refine .sA (.load rfl sc_9 rfl) ?_
  refine .sA (.sneq rfl rfl rfl) (.nil ?_)
  refine .cond rfl (fun h3 => ?_) (fun h3 => ?_)
  ·replace h3 := of_decide_eq_true h3
   have hco := h3
   refine .sr ?_
   refine .sA (.fieldAddr rfl fo_61_1 rfl) ?_
   refine .sA (.load rfl sc_3 rfl) ?_
   refine .sA (.fieldAddr rfl fo_61_3 rfl) ?_
   refine .sA (.load rfl sc_9 rfl) ?_
   refine .sA (.call rfl (.cons (.rfl' rfl) (.cons (.rfl' rfl) .nil)) (c_rCodeS _ _ hx.code)) ?_
   refine .aA (.nil ?_)
   refine .sr ?_
   refine .mA ?_
   refine .sA (.neq rfl rfl rfl) (.nil ?_)
   refine .cond rfl (fun h4 => ?_) (fun h4 => ?_)
   ·replace h4 := of_decide_eq_true h4
    have n2 : ¬ x.code = ⟨#[]⟩ ∧ codeF x.kind x.code.data.toList ≠ 0 := ⟨hco, h4⟩
    have HR : thgF x = codeF x.kind x.code.data.toList := by unfold thgF; (first | (exfalso; omega) | ((repeat (first | rw [if_pos (by first | assumption | omega)] | rw [if_neg (by first | assumption | omega)])); first | done | rfl | omega | decide))
    refine .sr ?_
    refine .mA ?_
    refine .aA (.nil ?_)
    refine .ret ?_
    refine ⟨RetD.eq rfl ?_, trivial⟩
    all_goals (first | (exfalso; omega) | rw [HR] | rw [show thgF x = 1 from by unfold thgF; (first | (exfalso; omega) | ((repeat (first | rw [if_pos (by first | assumption | omega)] | rw [if_neg (by first | assumption | omega)])); first | done | rfl | omega | decide))] | rw [show thgF x = 3 from by unfold thgF; (first | (exfalso; omega) | ((repeat (first | rw [if_pos (by first | assumption | omega)] | rw [if_neg (by first | assumption | omega)])); first | done | rfl | omega | decide))] | rw [show thgF x = 2 from by unfold thgF; (first | (exfalso; omega) | ((repeat (first | rw [if_pos (by first | assumption | omega)] | rw [if_neg (by first | assumption | omega)])); first | done | rfl | omega | decide))] | rw [show thgF x = 0 from by unfold thgF; (first | (exfalso; omega) | ((repeat (first | rw [if_pos (by first | assumption | omega)] | rw [if_neg (by first | assumption | omega)])); first | done | rfl | omega | decide))])
   replace h4 := of_decide_eq_false h4
   have n2 : ¬ (¬ x.code = ⟨#[]⟩ ∧ codeF x.kind x.code.data.toList ≠ 0) := fun hh => h4 hh.2
   refine .skip ?_
   refine ⟨?_, Sub.less ⟨SLe.refl _, trivial⟩ (fun _ h => h)⟩
   exact n2
  replace h3 := of_decide_eq_false h3
  have n2 : ¬ (¬ x.code = ⟨#[]⟩ ∧ codeF x.kind x.code.data.toList ≠ 0) := fun hh => h3 hh.1
  refine .skip ?_
  refine ⟨?_, Sub.less ⟨SLe.refl _, trivial⟩ (fun _ h => h)⟩
  exact n2
 refine .seq ?_
 refine .block ?_
 refine .sr ?_
 refine .sA (.fieldAddr rfl fo_61_4 rfl) ?_
 refine .sA (.load rfl sc_3 rfl) ?_
 refine .sA (.call rfl (.cons (.rfl' rfl) (.cons (.rfl' rfl) (.cons (.rfl' rfl) .nil))) (c_rIn _ _ _)) ?_
 refine .sA (.not rfl rfl) ?_
 refine .aA (.nil ?_)
 refine .cond rfl (fun h5 => ?_) (fun h5 => ?_)
 ·replace h5 := bnot_t h5; replace h5 := of_decide_eq_false h5
  refine .sr ?_
  refine .aA (.nil ?_)
  refine .ret ?_
  refine ⟨RetD.eq rfl ?_, trivial⟩
  all_goals (first | (exfalso; omega) | rw [HR] | rw [show thgF x = 1 from by unfold thgF; (first | (exfalso; omega) | ((repeat (first | rw [if_pos (by first | assumption | omega)] | rw [if_neg (by first | assumption | omega)])); first | done | rfl | omega | decide))] | rw [show thgF x = 3 from by unfold thgF; (first | (exfalso; omega) | ((repeat (first | rw [if_pos (by first | assumption | omega)] | rw [if_neg (by first | assumption | omega)])); first | done | rfl | omega | decide))] | rw [show thgF x = 2 from by unfold thgF; (first | (exfalso; omega) | ((repeat (first | rw [if_pos (by first | assumption | omega)] | rw [if_neg (by first | assumption | omega)])); first | done | rfl | omega | decide))] | rw [show thgF x = 0 from by unfold thgF; (first | (exfalso; omega) | ((repeat (first | rw [if_pos (by first | assumption | omega)] | rw [if_neg (by first | assumption | omega)])); first | done | rfl | omega | decide))])
 replace h5 := bnot_f h5; replace h5 := of_decide_eq_true h5
 refine .seqJ ((¬ (x.since < 0 ∨ 200000 < x.since))) (Env.of [(1, .d (.fp x.ds)), (30, .d (.v (.bool (decide ((x.kind = 3 ∧ x.parent ≠ 0) ∨ (x.kind = 4 ∧ x.parent = 0) ∨ (x.kind ≤ 2 ∧ 0 < x.parts.length))))))]) [] ?_ (fun hS => ?_)
 ·skip
  refine .sr ?_
  refine .sA (.fieldAddr rfl fo_61_1 rfl) ?_
  refine .sA (.load rfl sc_3 rfl) ?_
  refine .sA (.eql rfl rfl rfl) ?_
  refine .mA ?_
  refine .split 34 rfl (fun g6 => ?_) (fun g6 => ?_)
  ·replace g6 := of_decide_eq_true g6
   refine .sG (.fieldAddr rfl fo_61_5 rfl) ?_
   refine .sG (.load rfl sc_3 rfl) ?_
   refine .sG (.neq rfl rfl rfl) ?_
   refine .sA (.pickT rfl rfl rfl) ?_
   refine .aA (.nil ?_)
   refine .cond rfl (fun h7 => ?_) (fun h7 => ?_)
   ·replace h7 := of_decide_eq_true h7
    refine .skip ?_
    refine ⟨?_, Sub.less ⟨SLe.refl _, (SLe.of_eq (bool_eq (by first | (simp only [true_iff, decide_eq_true_eq, Bool.false_eq_true, false_iff]; omega) | (simp; omega)))), trivial⟩ (fun _ h => h)⟩
    omega
   replace h7 := of_decide_eq_false h7
   refine .sr ?_
   refine .sA (.fieldAddr rfl fo_61_1 rfl) ?_
   refine .sA (.load rfl sc_3 rfl) ?_
   refine .sA (.eql rfl rfl rfl) ?_
   refine .mA ?_
   refine .split 42 rfl (fun g8 => ?_) (fun g8 => ?_)
   ·replace g8 := of_decide_eq_true g8
    refine .sG (.fieldAddr rfl fo_61_5 rfl) ?_
    refine .sG (.load rfl sc_3 rfl) ?_
    refine .sG (.eql rfl rfl rfl) ?_
    refine .sA (.pickT rfl rfl rfl) ?_
    refine .aA (.nil ?_)
    refine .cond rfl (fun h9 => ?_) (fun h9 => ?_)
    ·replace h9 := of_decide_eq_true h9
     refine .skip ?_
     refine ⟨?_, Sub.less ⟨SLe.refl _, (SLe.of_eq (bool_eq (by first | (simp only [true_iff, decide_eq_true_eq, Bool.false_eq_true, false_iff]; omega) | (simp; omega)))), trivial⟩ (fun _ h => h)⟩
     omega
    replace h9 := of_decide_eq_false h9
    refine .region ?_
    refine .sA (.fieldAddr rfl fo_61_1 rfl) ?_
    refine .sA (.load rfl sc_3 rfl) ?_
    refine .sA (.leq rfl rfl rfl) ?_
    refine .mA ?_
    refine .split 50 rfl (fun g10 => ?_) (fun g10 => ?_)
    ·replace g10 := of_decide_eq_true g10
     refine .sG (.fieldAddr rfl fo_61_6 rfl) ?_
     refine .sG (.load rfl sc_39 rfl) ?_
     refine .sG (.lenSl rfl et_39.ht rfl) ?_
     refine .sG (.gtr rfl rfl rfl) ?_
     refine .sA (.pickT rfl rfl rfl) ?_
     refine .aA (.nil ?_)
     refine ⟨?_, Sub.less ⟨SLe.refl _, (SLe.of_eq (bool_eq (by first | (simp only [true_iff, decide_eq_true_eq, Bool.false_eq_true, false_iff]; omega) | (simp; omega)))), trivial⟩ (fun _ h => h)⟩
     omega
    replace g10 := of_decide_eq_false g10
    refine .pA ?_
    refine .pA ?_
    refine .pA ?_
    refine .pA ?_
    refine .sA (.pickF rfl rfl rfl) ?_
    refine .aA (.nil ?_)
    refine ⟨?_, Sub.less ⟨SLe.refl _, (SLe.of_eq (bool_eq (by first | (simp only [true_iff, decide_eq_true_eq, Bool.false_eq_true, false_iff]; omega) | (simp; omega)))), trivial⟩ (fun _ h => h)⟩
    omega
   replace g8 := of_decide_eq_false g8
   refine .pA ?_
   refine .pA ?_
   refine .pA ?_
   refine .sA (.pickF rfl rfl rfl) ?_
   refine .aA (.nil ?_)
   refine .cond rfl (fun h => nomatch h) (fun _ => ?_)
   refine .region ?_
   refine .sA (.fieldAddr rfl fo_61_1 rfl) ?_
   refine .sA (.load rfl sc_3 rfl) ?_
   refine .sA (.leq rfl rfl rfl) ?_
   refine .mA ?_
   refine .split 50 rfl (fun g11 => ?_) (fun g11 => ?_)
   ·replace g11 := of_decide_eq_true g11
    refine .sG (.fieldAddr rfl fo_61_6 rfl) ?_
    refine .sG (.load rfl sc_39 rfl) ?_
    refine .sG (.lenSl rfl et_39.ht rfl) ?_
    refine .sG (.gtr rfl rfl rfl) ?_
    refine .sA (.pickT rfl rfl rfl) ?_
    refine .aA (.nil ?_)
    refine ⟨?_, Sub.less ⟨SLe.refl _, (SLe.of_eq (bool_eq (by first | (simp only [true_iff, decide_eq_true_eq, Bool.false_eq_true, false_iff]; omega) | (simp; omega)))), trivial⟩ (fun _ h => h)⟩
    omega
   replace g11 := of_decide_eq_false g11
   refine .pA ?_
   refine .pA ?_
   refine .pA ?_
   refine .pA ?_
   refine .sA (.pickF rfl rfl rfl) ?_
   refine .aA (.nil ?_)
   refine ⟨?_, Sub.less ⟨SLe.refl _, (SLe.of_eq (bool_eq (by first | (simp only [true_iff, decide_eq_true_eq, Bool.false_eq_true, false_iff]; omega) | (simp; omega)))), trivial⟩ (fun _ h => h)⟩
   omega
  replace g6 := of_decide_eq_false g6
  refine .pA ?_
  refine .pA ?_
  refine .pA ?_
  refine .sA (.pickF rfl rfl rfl) ?_
  refine .aA (.nil ?_)
  refine .cond rfl (fun h => nomatch h) (fun _ => ?_)
  refine .sr ?_
  refine .sA (.fieldAddr rfl fo_61_1 rfl) ?_
  refine .sA (.load rfl sc_3 rfl) ?_
  refine .sA (.eql rfl rfl rfl) ?_
  refine .mA ?_
  refine .split 42 rfl (fun g12 => ?_) (fun g12 => ?_)
  ·replace g12 := of_decide_eq_true g12
   refine .sG (.fieldAddr rfl fo_61_5 rfl) ?_
   refine .sG (.load rfl sc_3 rfl) ?_
   refine .sG (.eql rfl rfl rfl) ?_
   refine .sA (.pickT rfl rfl rfl) ?_
   refine .aA (.nil ?_)
   refine .cond rfl (fun h13 => ?_) (fun h13 => ?_)
   ·replace h13 := of_decide_eq_true h13
    refine .skip ?_
    refine ⟨?_, Sub.less ⟨SLe.refl _, (SLe.of_eq (bool_eq (by first | (simp only [true_iff, decide_eq_true_eq, Bool.false_eq_true, false_iff]; omega) | (simp; omega)))), trivial⟩ (fun _ h => h)⟩
    omega
   replace h13 := of_decide_eq_false h13
   refine .region ?_
   refine .sA (.fieldAddr rfl fo_61_1 rfl) ?_
   refine .sA (.load rfl sc_3 rfl) ?_
   refine .sA (.leq rfl rfl rfl) ?_
   refine .mA ?_
   refine .split 50 rfl (fun g14 => ?_) (fun g14 => ?_)
   ·replace g14 := of_decide_eq_true g14
    refine .sG (.fieldAddr rfl fo_61_6 rfl) ?_
    refine .sG (.load rfl sc_39 rfl) ?_
    refine .sG (.lenSl rfl et_39.ht rfl) ?_
    refine .sG (.gtr rfl rfl rfl) ?_
    refine .sA (.pickT rfl rfl rfl) ?_
    refine .aA (.nil ?_)
    refine ⟨?_, Sub.less ⟨SLe.refl _, (SLe.of_eq (bool_eq (by first | (simp only [true_iff, decide_eq_true_eq, Bool.false_eq_true, false_iff]; omega) | (simp; omega)))), trivial⟩ (fun _ h => h)⟩
    omega
   replace g14 := of_decide_eq_false g14
   refine .pA ?_
   refine .pA ?_
   refine .pA ?_
   refine .pA ?_
   refine .sA (.pickF rfl rfl rfl) ?_
   refine .aA (.nil ?_)
   refine ⟨?_, Sub.less ⟨SLe.refl _, (SLe.of_eq (bool_eq (by first | (simp only [true_iff, decide_eq_true_eq, Bool.false_eq_true, false_iff]; omega) | (simp; omega)))), trivial⟩ (fun _ h => h)⟩
   omega
  replace g12 := of_decide_eq_false g12
  refine .pA ?_
  refine .pA ?_
  refine .pA ?_
  refine .sA (.pickF rfl rfl rfl) ?_
  refine .aA (.nil ?_)
  refine .cond rfl (fun h => nomatch h) (fun _ => ?_)
  refine .region ?_
  refine .sA (.fieldAddr rfl fo_61_1 rfl) ?_
  refine .sA (.load rfl sc_3 rfl) ?_
  refine .sA (.leq rfl rfl rfl) ?_
  refine .mA ?_
  refine .split 50 rfl (fun g15 => ?_) (fun g15 => ?_)
  ·replace g15 := of_decide_eq_true g15
   refine .sG (.fieldAddr rfl fo_61_6 rfl) ?_
   refine .sG (.load rfl sc_39 rfl) ?_
   refine .sG (.lenSl rfl et_39.ht rfl) ?_
   refine .sG (.gtr rfl rfl rfl) ?_
   refine .sA (.pickT rfl rfl rfl) ?_
   refine .aA (.nil ?_)
   refine ⟨?_, Sub.less ⟨SLe.refl _, (SLe.of_eq (bool_eq (by first | (simp only [true_iff, decide_eq_true_eq, Bool.false_eq_true, false_iff]; omega) | (simp; omega)))), trivial⟩ (fun _ h => h)⟩
   omega
  replace g15 := of_decide_eq_false g15
  refine .pA ?_
  refine .pA ?_
  refine .pA ?_
  refine .pA ?_
  refine .sA (.pickF rfl rfl rfl) ?_
  refine .aA (.nil ?_)
  refine ⟨?_, Sub.less ⟨SLe.refl _, (SLe.of_eq (bool_eq (by first | (simp only [true_iff, decide_eq_true_eq, Bool.false_eq_true, false_iff]; omega) | (simp; omega)))), trivial⟩ (fun _ h => h)⟩
  omega
 refine .cond rfl (fun h16 => ?_) (fun h16 => ?_)
 ·replace h16 := of_decide_eq_true h16
  refine .sr ?_
  refine .aA (.nil ?_)
  refine .ret ?_
  refine ⟨RetD.eq rfl ?_, trivial⟩
  all_goals (first | (exfalso; omega) | rw [HR] | rw [show thgF x = 1 from by unfold thgF; (first | (exfalso; omega) | ((repeat (first | rw [if_pos (by first | assumption | omega)] | rw [if_neg (by first | assumption | omega)])); first | done | rfl | omega | decide))] | rw [show thgF x = 3 from by unfold thgF; (first | (exfalso; omega) | ((repeat (first | rw [if_pos (by first | assumption | omega)] | rw [if_neg (by first | assumption | omega)])); first | done | rfl | omega | decide))] | rw [show thgF x = 2 from by unfold thgF; (first | (exfalso; omega) | ((repeat (first | rw [if_pos (by first | assumption | omega)] | rw [if_neg (by first | assumption | omega)])); first | done | rfl | omega | decide))] | rw [show thgF x = 0 from by unfold thgF; (first | (exfalso; omega) | ((repeat (first | rw [if_pos (by first | assumption | omega)] | rw [if_neg (by first | assumption | omega)])); first | done | rfl | omega | decide))])
 replace h16 := of_decide_eq_false h16
 refine .sr ?_
 refine .sA (.fieldAddr rfl fo_61_6 rfl) ?_
 refine .sA (.load rfl sc_39 rfl) ?_
 refine .sA (.lenSl rfl et_39.ht rfl) ?_
 refine .sA (.gtr rfl rfl rfl) ?_
 refine .aA (.nil ?_)
 refine .cond rfl (fun h17 => ?_) (fun h17 => ?_)
 ·replace h17 := of_decide_eq_true h17
  refine .sr ?_
  refine .aA (.nil ?_)
  refine .ret ?_
  refine ⟨RetD.eq rfl ?_, trivial⟩
  all_goals (first | (exfalso; omega) | rw [HR] | rw [show thgF x = 1 from by unfold thgF; (first | (exfalso; omega) | ((repeat (first | rw [if_pos (by first | assumption | omega)] | rw [if_neg (by first | assumption | omega)])); first | done | rfl | omega | decide))] | rw [show thgF x = 3 from by unfold thgF; (first | (exfalso; omega) | ((repeat (first | rw [if_pos (by first | assumption | omega)] | rw [if_neg (by first | assumption | omega)])); first | done | rfl | omega | decide))] | rw [show thgF x = 2 from by unfold thgF; (first | (exfalso; omega) | ((repeat (first | rw [if_pos (by first | assumption | omega)] | rw [if_neg (by first | assumption | omega)])); first | done | rfl | omega | decide))] | rw [show thgF x = 0 from by unfold thgF; (first | (exfalso; omega) | ((repeat (first | rw [if_pos (by first | assumption | omega)] | rw [if_neg (by first | assumption | omega)])); first | done | rfl | omega | decide))])
 replace h17 := of_decide_eq_false h17
 refine .skip ?_
 refine .sr ?_
 refine .aA (.nil ?_)
 refine .ret ?_
 refine ⟨RetD.eq rfl ?_, trivial⟩
 all_goals (first | (exfalso; omega) | rw [HR] | rw [show thgF x = 1 from by unfold thgF; (first | (exfalso; omega) | ((repeat (first | rw [if_pos (by first | assumption | omega)] | rw [if_neg (by first | assumption | omega)])); first | done | rfl | omega | decide))] | rw [show thgF x = 3 from by unfold thgF; (first | (exfalso; omega) | ((repeat (first | rw [if_pos (by first | assumption | omega)] | rw [if_neg (by first | assumption | omega)])); first | done | rfl | omega | decide))] | rw [show thgF x = 2 from by unfold thgF; (first | (exfalso; omega) | ((repeat (first | rw [if_pos (by first | assumption | omega)] | rw [if_neg (by first | assumption | omega)])); first | done | rfl | omega | decide))] | rw [show thgF x = 0 from by unfold thgF; (first | (exfalso; omega) | ((repeat (first | rw [if_pos (by first | assumption | omega)] | rw [if_neg (by first | assumption | omega)])); first | done | rfl | omega | decide))])

set_option maxRecDepth 100000 in
set_option maxHeartbeats 1000000 in
theorem c_idxOf (c : Ctl) (hl : Lim c) (hc : CtlOk c) (hr : RisT c.things) : ACall Tryz.prog 56 [.agg c.ds] (.fm (idxM c.things)) := by
 refine acall_of (n := 20) (ds' := [.fm (idxM c.things)]) Tryz.func56 rfl (by kernel_rfl) rfl [2] rfl rfl ?_
 intro B w0 F0 fr
 have hl1 := hl.1
 refine .sr ?_
 refine .sA (.box rfl rfl rfl) ?_
 refine .aA (.nil ?_)
 refine .sr ?_
 refine .makeMap 91 rfl rfl rfl rfl rfl ?_
 refine .sA (.assignO rfl rfl) (.nil ?_)
 refine .seq ?_
 refine .sr ?_
 refine .sA (.fieldAddr rfl fo_25_0 rfl) ?_
 refine .sA (.load rfl sc_22 rfl) ?_
 refine .sA (.lenSl rfl et_22.ht rfl) ?_
 refine .mA (.nil ?_)
 refine .block ?_
 refine .loop (G := Nat) (fun k => Env.of [(10, .d (.v (.int .i64 (k : Int)))), (8, .d (.sl (c.things.map Thg.ds))), (9, .d (.v (.int .i64 ((c.things.map Thg.ds).length : Int)))), (3, .own 91)]) (fun k => [(91, .map (idxM (c.things.take k)))]) (fun k => k ≤ c.things.length) (fun k => c.things.length - k) 0 (Nat.zero_le _) (Sub.less ⟨(SLe.of_eq rfl), SLe.refl _, SLe.refl _, SLe.refl _, trivial⟩ (map_1 rfl)) ?_
 intro k hk
 refine .sr ?_
 refine .sA (.lss rfl rfl rfl) (.nil ?_)
 refine .seq ?_
 refine .cond rfl (fun h1 => ?_) (fun h1 => ?_)
 ·replace h1 := of_decide_eq_true h1
  rw [List.length_map] at h1
  have hlt : k < c.things.length := by omega
  refine .skip ?_
  refine .seq ?_
  refine .block ?_
  refine .sr ?_
  refine .sA (.indexAddr rfl et_22 rfl rfl k rfl (at_lst hlt) rfl) ?_
  refine .sA (.loadAgg rfl ag_61 rfl rfl) ?_
  refine .alloc 102 rfl rfl rfl rfl zt_61 rfl rfl rfl ?_
  refine .store rfl rfl rfl sz_61 rfl (.head _) rfl rfl rfl (Nat.le_of_ble_eq_true rfl) ?_
  refine .freezeCells 5 (ds := c.things[k].ds) rfl (.head _) (.nil ?_)
  refine .region ?_
  refine .sA (.moveO rfl rfl) ?_
  refine .sA (.fieldAddr rfl fo_61_0 rfl) ?_
  refine .sA (.load rfl sc_3 rfl) ?_
  refine .sA (.loadAgg rfl ag_61 rfl rfl) ?_
  refine .eff rfl rfl (.mapUpdateX (key := kI c.things[k].id) rfl rfl mt_idx kd_int rfl (.head _) rfl (DExact.v _) rfl (kI_ok (hc.things _ (List.getElem_mem hlt)).id) (idxM_keys fun x hx => hc.things x (List.mem_of_mem_take hx)) (put_idx hr hlt)) (.nil ?_)
  refine .region ?_
  refine .sA (.add64 rfl rfl rfl (by omega) (by omega)) ?_
  refine .mA (.nil ?_)
  refine ⟨k + 1, (by omega), (by dsimp only; omega), Sub.less ⟨(SLe.of_eq rfl), SLe.refl _, SLe.refl _, SLe.refl _, trivial⟩ (map_1 rfl)⟩
 replace h1 := of_decide_eq_false h1
 rw [List.length_map] at h1
 obtain rfl : k = c.things.length := by omega
 rw [List.take_length]
 refine .exit ?_
 refine .seq ?_
 refine .freezeMap 3 rfl (.head _) ?_
 refine .region ?_
 refine .mA ?_
 refine .aA (.nil ?_)
 refine .ret ?_
 refine ⟨RetD.eq rfl ?_, trivial⟩
 all_goals (rfl)

set_option maxRecDepth 100000 in
set_option maxHeartbeats 1000000 in
theorem c_thing (c : Ctl) (id : Int) (hl : Lim2 c) : ACall Tryz.prog 98 [.agg c.ds, .v (.int .i64 id)] (.tup [.agg (getT c.things id).ds, .v (.bool (thereB c.things id))]) := by
 refine acall_ofR (n := 22) (ds' := [.agg (getT c.things id).ds, .v (.bool (thereB c.things id))]) Tryz.func98 rfl (by kernel_rfl) rfl [.cell 4 61, .tmp 5] rfl rfl ?_
 intro B w0 F0 fr
 have hl1 := hl.1
 refine .sr ?_
 refine .sA (.box rfl rfl rfl) ?_
 refine .alloc 101 rfl rfl rfl rfl zt_61 rfl rfl rfl ?_
 refine .aA (.nil ?_)
 refine .seq ?_
 refine .sr ?_
 refine .sA (.fieldAddr rfl fo_25_0 rfl) ?_
 refine .sA (.load rfl sc_22 rfl) ?_
 refine .sA (.lenSl rfl et_22.ht rfl) ?_
 refine .mA (.nil ?_)
 refine .block ?_
 refine .loop (G := Nat) (fun k => Env.of [(11, .d (.v (.int .i64 (k : Int)))), (9, .d (.sl (c.things.map Thg.ds))), (10, .d (.v (.int .i64 ((c.things.map Thg.ds).length : Int)))), (1, .d (.v (.int .i64 id))), (4, .ptr 101 0)]) (fun k => [(101, .cells [.d (.v (.int .i64 0)), .d (.v (.int .i64 0)), .d (.v (.string ⟨#[]⟩)), .d (.v (.string ⟨#[]⟩)), .d (.v (.int .i64 0)), .d (.v (.int .i64 0)), .d (.v (.slice none 0 0))])]) (fun k => k ≤ c.things.length ∧ ∀ t ∈ c.things.take k, t.id ≠ id) (fun k => c.things.length - k) 0 ⟨Nat.zero_le _, fun t h => by simp at h⟩ (Sub.less ⟨(SLe.of_eq rfl), SLe.refl _, SLe.refl _, SLe.refl _, SLe.refl _, trivial⟩ (fun _ h => h)) ?_
 intro k hk
 refine .sr ?_
 refine .sA (.lss rfl rfl rfl) (.nil ?_)
 refine .seq ?_
 refine .cond rfl (fun h1 => ?_) (fun h1 => ?_)
 ·replace h1 := of_decide_eq_true h1
  rw [List.length_map] at h1
  have hlt : k < c.things.length := by omega
  refine .skip ?_
  refine .seq ?_
  refine .block ?_
  refine .sr ?_
  refine .sA (.indexAddr rfl et_22 rfl rfl k rfl (at_lst hlt) rfl) ?_
  refine .sA (.loadAgg rfl ag_61 rfl rfl) ?_
  refine .alloc 102 rfl rfl rfl rfl zt_61 rfl rfl rfl ?_
  refine .store rfl rfl rfl sz_61 rfl (.head _) rfl rfl rfl (Nat.le_of_ble_eq_true rfl) ?_
  refine .freezeCells 7 (ds := c.things[k].ds) rfl (.head _) (.nil ?_)
  refine .sr ?_
  refine .sA (.fieldAddr rfl fo_61_0 rfl) ?_
  refine .sA (.load rfl sc_3 rfl) ?_
  refine .mA ?_
  refine .sA (.eql rfl rfl rfl) (.nil ?_)
  refine .cond rfl (fun h2 => ?_) (fun h2 => ?_)
  ·replace h2 := of_decide_eq_true h2
   obtain ⟨E1, E2⟩ := first_hit hlt hk.2 h2
   rw [E1, E2]
   refine .sr ?_
   refine .sA (.loadAgg rfl ag_61 rfl rfl) ?_
   refine .store rfl rfl rfl sz_61 rfl (.head _) rfl rfl rfl (Nat.le_of_ble_eq_true rfl) ?_
   refine .aA (.nil ?_)
   refine .ret ?_
   refine ⟨RetR.agg rfl (.head _) ag_61 rfl (.cons (by first | exact CellD.nil | exact CellD.d | exact CellD.eq (by simp) | (refine CellD.own (by first | exact .head _ | exact .tail _ (.head _)) ?_; rfl)) (.cons (by first | exact CellD.nil | exact CellD.d | exact CellD.eq (by simp) | (refine CellD.own (by first | exact .head _ | exact .tail _ (.head _)) ?_; rfl)) (.cons (by first | exact CellD.nil | exact CellD.d | exact CellD.eq (by simp) | (refine CellD.own (by first | exact .head _ | exact .tail _ (.head _)) ?_; rfl)) (.cons (by first | exact CellD.nil | exact CellD.d | exact CellD.eq (by simp) | (refine CellD.own (by first | exact .head _ | exact .tail _ (.head _)) ?_; rfl)) (.cons (by first | exact CellD.nil | exact CellD.d | exact CellD.eq (by simp) | (refine CellD.own (by first | exact .head _ | exact .tail _ (.head _)) ?_; rfl)) (.cons (by first | exact CellD.nil | exact CellD.d | exact CellD.eq (by simp) | (refine CellD.own (by first | exact .head _ | exact .tail _ (.head _)) ?_; rfl)) (.cons (by first | exact CellD.nil | exact CellD.d | exact CellD.eq (by simp) | (refine CellD.own (by first | exact .head _ | exact .tail _ (.head _)) ?_; rfl)) .nil))))))), RetD.eq rfl ?_, trivial⟩
   all_goals (rfl)
  replace h2 := of_decide_eq_false h2
  have HN := take_ne hlt hk.2 h2
  refine .skip ?_
  refine .region ?_
  refine .sA (.add64 rfl rfl rfl (by omega) (by omega)) ?_
  refine .mA (.nil ?_)
  refine ⟨k + 1, ⟨by omega, HN⟩, (by dsimp only; omega), Sub.less ⟨(SLe.of_eq rfl), SLe.refl _, SLe.refl _, SLe.refl _, SLe.refl _, trivial⟩ (fun _ h => h)⟩
 replace h1 := of_decide_eq_false h1
 rw [List.length_map] at h1
 obtain ⟨E1, E2⟩ := first_no (l := c.things) (id := id) (k := k) (by omega) hk.2
 rw [E1, E2]
 refine .exit ?_
 refine .sr ?_
 refine .sA (.build rfl bu_61 .nil rfl) ?_
 refine .store rfl rfl rfl sz_61 rfl (.head _) rfl rfl rfl (Nat.le_of_ble_eq_true rfl) ?_
 refine .aA (.nil ?_)
 refine .ret ?_
 refine ⟨RetR.agg rfl (.head _) ag_61 rfl (.cons (by first | exact CellD.nil | exact CellD.d | exact CellD.eq (by simp) | (refine CellD.own (by first | exact .head _ | exact .tail _ (.head _)) ?_; rfl)) (.cons (by first | exact CellD.nil | exact CellD.d | exact CellD.eq (by simp) | (refine CellD.own (by first | exact .head _ | exact .tail _ (.head _)) ?_; rfl)) (.cons (by first | exact CellD.nil | exact CellD.d | exact CellD.eq (by simp) | (refine CellD.own (by first | exact .head _ | exact .tail _ (.head _)) ?_; rfl)) (.cons (by first | exact CellD.nil | exact CellD.d | exact CellD.eq (by simp) | (refine CellD.own (by first | exact .head _ | exact .tail _ (.head _)) ?_; rfl)) (.cons (by first | exact CellD.nil | exact CellD.d | exact CellD.eq (by simp) | (refine CellD.own (by first | exact .head _ | exact .tail _ (.head _)) ?_; rfl)) (.cons (by first | exact CellD.nil | exact CellD.d | exact CellD.eq (by simp) | (refine CellD.own (by first | exact .head _ | exact .tail _ (.head _)) ?_; rfl)) (.cons (by first | exact CellD.nil | exact CellD.d | exact CellD.eq (by simp) | (refine CellD.own (by first | exact .head _ | exact .tail _ (.head _)) ?_; rfl)) .nil))))))), RetD.eq rfl ?_, trivial⟩
 all_goals (rfl)

set_option maxRecDepth 100000 in
set_option maxHeartbeats 1000000 in
theorem c_moved (c : Ctl) (id : Int) (hl : Lim2 c) : ACall Tryz.prog 100 [.agg c.ds, .v (.int .i64 id)] (.tup [.v (.int .i64 (getM c.moved id)), .v (.bool (hasM c.moved id))]) := by
 refine acall_of (n := 22) (ds' := [.v (.int .i64 (getM c.moved id)), .v (.bool (hasM c.moved id))]) Tryz.func100 rfl (by kernel_rfl) rfl [4, 5] rfl rfl ?_
 intro B w0 F0 fr
 have hl2 := hl.2
 refine .sr ?_
 refine .sA (.box rfl rfl rfl) ?_
 refine .aA ?_
 refine .aA (.nil ?_)
 refine .seq ?_
 refine .sr ?_
 refine .sA (.fieldAddr rfl fo_25_1 rfl) ?_
 refine .sA (.load rfl sc_23 rfl) ?_
 refine .sA (.lenSl rfl et_23.ht rfl) ?_
 refine .mA (.nil ?_)
 refine .block ?_
 refine .loop (G := Nat) (fun k => Env.of [(11, .d (.v (.int .i64 (k : Int)))), (9, .d (.sl (c.moved.map Mvd.ds))), (10, .d (.v (.int .i64 ((c.moved.map Mvd.ds).length : Int)))), (1, .d (.v (.int .i64 id)))]) (fun k => []) (fun k => k ≤ c.moved.length ∧ ∀ t ∈ c.moved.take k, t.src ≠ id) (fun k => c.moved.length - k) 0 ⟨Nat.zero_le _, fun t h => by simp at h⟩ (Sub.less ⟨(SLe.of_eq rfl), SLe.refl _, SLe.refl _, SLe.refl _, trivial⟩ (fun _ h => h)) ?_
 intro k hk
 refine .sr ?_
 refine .sA (.lss rfl rfl rfl) (.nil ?_)
 refine .seq ?_
 refine .cond rfl (fun h1 => ?_) (fun h1 => ?_)
 ·replace h1 := of_decide_eq_true h1
  rw [List.length_map] at h1
  have hlt : k < c.moved.length := by omega
  refine .skip ?_
  refine .seq ?_
  refine .block ?_
  refine .sr ?_
  refine .sA (.indexAddr rfl et_23 rfl rfl k rfl (at_lst hlt) rfl) ?_
  refine .sA (.loadAgg rfl ag_54 rfl rfl) ?_
  refine .alloc 101 rfl rfl rfl rfl zt_54 rfl rfl rfl ?_
  refine .store rfl rfl rfl sz_54 rfl (.head _) rfl rfl rfl (Nat.le_of_ble_eq_true rfl) ?_
  refine .freezeCells 7 (ds := c.moved[k].ds) rfl (.head _) (.nil ?_)
  refine .sr ?_
  refine .sA (.fieldAddr rfl fo_54_0 rfl) ?_
  refine .sA (.load rfl sc_3 rfl) ?_
  refine .mA ?_
  refine .sA (.eql rfl rfl rfl) (.nil ?_)
  refine .cond rfl (fun h2 => ?_) (fun h2 => ?_)
  ·replace h2 := of_decide_eq_true h2
   obtain ⟨E1, E2⟩ := firstM_hit hlt hk.2 h2
   rw [E1, E2]
   refine .sr ?_
   refine .sA (.fieldAddr rfl fo_54_1 rfl) ?_
   refine .sA (.load rfl sc_3 rfl) ?_
   refine .aA ?_
   refine .aA (.nil ?_)
   refine .ret ?_
   refine ⟨RetD.eq rfl ?_, RetD.eq rfl ?_, trivial⟩
   all_goals (rfl)
  replace h2 := of_decide_eq_false h2
  have HN := takeM_ne hlt hk.2 h2
  refine .skip ?_
  refine .region ?_
  refine .sA (.add64 rfl rfl rfl (by omega) (by omega)) ?_
  refine .mA (.nil ?_)
  refine ⟨k + 1, ⟨by omega, HN⟩, (by dsimp only; omega), Sub.less ⟨(SLe.of_eq rfl), SLe.refl _, SLe.refl _, SLe.refl _, trivial⟩ (fun _ h => h)⟩
 replace h1 := of_decide_eq_false h1
 rw [List.length_map] at h1
 obtain ⟨E1, E2⟩ := firstM_no (m := c.moved) (id := id) (k := k) (by omega) hk.2
 rw [E1, E2]
 refine .exit ?_
 refine .sr ?_
 refine .aA ?_
 refine .aA (.nil ?_)
 refine .ret ?_
 refine ⟨RetD.eq rfl ?_, RetD.eq rfl ?_, trivial⟩
 all_goals (rfl)

end Go.Proofs.YthcdjmkkgbcaaaaGreatDoor

namespace Go.Proofs.YthcdjmkkgbcaaaaGreatDoor
open Go.RowKit
set_option linter.unusedVariables false

/-! Types. -/
namespace TyKD
theorem ag_25 : AggT Tryz.prog 25 2 := .of (by kernel_rfl)
theorem fv_61_5 : fieldB Tryz.prog 61 5 5 = true := by kernel_rfl
theorem mt_101 : Tryz.prog.underlying 101 = some (.map 3 61) := by kernel_rfl
end TyKD
open TyH3 TyH4 TyH5 TyJ3 TyJ4 TyJ5 TyKA TyKB TyKC TyKD

theorem upN_ok {l : List Thg} (h : ∀ x ∈ l, ThgOk x) {a : Int} (ha : i64 a) : ∀ k, i64 (upN l a k)
  | 0 => ha
  | k + 1 => (getT_ok h (upN l a k)).parent
def atN (l : List Thg) (t : Thg) : Nat → Thg
  | 0 => t
  | n + 1 => getT l (atN l t n).parent
theorem up_at (l : List Thg) (t : Thg) : ∀ k, upN l t.parent k = (atN l t k).parent
  | 0 => rfl
  | k + 1 => by rw [upN_next, up_at l t k]; rfl
theorem SLe.i64 {n m : Int} (h : n = m) : SLe (.d (.v (.int .i64 n))) (.d (.v (.int .i64 m))) := SLe.of_eq (by rw [h])
theorem cells_1 {i : Nat} {A A' : List S} {τ : Obs} (h : A = A') : ∀ p ∈ [(i, Ob.cells A')], p ∈ (i, Ob.cells A) :: τ := fun p hp => by
  subst h
  rw [List.mem_singleton] at hp
  subst hp; exact .head _
theorem lk_p {l : List Thg} {i : Nat} {n : Int} (hi : i < l.length) (h : linkF l l[i] = n) (hn : n ≠ 0) : lkF l i = n := by unfold lkF; rw [dif_pos hi, if_pos (by rw [h]; exact hn), h]
theorem lk_7 {l : List Thg} {i : Nat} (hi : i < l.length) (h : linkF l l[i] = 0) (hc : ¬ l[i].code = ⟨#[]⟩) (ht : twB l i l[i] = true) : lkF l i = 7 := by unfold lkF; rw [dif_pos hi, if_neg (by rw [h]; decide), if_pos ⟨hc, ht⟩]
theorem lk_0 {l : List Thg} {i : Nat} (hi : i < l.length) (h : linkF l l[i] = 0) (ht : ¬ (¬ l[i].code = ⟨#[]⟩ ∧ twB l i l[i] = true)) : lkF l i = 0 := by unfold lkF; rw [dif_pos hi, if_neg (by rw [h]; decide), if_neg ht]
def twP (t x : Thg) : Prop := x.kind = t.kind ∧ ¬ t.code = ⟨#[]⟩ ∧ x.code = t.code
theorem tw_yes {l : List Thg} {i j : Nat} {t : Thg} (hj : j < i) (hl : j < l.length) (h : twP t l[j]) : twB l i t = true :=
  List.any_eq_true.2 ⟨l[j], List.mem_take_iff_getElem.2 ⟨j, by omega, rfl⟩, by rw [decide_eq_true h.1, decide_eq_true h.2.2]; rfl⟩
theorem tw_no {l : List Thg} {i : Nat} {t : Thg} (h : ∀ x ∈ l.take i, ¬ twP t x) : ¬ (¬ t.code = ⟨#[]⟩ ∧ twB l i t = true) := fun ⟨h1, h2⟩ => by
  obtain ⟨x, hx, h3⟩ := List.any_eq_true.1 h2
  rw [Bool.and_eq_true] at h3
  exact h x hx ⟨of_decide_eq_true h3.1, h1, of_decide_eq_true h3.2⟩
theorem tw_next {l : List Thg} {k : Nat} {t : Thg} (hk : k < l.length) (h : ∀ x ∈ l.take k, ¬ twP t x) (h2 : ¬ twP t l[k]) : ∀ x ∈ l.take (k + 1), ¬ twP t x := fun x hx => by
  rw [List.take_add_one, List.getElem?_eq_getElem hk, Option.toList_some, List.mem_append, List.mem_singleton] at hx
  rcases hx with hx | hx
  · exact h x hx
  · rw [hx]; exact h2
theorem at_take {α : Type} {l : List α} {f : α → List D} {i k : Nat} (hi : i ≤ l.length) (hk : k < i) : ((l.map f).take i)[k]? = some (f (l[k]'(by omega))) := by
  rw [List.getElem?_take, if_pos hk]; exact at_lst (by omega)

set_option maxRecDepth 100000 in
set_option maxHeartbeats 1000000 in
theorem c_pLink (l : List Thg) (t : Thg) (hl : ∀ x ∈ l, ThgOk x) (hn : RisT l) (ht : ThgOk t) (hll : l.length ≤ 300) (hp : t.parts.length ≤ 50) : ACall Tryz.prog 57 [.fm (idxM l), .agg t.ds] (.v (.int .i64 (linkF l t))) := by
 refine acall_of (n := 66) (ds' := [.v (.int .i64 (linkF l t))]) Tryz.func57 rfl (by kernel_rfl) rfl [4] rfl rfl ?_
 intro B w0 F0 fr
 refine .sr ?_
 refine .sA (.box rfl rfl rfl) ?_
 refine .aA (.nil ?_)
 refine .seqJ (parF l t = 0) (Env.of [(0, .d (.fm (idxM l))), (3, .d (.fp t.ds))]) [] ?_ (fun hP0 => ?_)
 ·skip
  refine .sr ?_
  refine .sA (.fieldAddr rfl fo_61_5 rfl) ?_
  refine .sA (.load rfl sc_3 rfl) ?_
  refine .sA (.neq rfl rfl rfl) (.nil ?_)
  refine .cond rfl (fun h1 => ?_) (fun h1 => ?_)
  ·replace h1 := of_decide_eq_true h1
   have hpn : ¬ t.parent = 0 := h1
   refine .sr ?_
   refine .mA ?_
   refine .sA (.fieldAddr rfl fo_61_5 rfl) ?_
   refine .sA (.load rfl sc_3 rfl) ?_
   refine .sA (.lookupOkF (key := kI t.parent) rfl mt_idx kd_int zt_thg zd_thg rfl rfl (DExact.v _) (kI_ok ht.parent) (idxM_keys hl) _ (getok_idx hn.nk _)) ?_
   refine .mA ?_
   refine .sA (.extract rfl rfl rfl) ?_
   refine .sA (.extract rfl rfl rfl) ?_
   refine .alloc 101 rfl rfl rfl rfl zt_61 rfl rfl rfl ?_
   refine .store rfl rfl rfl sz_61 rfl (.head _) rfl rfl rfl (Nat.le_of_ble_eq_true rfl) ?_
   refine .freezeCells 5 (ds := (getT l t.parent).ds) rfl (.head _) ?_
   refine .aA (.nil ?_)
   refine .sr ?_
   refine .aA (.nil ?_)
   refine .seq ?_
   refine .sr ?_
   refine .sA (.fieldAddr rfl fo_61_1 rfl) ?_
   refine .sA (.load rfl sc_3 rfl) ?_
   refine .sA (.eql rfl rfl rfl) (.nil ?_)
   refine .cond rfl (fun h2 => ?_) (fun h2 => ?_)
   ·replace h2 := of_decide_eq_true h2
    have hw : wantK t = 3 := if_pos h2
    refine .region ?_
    refine .aA (.nil ?_)
    refine .seq ?_
    refine .sr ?_
    refine .mA ?_
    refine .sA (.not rfl rfl) (.nil ?_)
    refine .cond rfl (fun h3 => ?_) (fun h3 => ?_)
    ·replace h3 := bnot_t h3
     have HR : linkF l t = 9 := link_p (par_9 hpn h3) (by decide)
     refine .sr ?_
     refine .aA (.nil ?_)
     refine .ret ?_
     refine ⟨RetD.eq rfl ?_, trivial⟩
     all_goals (rw [HR])
    replace h3 := bnot_f h3
    have hth := h3
    refine .skip ?_
    refine .sr ?_
    refine .sA (.fieldAddr rfl fo_61_1 rfl) ?_
    refine .sA (.load rfl sc_3 rfl) ?_
    refine .mA ?_
    refine .sA (.neq rfl rfl rfl) (.nil ?_)
    refine .cond rfl (fun h4 => ?_) (fun h4 => ?_)
    ·replace h4 := of_decide_eq_true h4
     have HR : linkF l t = 6 := link_p (par_6 hpn hth (by rw [hw]; exact h4)) (by decide)
     refine .sr ?_
     refine .aA (.nil ?_)
     refine .ret ?_
     refine ⟨RetD.eq rfl ?_, trivial⟩
     all_goals (rw [HR])
    replace h4 := of_decide_eq_false h4
    have hP0 := par_ok hpn hth (by rw [hw]; omega)
    refine .skip ?_
    refine ⟨?_, Sub.less ⟨SLe.refl _, SLe.refl _, trivial⟩ (fun _ h => h)⟩
    exact hP0
   replace h2 := of_decide_eq_false h2
   have hw : wantK t = 1 := if_neg h2
   refine .skip ?_
   refine .seq ?_
   refine .sr ?_
   refine .mA ?_
   refine .sA (.not rfl rfl) (.nil ?_)
   refine .cond rfl (fun h5 => ?_) (fun h5 => ?_)
   ·replace h5 := bnot_t h5
    have HR : linkF l t = 9 := link_p (par_9 hpn h5) (by decide)
    refine .sr ?_
    refine .aA (.nil ?_)
    refine .ret ?_
    refine ⟨RetD.eq rfl ?_, trivial⟩
    all_goals (rw [HR])
   replace h5 := bnot_f h5
   have hth := h5
   refine .skip ?_
   refine .sr ?_
   refine .sA (.fieldAddr rfl fo_61_1 rfl) ?_
   refine .sA (.load rfl sc_3 rfl) ?_
   refine .mA ?_
   refine .sA (.neq rfl rfl rfl) (.nil ?_)
   refine .cond rfl (fun h6 => ?_) (fun h6 => ?_)
   ·replace h6 := of_decide_eq_true h6
    have HR : linkF l t = 6 := link_p (par_6 hpn hth (by rw [hw]; exact h6)) (by decide)
    refine .sr ?_
    refine .aA (.nil ?_)
    refine .ret ?_
    refine ⟨RetD.eq rfl ?_, trivial⟩
    all_goals (rw [HR])
   replace h6 := of_decide_eq_false h6
   have hP0 := par_ok hpn hth (by rw [hw]; omega)
   refine .skip ?_
   refine ⟨?_, Sub.less ⟨SLe.refl _, SLe.refl _, trivial⟩ (fun _ h => h)⟩
   exact hP0
  replace h1 := of_decide_eq_false h1
  have hP0 : parF l t = 0 := par_0 (by omega)
  refine .skip ?_
  refine ⟨?_, Sub.less ⟨SLe.refl _, SLe.refl _, trivial⟩ (fun _ h => h)⟩
  exact hP0
 refine .seq ?_
 refine .sr ?_
 refine .sA (.fieldAddr rfl fo_61_6 rfl) ?_
 refine .sA (.load rfl sc_39 rfl) ?_
 refine .sA (.lenSl rfl et_39.ht rfl) ?_
 refine .mA (.nil ?_)
 refine .block ?_
 refine .loop (G := Nat) (fun k => Env.of [(35, .d (.v (.int .i64 (k : Int)))), (33, .d (.sl (t.parts.map intD))), (34, .d (.v (.int .i64 ((t.parts.map intD).length : Int)))), (0, .d (.fm (idxM l))), (3, .d (.fp t.ds))]) (fun k => []) (fun k => k ≤ t.parts.length ∧ ffst (ptF l t) k = 0) (fun k => t.parts.length - k) 0 ⟨Nat.zero_le _, rfl⟩ (Sub.less ⟨(SLe.of_eq rfl), SLe.refl _, SLe.refl _, SLe.refl _, SLe.refl _, trivial⟩ (fun _ h => h)) ?_
 intro k hk
 refine .sr ?_
 refine .sA (.lss rfl rfl rfl) (.nil ?_)
 refine .seq ?_
 refine .cond rfl (fun h7 => ?_) (fun h7 => ?_)
 ·replace h7 := of_decide_eq_true h7
  rw [List.length_map] at h7
  have hlt : k < t.parts.length := by omega
  have hbk := ht.parts _ (List.getElem_mem hlt)
  refine .skip ?_
  refine .seq ?_
  refine .block ?_
  refine .sr ?_
  refine .sA (.indexAddr rfl et_39 rfl rfl k rfl (at_lst hlt) rfl) ?_
  refine .sA (.load rfl sc_3 rfl) ?_
  refine .aA (.nil ?_)
  refine .sr ?_
  refine .mA ?_
  refine .mA ?_
  refine .sA (.lookupOkF (key := kI t.parts[k]) rfl mt_idx kd_int zt_thg zd_thg rfl rfl (DExact.v _) (kI_ok hbk) (idxM_keys hl) _ (getok_idx hn.nk _)) ?_
  refine .mA ?_
  refine .sA (.extract rfl rfl rfl) ?_
  refine .sA (.extract rfl rfl rfl) ?_
  refine .alloc 102 rfl rfl rfl rfl zt_61 rfl rfl rfl ?_
  refine .store rfl rfl rfl sz_61 rfl (.head _) rfl rfl rfl (Nat.le_of_ble_eq_true rfl) ?_
  refine .freezeCells 10 (ds := (getT l t.parts[k]).ds) rfl (.head _) ?_
  refine .aA (.nil ?_)
  refine .seq ?_
  refine .sr ?_
  refine .mA ?_
  refine .sA (.not rfl rfl) (.nil ?_)
  refine .cond rfl (fun h8 => ?_) (fun h8 => ?_)
  ·replace h8 := bnot_t h8
   have HR : linkF l t = 9 := link_q hP0 hlt hk.2 (pt_9 hlt h8) (by decide)
   refine .sr ?_
   refine .aA (.nil ?_)
   refine .ret ?_
   refine ⟨RetD.eq rfl ?_, trivial⟩
   all_goals (rw [HR])
  replace h8 := bnot_f h8
  have hth2 := h8
  refine .skip ?_
  refine .sr ?_
  refine .sA (.fieldAddr rfl fo_61_1 rfl) ?_
  refine .sA (.load rfl sc_3 rfl) ?_
  refine .sA (.neq rfl rfl rfl) (.nil ?_)
  refine .cond rfl (fun h9 => ?_) (fun h9 => ?_)
  ·replace h9 := of_decide_eq_true h9
   have HR : linkF l t = 6 := link_q hP0 hlt hk.2 (pt_6 hlt hth2 h9) (by decide)
   refine .sr ?_
   refine .aA (.nil ?_)
   refine .ret ?_
   refine ⟨RetD.eq rfl ?_, trivial⟩
   all_goals (rw [HR])
  replace h9 := of_decide_eq_false h9
  have hPK := pt_ok hlt hth2 (by omega)
  refine .skip ?_
  refine .region ?_
  refine .sA (.add64 rfl rfl rfl (by omega) (by omega)) ?_
  refine .mA (.nil ?_)
  refine ⟨k + 1, ⟨by omega, ffst_next hk.2 hPK⟩, (by dsimp only; omega), Sub.less ⟨(SLe.of_eq rfl), SLe.refl _, SLe.refl _, SLe.refl _, SLe.refl _, trivial⟩ (fun _ h => h)⟩
 replace h7 := of_decide_eq_false h7
 rw [List.length_map] at h7
 obtain rfl : k = t.parts.length := by omega
 have HL := link_l hP0 hk.2
 refine .exit ?_
 refine .sr ?_
 refine .sA (.fieldAddr rfl fo_61_5 rfl) ?_
 refine .sA (.load rfl sc_3 rfl) ?_
 refine .aA (.nil ?_)
 refine .seq ?_
 refine .sr ?_
 refine .mA ?_
 refine .sA (.lenF rfl mt_101 rfl) ?_
 rw [idx_len]
 refine .mA (.nil ?_)
 refine .block ?_
 refine .loop (G := Nat) (fun j => Env.of [(55, .d (.v (.int .i64 (j : Int)))), (54, .d (.v (.int .i64 (l.length : Int)))), (12, .d (.v (.int .i64 (upN l t.parent j)))), (0, .d (.fm (idxM l))), (3, .d (.fp t.ds))]) (fun j => []) (fun j => j ≤ l.length ∧ ∀ i, i < j → upN l t.parent i ≠ t.id) (fun j => l.length - j) 0 ⟨Nat.zero_le _, fun i hi => by omega⟩ (Sub.less ⟨(SLe.of_eq rfl), SLe.refl _, (SLe.of_eq rfl), SLe.refl _, SLe.refl _, trivial⟩ (fun _ h => h)) ?_
 intro j hj
 refine .sr ?_
 refine .sA (.lss rfl rfl rfl) (.nil ?_)
 refine .seq ?_
 refine .cond rfl (fun h10 => ?_) (fun h10 => ?_)
 ·replace h10 := of_decide_eq_true h10
  have hlt2 : j < l.length := by omega
  refine .skip ?_
  refine .seq ?_
  refine .block ?_
  refine .seq ?_
  refine .sr ?_
  refine .mA ?_
  refine .sA (.fieldAddr rfl fo_61_0 rfl) ?_
  refine .sA (.load rfl sc_3 rfl) ?_
  refine .sA (.eql rfl rfl rfl) (.nil ?_)
  refine .cond rfl (fun h11 => ?_) (fun h11 => ?_)
  ·replace h11 := of_decide_eq_true h11
   have HR : linkF l t = 14 := by rw [HL, if_pos (loop_yes hlt2 h11)]
   refine .sr ?_
   refine .aA (.nil ?_)
   refine .ret ?_
   refine ⟨RetD.eq rfl ?_, trivial⟩
   all_goals (rw [HR])
  replace h11 := of_decide_eq_false h11
  have HN := up_next hj.2 h11
  refine .skip ?_
  refine .region ?_
  refine .mA ?_
  refine .mA ?_
  refine .sA (.lookupF (key := kI (upN l t.parent j)) rfl mt_idx kd_int zt_thg zd_thg rfl rfl (DExact.v _) (kI_ok (upN_ok hl ht.parent j)) (idxM_keys hl) (get_idx hn.nk _)) ?_
  refine .sA (.field rfl fv_61_5 rfl rfl) ?_
  refine .aA (.nil ?_)
  refine .region ?_
  refine .sA (.add64 rfl rfl rfl (by omega) (by omega)) ?_
  refine .mA (.nil ?_)
  refine ⟨j + 1, ⟨by omega, HN⟩, (by dsimp only; omega), Sub.less ⟨(SLe.of_eq rfl), SLe.refl _, (SLe.of_eq rfl), SLe.refl _, SLe.refl _, trivial⟩ (fun _ h => h)⟩
 replace h10 := of_decide_eq_false h10
 have HR : linkF l t = 0 := by rw [HL, if_neg (by rw [loop_no (fun i hi => hj.2 i (by omega))]; decide)]
 refine .exit ?_
 refine .sr ?_
 refine .aA (.nil ?_)
 refine .ret ?_
 refine ⟨RetD.eq rfl ?_, trivial⟩
 all_goals (rw [HR])

set_option maxRecDepth 100000 in
set_option maxHeartbeats 1000000 in
theorem c_back (c : Ctl) (t : Thg) (hl : Lim c) (hr : RisT c.things) (ht : t ∈ c.things) : ACall Tryz.prog 99 [.agg c.ds, .agg t.ds] (.v (.bool (loopB c.things t))) := by
 refine acall_of (n := 30) (ds' := [.v (.bool (loopB c.things t))]) Tryz.func99 rfl (by kernel_rfl) rfl [4] rfl rfl ?_
 intro B w0 F0 fr
 have hl1 := hl.1
 refine .sr ?_
 refine .sA (.box rfl rfl rfl) ?_
 refine .sA (.box rfl rfl rfl) ?_
 refine .aA (.nil ?_)
 refine .sr ?_
 refine .sA (.loadAgg rfl ag_61 rfl rfl) ?_
 refine .alloc 101 rfl rfl rfl rfl zt_61 rfl rfl rfl ?_
 refine .store rfl rfl rfl sz_61 rfl (.head _) rfl rfl rfl (Nat.le_of_ble_eq_true rfl) (.nil ?_)
 refine .seq ?_
 refine .sr ?_
 refine .sA (.fieldAddr rfl fo_25_0 rfl) ?_
 refine .sA (.load rfl sc_22 rfl) ?_
 refine .sA (.lenSl rfl et_22.ht rfl) ?_
 refine .mA (.nil ?_)
 refine .block ?_
 refine .loop (G := Nat) (fun j => Env.of [(12, .d (.v (.int .i64 (j : Int)))), (11, .d (.v (.int .i64 ((c.things.map Thg.ds).length : Int)))), (2, .d (.fp c.ds)), (3, .d (.fp t.ds)), (5, .ptr 101 0)]) (fun j => [(101, .cells ((atN c.things t j).ds.map S.d))]) (fun j => j ≤ c.things.length ∧ ∀ i, i < j → upN c.things t.parent i ≠ t.id) (fun j => c.things.length - j) 0 ⟨Nat.zero_le _, fun i hi => by omega⟩ (Sub.less ⟨(SLe.of_eq rfl), SLe.refl _, SLe.refl _, SLe.refl _, SLe.refl _, trivial⟩ (cells_1 rfl)) ?_
 intro j hj
 refine .sr ?_
 refine .sA (.lss rfl rfl rfl) (.nil ?_)
 refine .seq ?_
 refine .cond rfl (fun h1 => ?_) (fun h1 => ?_)
 ·replace h1 := of_decide_eq_true h1
  rw [List.length_map] at h1
  have hlt : j < c.things.length := by omega
  refine .skip ?_
  refine .seq ?_
  refine .block ?_
  refine .sr ?_
  refine .sA (.loadAgg rfl ag_25 rfl rfl) ?_
  refine .sA (.fieldAddrP rfl fo_61_5 rfl) ?_
  refine .sA (.loadP rfl sc_3 rfl (.head _) rfl) ?_
  refine .sA (.call rfl (.cons (.rfl' rfl) (.cons (.rfl' rfl) .nil)) (c_thing c _ hl.two)) ?_
  refine .mA ?_
  refine .sA (.extract rfl rfl rfl) ?_
  refine .sA (.extract rfl rfl rfl) ?_
  refine .alloc 102 rfl rfl rfl rfl zt_61 rfl rfl rfl ?_
  refine .store rfl rfl rfl sz_61 rfl (.head _) rfl rfl rfl (Nat.le_of_ble_eq_true rfl) ?_
  refine .freezeCells 6 (ds := (getT c.things (atN c.things t j).parent).ds) rfl (.head _) ?_
  refine .aA (.nil ?_)
  refine .seq ?_
  refine .sr ?_
  refine .mA ?_
  refine .sA (.not rfl rfl) (.nil ?_)
  refine .cond rfl (fun h2 => ?_) (fun h2 => ?_)
  ·replace h2 := bnot_t h2
   rw [loop_gone hr ht hj.2 (by rw [up_at]; exact h2)]
   refine .sr ?_
   refine .aA (.nil ?_)
   refine .ret ?_
   refine ⟨RetD.eq rfl ?_, trivial⟩
   all_goals (rfl)
  replace h2 := bnot_f h2
  have hth := getT_id h2
  refine .skip ?_
  refine .seq ?_
  refine .sr ?_
  refine .sA (.fieldAddr rfl fo_61_0 rfl) ?_
  refine .sA (.load rfl sc_3 rfl) ?_
  refine .sA (.fieldAddr rfl fo_61_0 rfl) ?_
  refine .sA (.load rfl sc_3 rfl) ?_
  refine .sA (.eql rfl rfl rfl) (.nil ?_)
  refine .cond rfl (fun h3 => ?_) (fun h3 => ?_)
  ·replace h3 := of_decide_eq_true h3
   rw [loop_yes hlt (by rw [up_at, ← hth.1]; exact h3)]
   refine .sr ?_
   refine .aA (.nil ?_)
   refine .ret ?_
   refine ⟨RetD.eq rfl ?_, trivial⟩
   all_goals (rfl)
  replace h3 := of_decide_eq_false h3
  have HN := up_next hj.2 (by rw [up_at, ← hth.1]; exact h3)
  refine .skip ?_
  refine .region ?_
  refine .sA (.loadAgg rfl ag_61 rfl rfl) ?_
  refine .store rfl rfl rfl sz_61 rfl (.head _) rfl rfl rfl (Nat.le_of_ble_eq_true rfl) (.nil ?_)
  refine .region ?_
  refine .sA (.add64 rfl rfl rfl (by omega) (by omega)) ?_
  refine .mA (.nil ?_)
  refine ⟨j + 1, ⟨by omega, HN⟩, (by dsimp only; omega), Sub.less ⟨(SLe.of_eq rfl), SLe.refl _, SLe.refl _, SLe.refl _, SLe.refl _, trivial⟩ (cells_1 rfl)⟩
 replace h1 := of_decide_eq_false h1
 rw [List.length_map] at h1
 rw [loop_no (fun i hi => hj.2 i (by omega))]
 refine .exit ?_
 refine .sr ?_
 refine .aA (.nil ?_)
 refine .ret ?_
 refine ⟨RetD.eq rfl ?_, trivial⟩
 all_goals (rfl)

set_option maxRecDepth 100000 in
set_option maxHeartbeats 1000000 in
theorem c_rLink (c : Ctl) (i : Nat) (hl : Lim c) (hr : RisT c.things) (hi : i < c.things.length) (hp : c.things[i].parts.length ≤ 50) : ACall Tryz.prog 65 [.agg c.ds, .v (.int .i64 (i : Int))] (.v (.int .i64 (lkF c.things i))) := by
 refine acall_of (n := 98) (ds' := [.v (.int .i64 (lkF c.things i))]) Tryz.func65 rfl (by kernel_rfl) rfl [4] rfl rfl ?_
 intro B w0 F0 fr
 have hl1 := hl.1
 refine .sr ?_
 refine .sA (.box rfl rfl rfl) ?_
 refine .aA (.nil ?_)
 refine .sr ?_
 refine .sA (.fieldAddr rfl fo_25_0 rfl) ?_
 refine .sA (.load rfl sc_22 rfl) ?_
 refine .mA ?_
 refine .sA (.indexAddr rfl et_22 rfl rfl i rfl (at_lst hi) rfl) ?_
 refine .sA (.loadAgg rfl ag_61 rfl rfl) ?_
 refine .alloc 101 rfl rfl rfl rfl zt_61 rfl rfl rfl ?_
 refine .store rfl rfl rfl sz_61 rfl (.head _) rfl rfl rfl (Nat.le_of_ble_eq_true rfl) ?_
 refine .freezeCells 5 (ds := c.things[i].ds) rfl (.head _) (.nil ?_)
 refine .seqJ (parF c.things c.things[i] = 0) (Env.of [(1, .d (.v (.int .i64 (i : Int)))), (2, .d (.fp c.ds)), (5, .d (.fp c.things[i].ds))]) [] ?_ (fun hP0 => ?_)
 ·skip
  refine .sr ?_
  refine .sA (.fieldAddr rfl fo_61_5 rfl) ?_
  refine .sA (.load rfl sc_3 rfl) ?_
  refine .sA (.neq rfl rfl rfl) (.nil ?_)
  refine .cond rfl (fun h1 => ?_) (fun h1 => ?_)
  ·replace h1 := of_decide_eq_true h1
   have hpn : ¬ c.things[i].parent = 0 := h1
   refine .sr ?_
   refine .sA (.loadAgg rfl ag_25 rfl rfl) ?_
   refine .sA (.fieldAddr rfl fo_61_5 rfl) ?_
   refine .sA (.load rfl sc_3 rfl) ?_
   refine .sA (.call rfl (.cons (.rfl' rfl) (.cons (.rfl' rfl) .nil)) (c_thing c _ hl.two)) ?_
   refine .mA ?_
   refine .sA (.extract rfl rfl rfl) ?_
   refine .sA (.extract rfl rfl rfl) ?_
   refine .alloc 102 rfl rfl rfl rfl zt_61 rfl rfl rfl ?_
   refine .store rfl rfl rfl sz_61 rfl (.head _) rfl rfl rfl (Nat.le_of_ble_eq_true rfl) ?_
   refine .freezeCells 6 (ds := (getT c.things c.things[i].parent).ds) rfl (.head _) ?_
   refine .aA (.nil ?_)
   refine .seq ?_
   refine .sr ?_
   refine .mA ?_
   refine .sA (.not rfl rfl) (.nil ?_)
   refine .cond rfl (fun h2 => ?_) (fun h2 => ?_)
   ·replace h2 := bnot_t h2
    have HR : lkF c.things i = 9 := lk_p hi (link_p (par_9 hpn h2) (by decide)) (by decide)
    refine .sr ?_
    refine .aA (.nil ?_)
    refine .ret ?_
    refine ⟨RetD.eq rfl ?_, trivial⟩
    all_goals (rw [HR])
   replace h2 := bnot_f h2
   have hth := h2
   refine .skip ?_
   refine .sr ?_
   refine .sA (.fieldAddr rfl fo_61_1 rfl) ?_
   refine .sA (.load rfl sc_3 rfl) ?_
   refine .sA (.eql rfl rfl rfl) ?_
   refine .mA ?_
   refine .split 34 rfl (fun g3 => ?_) (fun g3 => ?_)
   ·replace g3 := of_decide_eq_true g3
    refine .sG (.fieldAddr rfl fo_61_1 rfl) ?_
    refine .sG (.load rfl sc_3 rfl) ?_
    refine .sG (.neq rfl rfl rfl) ?_
    refine .sA (.pickT rfl rfl rfl) ?_
    refine .mA ?_
    refine .split 39 rfl (fun g4 => ?_) (fun g4 => ?_)
    ·replace g4 := of_decide_eq_true g4
     refine .pA ?_
     refine .pA ?_
     refine .pA ?_
     refine .pA ?_
     refine .pass ⟨43, rfl, .inr ⟨rfl, rfl⟩⟩ rfl rfl ?_
     refine .pass ⟨43, rfl, .inr ⟨rfl, rfl⟩⟩ rfl rfl ?_
     refine .pass ⟨43, rfl, .inr ⟨rfl, rfl⟩⟩ rfl rfl ?_
     refine .pA ?_
     refine .sA (.pickT rfl rfl rfl) (.nil ?_)
     refine .cond rfl (fun _ => ?_) (fun h => nomatch h)
     refine .seq ?_
     have HR : lkF c.things i = 6 := lk_p hi (link_p (par_6 hpn hth (by unfold wantK; split <;> omega)) (by decide)) (by decide)
     refine .region ?_
     refine .aA (.nil ?_)
     refine .ret ?_
     refine ⟨RetD.eq rfl ?_, trivial⟩
     all_goals (rw [HR])
    replace g4 := of_decide_eq_false g4
    refine .sG (.fieldAddr rfl fo_61_1 rfl) ?_
    refine .sG (.load rfl sc_3 rfl) ?_
    refine .sG (.neq rfl rfl rfl) ?_
    refine .sG (.moveD rfl rfl) ?_
    refine .split 43 rfl (fun g5 => ?_) (fun g5 => ?_)
    ·replace g5 := of_decide_eq_true g5
     refine .sG (.fieldAddr rfl fo_61_1 rfl) ?_
     refine .sG (.load rfl sc_3 rfl) ?_
     refine .sG (.neq rfl rfl rfl) ?_
     refine .sG (.pickT rfl rfl rfl) ?_
     refine .sA (.pickF rfl rfl rfl) (.nil ?_)
     refine .cond rfl (fun h6 => ?_) (fun h6 => ?_)
     ·replace h6 := of_decide_eq_true h6
      refine .seq ?_
      have HR : lkF c.things i = 6 := lk_p hi (link_p (par_6 hpn hth (by unfold wantK; split <;> omega)) (by decide)) (by decide)
      refine .region ?_
      refine .aA (.nil ?_)
      refine .ret ?_
      refine ⟨RetD.eq rfl ?_, trivial⟩
      all_goals (rw [HR])
     replace h6 := of_decide_eq_false h6
     refine .skip ?_
     refine ⟨?_, Sub.less ⟨SLe.refl _, SLe.refl _, SLe.refl _, trivial⟩ (fun _ h => h)⟩
     first | assumption | exact par_ok hpn hth (by unfold wantK; split <;> omega)
    replace g5 := of_decide_eq_false g5
    refine .pA ?_
    refine .pA ?_
    refine .pA ?_
    refine .sG (.pickF rfl rfl rfl) ?_
    refine .sA (.pickF rfl rfl rfl) (.nil ?_)
    refine .cond rfl (fun h => nomatch h) (fun _ => ?_)
    refine .skip ?_
    refine ⟨?_, Sub.less ⟨SLe.refl _, SLe.refl _, SLe.refl _, trivial⟩ (fun _ h => h)⟩
    first | assumption | exact par_ok hpn hth (by unfold wantK; split <;> omega)
   replace g3 := of_decide_eq_false g3
   refine .pA ?_
   refine .pA ?_
   refine .pA ?_
   refine .sA (.pickF rfl rfl rfl) ?_
   refine .mA ?_
   refine .sG (.fieldAddr rfl fo_61_1 rfl) ?_
   refine .sG (.load rfl sc_3 rfl) ?_
   refine .sG (.neq rfl rfl rfl) ?_
   refine .sG (.moveD rfl rfl) ?_
   refine .split 43 rfl (fun g7 => ?_) (fun g7 => ?_)
   ·replace g7 := of_decide_eq_true g7
    refine .sG (.fieldAddr rfl fo_61_1 rfl) ?_
    refine .sG (.load rfl sc_3 rfl) ?_
    refine .sG (.neq rfl rfl rfl) ?_
    refine .sG (.pickT rfl rfl rfl) ?_
    refine .sA (.pickF rfl rfl rfl) (.nil ?_)
    refine .cond rfl (fun h8 => ?_) (fun h8 => ?_)
    ·replace h8 := of_decide_eq_true h8
     refine .seq ?_
     have HR : lkF c.things i = 6 := lk_p hi (link_p (par_6 hpn hth (by unfold wantK; split <;> omega)) (by decide)) (by decide)
     refine .region ?_
     refine .aA (.nil ?_)
     refine .ret ?_
     refine ⟨RetD.eq rfl ?_, trivial⟩
     all_goals (rw [HR])
    replace h8 := of_decide_eq_false h8
    refine .skip ?_
    refine ⟨?_, Sub.less ⟨SLe.refl _, SLe.refl _, SLe.refl _, trivial⟩ (fun _ h => h)⟩
    first | assumption | exact par_ok hpn hth (by unfold wantK; split <;> omega)
   replace g7 := of_decide_eq_false g7
   refine .pA ?_
   refine .pA ?_
   refine .pA ?_
   refine .sG (.pickF rfl rfl rfl) ?_
   refine .sA (.pickF rfl rfl rfl) (.nil ?_)
   refine .cond rfl (fun h => nomatch h) (fun _ => ?_)
   refine .skip ?_
   refine ⟨?_, Sub.less ⟨SLe.refl _, SLe.refl _, SLe.refl _, trivial⟩ (fun _ h => h)⟩
   first | assumption | exact par_ok hpn hth (by unfold wantK; split <;> omega)
  replace h1 := of_decide_eq_false h1
  have hP0 : parF c.things c.things[i] = 0 := par_0 (by omega)
  refine .skip ?_
  refine ⟨?_, Sub.less ⟨SLe.refl _, SLe.refl _, SLe.refl _, trivial⟩ (fun _ h => h)⟩
  first | assumption | exact par_ok hpn hth (by unfold wantK; split <;> omega)
 refine .seq ?_
 refine .sr ?_
 refine .sA (.fieldAddr rfl fo_61_6 rfl) ?_
 refine .sA (.load rfl sc_39 rfl) ?_
 refine .sA (.lenSl rfl et_39.ht rfl) ?_
 refine .mA (.nil ?_)
 refine .block ?_
 refine .loop (G := Nat) (fun k => Env.of [(52, .d (.v (.int .i64 (k : Int)))), (50, .d (.sl (c.things[i].parts.map intD))), (51, .d (.v (.int .i64 ((c.things[i].parts.map intD).length : Int)))), (2, .d (.fp c.ds)), (5, .d (.fp c.things[i].ds)), (1, .d (.v (.int .i64 (i : Int))))]) (fun k => []) (fun k => k ≤ c.things[i].parts.length ∧ ffst (ptF c.things c.things[i]) k = 0) (fun k => c.things[i].parts.length - k) 0 ⟨Nat.zero_le _, rfl⟩ (Sub.less ⟨(SLe.of_eq rfl), SLe.refl _, SLe.refl _, SLe.refl _, SLe.refl _, SLe.refl _, trivial⟩ (fun _ h => h)) ?_
 intro k hk
 refine .sr ?_
 refine .sA (.lss rfl rfl rfl) (.nil ?_)
 refine .seq ?_
 refine .cond rfl (fun h9 => ?_) (fun h9 => ?_)
 ·replace h9 := of_decide_eq_true h9
  rw [List.length_map] at h9
  have hlt : k < c.things[i].parts.length := by omega
  refine .skip ?_
  refine .seq ?_
  refine .block ?_
  refine .sr ?_
  refine .sA (.indexAddr rfl et_39 rfl rfl k rfl (at_lst hlt) rfl) ?_
  refine .sA (.load rfl sc_3 rfl) ?_
  refine .aA (.nil ?_)
  refine .sr ?_
  refine .sA (.loadAgg rfl ag_25 rfl rfl) ?_
  refine .mA ?_
  refine .sA (.call rfl (.cons (.rfl' rfl) (.cons (.rfl' rfl) .nil)) (c_thing c _ hl.two)) ?_
  refine .mA ?_
  refine .sA (.extract rfl rfl rfl) ?_
  refine .sA (.extract rfl rfl rfl) ?_
  refine .alloc 103 rfl rfl rfl rfl zt_61 rfl rfl rfl ?_
  refine .store rfl rfl rfl sz_61 rfl (.head _) rfl rfl rfl (Nat.le_of_ble_eq_true rfl) ?_
  refine .freezeCells 10 (ds := (getT c.things c.things[i].parts[k]).ds) rfl (.head _) ?_
  refine .aA (.nil ?_)
  refine .seq ?_
  refine .sr ?_
  refine .mA ?_
  refine .sA (.not rfl rfl) (.nil ?_)
  refine .cond rfl (fun h10 => ?_) (fun h10 => ?_)
  ·replace h10 := bnot_t h10
   have HR : lkF c.things i = 9 := lk_p hi (link_q hP0 hlt hk.2 (pt_9 hlt h10) (by decide)) (by decide)
   refine .sr ?_
   refine .aA (.nil ?_)
   refine .ret ?_
   refine ⟨RetD.eq rfl ?_, trivial⟩
   all_goals (rw [HR])
  replace h10 := bnot_f h10
  have hth2 := h10
  refine .skip ?_
  refine .sr ?_
  refine .sA (.fieldAddr rfl fo_61_1 rfl) ?_
  refine .sA (.load rfl sc_3 rfl) ?_
  refine .sA (.neq rfl rfl rfl) (.nil ?_)
  refine .cond rfl (fun h11 => ?_) (fun h11 => ?_)
  ·replace h11 := of_decide_eq_true h11
   have HR : lkF c.things i = 6 := lk_p hi (link_q hP0 hlt hk.2 (pt_6 hlt hth2 h11) (by decide)) (by decide)
   refine .sr ?_
   refine .aA (.nil ?_)
   refine .ret ?_
   refine ⟨RetD.eq rfl ?_, trivial⟩
   all_goals (rw [HR])
  replace h11 := of_decide_eq_false h11
  have hPK := pt_ok hlt hth2 (by omega)
  refine .skip ?_
  refine .region ?_
  refine .sA (.add64 rfl rfl rfl (by omega) (by omega)) ?_
  refine .mA (.nil ?_)
  refine ⟨k + 1, ⟨by omega, ffst_next hk.2 hPK⟩, (by dsimp only; omega), Sub.less ⟨(SLe.of_eq rfl), SLe.refl _, SLe.refl _, SLe.refl _, SLe.refl _, SLe.refl _, trivial⟩ (fun _ h => h)⟩
 replace h9 := of_decide_eq_false h9
 rw [List.length_map] at h9
 have hkl : k = c.things[i].parts.length := by omega
 have HL := link_l hP0 (by rw [← hkl]; exact hk.2)
 refine .exit ?_
 refine .seq ?_
 refine .sr ?_
 refine .sA (.loadAgg rfl ag_25 rfl rfl) ?_
 refine .sA (.loadAgg rfl ag_61 rfl rfl) ?_
 refine .sA (.call rfl (.cons (.rfl' rfl) (.cons (.rfl' rfl) .nil)) (c_back c _ hl hr (List.getElem_mem hi))) (.nil ?_)
 refine .cond rfl (fun h12 => ?_) (fun h12 => ?_)
 ·skip
  have HR : lkF c.things i = 14 := lk_p hi (HL.trans (if_pos h12)) (by decide)
  refine .sr ?_
  refine .aA (.nil ?_)
  refine .ret ?_
  refine ⟨RetD.eq rfl ?_, trivial⟩
  all_goals (rw [HR])
 have HL0 : linkF c.things c.things[i] = 0 := HL.trans (if_neg (by rw [h12]; decide))
 refine .skip ?_
 refine .seq ?_
 refine .sr ?_
 refine .sA (.fieldAddr rfl fo_25_0 rfl) ?_
 refine .sA (.load rfl sc_22 rfl) ?_
 refine .mA ?_
 refine .sA (.sliceH rfl et_22 rfl rfl (by omega) (by rw [List.length_map]; omega) (fun y hy => by obtain ⟨z, _, rfl⟩ := List.mem_map.1 hy; rfl)) ?_
 refine .sA (.lenSl rfl et_22.ht rfl) ?_
 refine .mA (.nil ?_)
 refine .block ?_
 refine .loop (G := Nat) (fun j => Env.of [(76, .d (.v (.int .i64 (j : Int)))), (74, .d (.sl ((c.things.map Thg.ds).take i))), (75, .d (.v (.int .i64 (i : Int)))), (5, .d (.fp c.things[i].ds))]) (fun j => []) (fun j => j ≤ i ∧ ∀ x ∈ c.things.take j, ¬ twP c.things[i] x) (fun j => i - j) 0 ⟨Nat.zero_le _, fun x hx => by simp at hx⟩ (Sub.less ⟨(SLe.of_eq rfl), (SLe.of_eq rfl), (SLe.i64 (by rw [List.length_take, List.length_map]; omega)), SLe.refl _, trivial⟩ (fun _ h => h)) ?_
 intro j hj
 refine .sr ?_
 refine .sA (.lss rfl rfl rfl) (.nil ?_)
 refine .seq ?_
 refine .cond rfl (fun h13 => ?_) (fun h13 => ?_)
 ·replace h13 := of_decide_eq_true h13
  have hlt3 : j < i := by omega
  refine .skip ?_
  refine .seq ?_
  refine .block ?_
  refine .sr ?_
  refine .sA (.indexAddr rfl et_22 rfl rfl j rfl (at_take (by omega) hlt3) rfl) ?_
  refine .sA (.loadAgg rfl ag_61 rfl rfl) ?_
  refine .alloc 104 rfl rfl rfl rfl zt_61 rfl rfl rfl ?_
  refine .store rfl rfl rfl sz_61 rfl (.head _) rfl rfl rfl (Nat.le_of_ble_eq_true rfl) ?_
  refine .freezeCells 13 (ds := (c.things[j]'(by omega)).ds) rfl (.head _) (.nil ?_)
  refine .sr ?_
  refine .sA (.fieldAddr rfl fo_61_1 rfl) ?_
  refine .sA (.load rfl sc_3 rfl) ?_
  refine .sA (.fieldAddr rfl fo_61_1 rfl) ?_
  refine .sA (.load rfl sc_3 rfl) ?_
  refine .sA (.eql rfl rfl rfl) ?_
  refine .mA ?_
  refine .split 85 rfl (fun g14 => ?_) (fun g14 => ?_)
  ·replace g14 := of_decide_eq_true g14
   have hke := g14
   refine .sG (.fieldAddr rfl fo_61_3 rfl) ?_
   refine .sG (.load rfl sc_9 rfl) ?_
   refine .sG (.sneq rfl rfl rfl) ?_
   refine .sA (.pickT rfl rfl rfl) ?_
   refine .mA ?_
   refine .split 90 rfl (fun g15 => ?_) (fun g15 => ?_)
   ·replace g15 := of_decide_eq_true g15
    have hcn := g15
    refine .sG (.fieldAddr rfl fo_61_3 rfl) ?_
    refine .sG (.load rfl sc_9 rfl) ?_
    refine .sG (.fieldAddr rfl fo_61_3 rfl) ?_
    refine .sG (.load rfl sc_9 rfl) ?_
    refine .sG (.seql rfl rfl rfl) ?_
    refine .sA (.pickT rfl rfl rfl) (.nil ?_)
    refine .cond rfl (fun h16 => ?_) (fun h16 => ?_)
    ·replace h16 := of_decide_eq_true h16
     have hce := h16
     refine .seq ?_
     have HR := lk_7 hi HL0 hcn (tw_yes hlt3 (by omega) ⟨hke, hcn, hce⟩)
     refine .region ?_
     refine .aA (.nil ?_)
     refine .ret ?_
     refine ⟨RetD.eq rfl ?_, trivial⟩
     all_goals (rw [HR])
    replace h16 := of_decide_eq_false h16
    refine .skip ?_
    refine .region ?_
    refine .sA (.add64 rfl rfl rfl (by omega) (by omega)) ?_
    refine .mA (.nil ?_)
    refine ⟨j + 1, ⟨by omega, tw_next (by omega) hj.2 (fun ⟨q1, q2, q3⟩ => by first | contradiction | omega)⟩, (by dsimp only; omega), Sub.less ⟨(SLe.of_eq rfl), SLe.refl _, SLe.refl _, SLe.refl _, trivial⟩ (fun _ h => h)⟩
   replace g15 := of_decide_eq_false g15
   refine .pA ?_
   refine .pA ?_
   refine .pA ?_
   refine .pA ?_
   refine .pA ?_
   refine .sA (.pickF rfl rfl rfl) (.nil ?_)
   refine .cond rfl (fun h => nomatch h) (fun _ => ?_)
   refine .skip ?_
   refine .region ?_
   refine .sA (.add64 rfl rfl rfl (by omega) (by omega)) ?_
   refine .mA (.nil ?_)
   refine ⟨j + 1, ⟨by omega, tw_next (by omega) hj.2 (fun ⟨q1, q2, q3⟩ => by first | contradiction | omega)⟩, (by dsimp only; omega), Sub.less ⟨(SLe.of_eq rfl), SLe.refl _, SLe.refl _, SLe.refl _, trivial⟩ (fun _ h => h)⟩
  replace g14 := of_decide_eq_false g14
  refine .pA ?_
  refine .pA ?_
  refine .pA ?_
  refine .sA (.pickF rfl rfl rfl) ?_
  refine .mA ?_
  refine .pA ?_
  refine .pA ?_
  refine .pA ?_
  refine .pA ?_
  refine .pA ?_
  refine .sA (.pickF rfl rfl rfl) (.nil ?_)
  refine .cond rfl (fun h => nomatch h) (fun _ => ?_)
  refine .skip ?_
  refine .region ?_
  refine .sA (.add64 rfl rfl rfl (by omega) (by omega)) ?_
  refine .mA (.nil ?_)
  refine ⟨j + 1, ⟨by omega, tw_next (by omega) hj.2 (fun ⟨q1, q2, q3⟩ => by first | contradiction | omega)⟩, (by dsimp only; omega), Sub.less ⟨(SLe.of_eq rfl), SLe.refl _, SLe.refl _, SLe.refl _, trivial⟩ (fun _ h => h)⟩
 replace h13 := of_decide_eq_false h13
 obtain rfl : j = i := by omega
 have HR := lk_0 hi HL0 (tw_no hj.2)
 refine .exit ?_
 refine .sr ?_
 refine .aA (.nil ?_)
 refine .ret ?_
 refine ⟨RetD.eq rfl ?_, trivial⟩
 all_goals (rw [HR])

end Go.Proofs.YthcdjmkkgbcaaaaGreatDoor
