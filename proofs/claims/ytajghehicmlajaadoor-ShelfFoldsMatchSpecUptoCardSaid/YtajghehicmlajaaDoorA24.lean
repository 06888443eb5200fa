/- Abstract values: contracts that want a fact about the world (a table that lies where it was laid), which every step keeps. No statement of the seat. -/
import Derived.Test.YtajghehicmlajaaDoorA23
namespace Go.Proofs.YtajghehicmlajaaDoor
open Go.RowKit
set_option linter.unusedVariables false

/-- What is so stays so while what was there is kept. -/
def Stays (T : World → Prop) : Prop := ∀ w w', Kept (fun b => w.heap.size ≤ b) w w' → T w → T w'
/-- A contract that wants T of the world. -/
def ACallT (P : Program) (T : World → Prop) (f : FuncId) (ds : List D) (d : D) : Prop := Enters P f ∧
  ∀ (F : Nat → Prop) (w : World) (vs : List Value), T w → (∀ b, F b → b < w.heap.size) → RepL F w vs ds → Calls P f vs.toArray w fun e w' => ∃ v F', e = .returned v ∧ Rep F' w' v d ∧ Ext F w F' w'
theorem ACallT.le {P : Program} {T : World → Prop} {f : FuncId} {ds : List D} {d d' : D} (h : ACallT P T f ds d) (hd : Le d d') : ACallT P T f ds d' :=
  ⟨h.1, fun F w vs hT hF hv => (h.2 F w vs hT hF hv).mono fun _ _ ⟨v, F', h1, h2, h3⟩ => ⟨v, F', h1, hd _ _ _ h2, h3⟩⟩
theorem AOps.callT {cx : Cx} {ops : Array Oper} {o : Oper} {rest : List Oper} {e : Env} {σ : Obs} {Q : Post} {T : World → Prop} {f : FuncId} {xs : List Operand} {ts : Array TypeId} {ds : List D} {d : D} (hg : GW ops o e true) (hd : DstOk cx.N o)
    (ho : o.op = .call { callee := .value (.func f), args := xs.toArray, argTypes := ts }) (hT : T cx.w0) (hS : Stays T) (hfr : cx.fr = fun b => cx.w0.heap.size ≤ b) (ha : ArgsOk e xs ds) (h : ACallT cx.P T f ds d)
    (k : AOps cx ops rest (e.put o.dst (.d d)) σ Q) : AOps cx ops (o :: rest) e σ Q := by
  intro a w ⟨F, ρ, hr⟩
  have hw := hg.wanted (fun t _ => hr.env t)
  have hTw : T w := hS _ _ (by rw [← hfr]; exact hr.below) hT
  have h1 : RepL F w (xs.map a.eval) ds := ha.rep (ρ := ρ) fun t _ => hr.env t
  have h2 := h.2 F w _ hTw hr.lt h1
  have h3 := h.1 (xs.map a.eval).toArray w
  have hx : (execOp a.eval o).run cx.P w = .ok (.enter f (xs.map a.eval).toArray) w := by
    unfold execOp
    simp only [ho, resolve, Deferred.ofValue, Act.eval, invoke, Sem.run_bind, Sem.run_pure, Result.andThen_ok]
    simpa using h3
  unfold wpList
  rw [if_pos hw]
  refine .inl ?_
  unfold Oper.wp
  rw [hx]
  refine h2.mono fun _ w' ⟨v, F', he, hv, hE⟩ => ?_
  subst he
  exact k _ _ ⟨F', ρ, hr.put hE (.d hv) hd⟩

theorem acall_ofT {T : World → Prop} {P : Program} {f : FuncId} {fn : Func} {c : Code} {n : Nat} {ds ds' : List D} (hf : P.funcs[f]? = some fn) (hb : fn.body = some c) (hn : (fn.name == "runtime.NumGoroutine") = false) (hN : fn.ntmps = n)
    (ts : List Nat) (hr : fn.results = (ts.map ResultVar.tmp).toArray) (hle' : Nat.ble ds.length n = true) (h : ∀ B w0 F0, T w0 → AWP ⟨P, n, B, w0, F0, (fun b => w0.heap.size ≤ b), fun _ => false, fun _ => undef⟩ c (Env.args 0 ds) [] (RetQ ts ds')) : ACallT P T f ds (retOf ds') := by
  have hle : ds.length ≤ n := Nat.le_of_ble_eq_true hle'
  refine ⟨Enters.of hf hn (by rw [hb]; rfl), fun F w vs hT hF hv => ?_⟩
  refine calls_of_wp hf hb ?_
  have hR : R ⟨P, n, w.heap.size, w, F, (fun b => w.heap.size ≤ b), fun _ => false, fun _ => undef⟩ (Env.args 0 ds) [] { tmps := vs.toArray ++ Array.replicate (fn.ntmps - vs.toArray.size) undef, defers := [] } w := by
    refine ⟨F, fun _ => undef, ?_, rfl, hF, fun b hb => hb, fun b hb => .inl hb, Kept.refl _ _, Nat.le_refl _, fun t => ?_, ⟨fun p hp => by simp at hp, fun p hp => by simp at hp, fun p hp => by simp at hp⟩, fun b hb => hb, fun p hp => by simp at hp, fun i hi => by simp at hi⟩
    · simp [hN, hv.1]; omega
    · by_cases ht : t < ds.length
      · have := Env.args_get ds 0 t ht
        rw [Nat.zero_add] at this
        rw [this]
        have hvt : t < vs.length := by rw [hv.1]; exact ht
        have : (vs.toArray ++ Array.replicate (fn.ntmps - vs.toArray.size) undef).getD t undef = vs[t] := by
          rw [Array.getD_eq_getD_getElem?, Array.getElem?_append_left (by simpa using hvt)]
          simp [hvt]
        rw [this]
        exact .d (hv.2 t hvt ht)
      · have := Env.args_out ds 0 t (by omega)
        rw [Nat.zero_add] at this
        rw [this]
        exact .d (.any _)
  refine wp_mono (h _ _ _ hT _ _ hR) ?_
  rintro ex a w' ⟨e', σ', hq, F', ρ', hr'⟩
  have hres : (results fn a.tmps).run P w' = .ok (match ts.map fun t => a.tmps.getD t undef with | [x] => x | l => .tuple l.toArray) w' := by
    have key : ∀ (ts : List Nat), (List.mapM (fun r => match r with | .tmp t => pure (a.tmps.getD t undef) | .cell b t => do loadVar t (← asAddr (a.tmps.getD b undef))) (ts.map ResultVar.tmp) : Sem (List Value)).run P w' = .ok (ts.map fun t => a.tmps.getD t undef) w' := by
      intro ts
      induction ts with
      | nil => rfl
      | cons t ts ih =>
        rw [List.map_cons, List.mapM_cons, Sem.run_bind]
        simp only [Sem.run_pure, Result.andThen_ok, Sem.run_bind, ih, List.map_cons]
    unfold results
    rw [hr, Sem.run_bind]
    have h2 : (Array.mapM (fun r => match r with | ResultVar.tmp t => pure (a.tmps.getD t undef) | ResultVar.cell b t => do loadVar t (← asAddr (a.tmps.getD b undef))) (ts.map ResultVar.tmp).toArray : Sem (Array Value)).run P w' = .ok (ts.map fun t => a.tmps.getD t undef).toArray w' := by
      rw [List.mapM_toArray, Sem.run_map, key]
      rfl
    have h3 := h2
    refine (congrArg (fun r => Result.andThen r _) h3).trans ?_
    simp only [Result.andThen_ok]
    rcases ts with _ | ⟨t, _ | ⟨t2, ts⟩⟩ <;> rfl
  have hends : RetL e' σ' ts ds' → bodyPost P fn (fun e w' => ∃ v F', e = .returned v ∧ Rep F' w' v (retOf ds') ∧ Ext F w F' w') .ret a w' := by
    intro hq
    have hl := hq.rep hr'
    refine ⟨hr'.defers, _, hres, _, endF F' ρ' σ', rfl, ?_, endF_ext hr' (fun b hb => hb)⟩
    generalize (ts.map fun t => a.tmps.getD t undef) = vs' at hl
    obtain ⟨h1, h2⟩ := hl
    rcases ds' with _ | ⟨d, _ | ⟨d2, ds'⟩⟩
    · have : vs' = [] := List.eq_nil_of_length_eq_zero h1
      subst this
      exact .tup [] [] rfl (fun i h1 => absurd h1 (by simp))
    · rcases vs' with _ | ⟨x, _ | ⟨y, vs'⟩⟩ <;> simp at h1
      exact h2 0 (by simp) (by simp)
    · rcases vs' with _ | ⟨x, _ | ⟨y, vs'⟩⟩
      · simp at h1
      · simp at h1
      · exact .tup _ _ h1 h2
  cases ex with
  | ret => exact hends hq
  | normal => exact hends hq
  | exit id => exact hq.elim
  | goto l => exact hq.elim
  | panic c => exact hq.elim
  | outgrown => exact hq.elim

/-! ## Operations -/

theorem AOp.sliceStrL {P : Program} {B : Nat} {ops : Array Oper} {o : Oper} {e : Env} {σ : Obs} {t : TypeId} {x lo : Operand} {s : ByteArray} {k : Int} (ho : o.op = .slice t x (some lo) none none) (ht : P.underlying t = some .string) (hx : e.ev x = .d (.v (.string s)))
    (hlo : e.ev lo = .d (.v (.int .i64 k))) (h0 : 0 ≤ k) (h1 : k ≤ s.size) : AOp P B ops o e σ (.d (.v (.string (s.extract k.toNat s.size)))) := .value fun F ρ w a hF hr _ => by
  have r1 := hr x (by rw [ho]; simp [Op.operands])
  have r2 := hr lo (by rw [ho]; simp [Op.operands])
  rw [hx] at r1; rw [hlo] at r2
  refine ⟨_, F, w, ?_, .d (.v _), Ext.refl hF⟩
  unfold execOp
  simp only [ho, repS_v r1, repS_v r2, Option.map_some, Option.map_none]
  rw [Sem.run_bind, run_sliceAt_string w t _ _ _ _ ht, run_slice_string_l w t s ht .i64 k h0 h1]
  rfl

/-- One cell an element, each of a plain value, at a new block: data. -/
theorem rep_newRow {w w' : World} {F : Nat → Prop} {A c : Nat} {vals : List Value} (hlt : ∀ b, F b → b < w.heap.size) (hA : w.heap.size ≤ A) (hA' : A < w'.heap.size) (hb : Below w.heap.size w w') (hc : vals.length ≤ c) (hm : c ≤ 9223372036854775807)
    (hcell : ∀ i (h : i < vals.length), w'.cell? ⟨A, i, none⟩ = some vals[i]) (hone : ∀ v ∈ vals, v.oneCell' = true) :
    ∃ F', Rep F' w' (.slice (some ⟨A, 0, none⟩) vals.length c) (.sl (vals.map fun v => [D.v v])) ∧ Ext F w F' w' := by
  refine ⟨fun b => F b ∨ b = A, ?_, ⟨fun b h => .inl h, fun b h => h.imp id fun h => by rw [h]; exact hA, fun b h => ?_, hb⟩⟩
  · have hl : (vals.map fun v => [D.v v]).length = vals.length := by simp
    have := Rep.sl (F := fun b => F b ∨ b = A) (w := w') ⟨A, 0, none⟩ c 1 (vals.map fun v => [D.v v]) (fun i _ => vals.getD i undef) (by rw [hl]; exact hc) hm (fun _ => .inr rfl) (fun i h => by simp) (fun i j hi hj => ?_) (fun i j hi hj => ?_) (fun i hi j hj => ?_)
    · rw [hl] at this; exact this
    · rw [hl] at hi
      obtain rfl : j = 0 := by omega
      have := hcell i hi
      have e : (Addr.add ⟨A, 0, none⟩ (i * 1 + 0)) = ⟨A, i, none⟩ := by unfold Addr.add; by_cases h0 : i = 0 <;> simp [h0]
      rw [e, this, List.getD_eq_getElem?_getD, List.getElem?_eq_getElem hi]; rfl
    · rw [hl] at hi
      rw [List.getD_eq_getElem?_getD, List.getElem?_eq_getElem hi]
      exact hone _ (List.getElem_mem hi)
    · rw [hl] at hi
      rw [List.getD_eq_getElem?_getD, List.getElem?_eq_getElem hi]
      simp only [List.getElem_map, List.length_cons, List.length_nil, Nat.zero_add] at hj ⊢
      obtain rfl : j = 0 := by omega
      exact .v _
  · rcases h with h | rfl
    · exact Nat.lt_of_lt_of_le (hlt b h) hb.size
    · exact hA'
end Go.Proofs.YtajghehicmlajaaDoor
