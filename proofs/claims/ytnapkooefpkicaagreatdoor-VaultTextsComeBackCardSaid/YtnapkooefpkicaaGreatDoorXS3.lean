/- Walks and laws over abstract values, merged by tools/merge.py. No statement of the seat. -/
import Derived.Laws.Cover3
import Derived.Shelf.Strings.Builder1
import Derived.Lib.AppendStr
import Derived.Lib.UnsafeStr
import Derived.WalkKit
import Derived.Ground.NamesProg
import Derived.Shelf.LaysM
import Derived.Shelf.Strconv.Itoa3
import Derived.Test.YtnapkooefpkicaaGreatDoorProg
import Derived.Shelf.RegionOpenPlain
import Derived.Lib.ItoaLen
import Derived.Laws.MathBits
import Derived.Shelf.Small.Wraps
import Derived.Shelf.Small.Strs
import Derived.Shelf.Strings.Cut
import Derived.Shelf.Strings.Split
import Derived.Shelf.Strconv.Atoi
import Derived.Test.YtnapkooefpkicaaGreatDoorXS2

namespace Go.Proofs.YtnapkooefpkicaaGreatDoor
open Go.RowKit
set_option linter.unusedVariables false

/-- f, called with what reads as ds, returns a new row whose elements read as els, and that nobody else has. -/
def OCall (P : Program) (f : FuncId) (ds : List D) (ee size : Nat) (els : List (List D)) : Prop := Enters P f ∧
  ∀ (F : Nat → Prop) (w : World) (vs : List Value), (∀ b, F b → b < w.heap.size) → RepL F w vs ds →
    Calls P f vs.toArray w fun r w' => ∃ v F', r = .returned v ∧ Ext F w F' w' ∧ ObOk w.heap.size F' (fun _ => v) w' 0 (.row ee size els)

theorem OCall.toA {P : Program} {f : FuncId} {ds : List D} {ee size : Nat} {els : List (List D)} (h : OCall P f ds ee size els) : ACall P f ds (.sl els) :=
  ⟨h.1, fun F w vs hF hv => (h.2 F w vs hF hv).mono fun r w' ⟨v, F', h1, h2, h3⟩ => by
    have ho : ObsOk w.heap.size F' (fun _ => v) w' [(0, .row ee size els)] := by
      refine ⟨fun p hp => ?_, fun p hp q hq hne => ?_, fun p hp q hq _ => ?_⟩
      · have : p = (0, .row ee size els) := by simpa using hp
        subst this
        exact h3
      · have h4 : p = (0, .row ee size els) := by simpa using hp
        have h5 : q = (0, .row ee size els) := by simpa using hq
        rw [h4, h5] at hne
        exact absurd rfl hne
      · have h4 : p = (0, .row ee size els) := by simpa using hp
        have h5 : q = (0, .row ee size els) := by simpa using hq
        rw [h4, h5]
    have hr := ob_rep ho (List.mem_singleton.2 rfl)
    refine ⟨v, _, h1, hr, fun b hb => .inl (h2.up b hb), ?_, ?_, h2.below⟩
    · rintro b (hb | ⟨p, hp, hb⟩)
      · exact h2.new b hb
      · have h4 : p = (0, .row ee size els) := by simpa using hp
        subst h4
        exact .inr (h3.blk_lt hb).1
    · rintro b (hb | ⟨p, hp, hb⟩)
      · exact h2.lt b hb
      · have h4 : p = (0, .row ee size els) := by simpa using hp
        subst h4
        exact (h3.blk_lt hb).2⟩

theorem OCall.eq {P : Program} {f : FuncId} {ds : List D} {ee size : Nat} {els els' : List (List D)} (h : OCall P f ds ee size els) (he : els = els') : OCall P f ds ee size els' := he ▸ h
theorem obOk_base {B B' : Nat} {F : Nat → Prop} {ρ ρ' : Nat → Value} {w : World} {id id' ee size : Nat} {els : List (List D)} (h : ObOk B F ρ w id (.row ee size els)) (hB : B' ≤ B) (he : ρ id = ρ' id') : ObOk B' F ρ' w id' (.row ee size els) := by
  obtain ⟨xs, h1, h2, h3, h4⟩ := h
  rw [he] at h1 h4
  refine ⟨xs, ⟨h1.1, ?_⟩, h2, h3, h4⟩
  rcases h1.2 with h5 | ⟨g, cap, cur, h5, h6, h7⟩
  · exact .inl h5
  · exact .inr ⟨g, cap, cur, h5, Nat.le_trans hB h6, h7⟩

/-- A new own object, where more is data now. -/
theorem R0.newObF {cx : Cx} {F F' : Nat → Prop} {ρ : Nat → Value} {e : Env} {σ : Obs} {a : Act} {w w' : World} (hr : R0 cx F ρ e σ a w) {id dst : Nat} {ob : Ob} {v : Value} (hid : ∀ p ∈ σ, p.1 ≠ id) (hd : dst < cx.N) (hE : Ext F w F' w')
    (hob : ObOk cx.B F' (fun j => if j = id then v else ρ j) w' id ob) (hnew : ∀ g, blk v = some g → w.heap.size ≤ g) (hfx : cx.free id = true) :
    ∃ ρ', R0 cx F' ρ' ((e.kill id).put (some dst) (.own id)) ((id, ob) :: Obs.kill id σ) (a.put (some dst) v) w' := by
  refine ⟨fun j => if j = id then v else ρ j, ?_⟩
  have h2 := hr.turn (ρ' := fun j => if j = id then v else ρ j) (id := id) (ob := ob) (row := none) (w' := w') (F' := F') (fun j hj => by simp [hj])
    ⟨hE.below.os, hE.below.tape, hE.below.output, hE.below.size, fun k hk _ => hE.below.block k hk⟩ hfx (fun g hg => by simp at hg) hE.up hE.new hE.lt hob
    (fun g hg => by rw [if_pos rfl] at hg; exact .inr (hnew g hg)) ((id, ob) :: Obs.kill id σ) (fun p hp => by
      cases hp with
      | head => exact .inl rfl
      | tail _ hp => obtain ⟨q, hq, rfl⟩ := Obs.mem_kill hp; exact .inr ⟨q, hq, hid q hq, rfl⟩)
  exact h2.put (o := ⟨some dst, .ready 0, 0, "", #[], none⟩) (v := v) (s := .own id) (Ext.refl h2.lt) (by
      have := RepS.own (F := F') (ρ := fun j => if j = id then v else ρ j) (w := w') id
      simpa using this) (by simpa [DstOk, Nat.blt_eq] using hd)

section
variable {cx : Cx} {ops : Array Oper} {o : Oper} {rest : List Oper} {e : Env} {σ : Obs} {Q : Post}
theorem AOps.callO {f : FuncId} {xs : List Operand} {ts : Array TypeId} {ds : List D} {ee size dst : Nat} {els : List (List D)} (id : Nat) (hg : o.guard = none) (ht : o.dst = some dst) (hdn : Nat.blt dst cx.N = true)
    (ho : o.op = .call { callee := .value (.func f), args := xs.toArray, argTypes := ts }) (ha : ArgsOk e xs ds) (h : OCall cx.P f ds ee size els) (hid : Obs.fresh id σ = true)
    (k : AOps cx ops rest ((e.kill id).put (some dst) (.own id)) ((id, .row ee size els) :: Obs.kill id σ) Q) (hfx : cx.free id = true := by rfl) : AOps cx ops (o :: rest) e σ Q := by
  intro a w ⟨F, ρ, hr⟩
  have hdn' : dst < cx.N := by simpa [Nat.blt_eq] using hdn
  have h4 := h.2 F w (xs.map a.eval) hr.lt (repL_ops ha (fun x _ => ev_rep fun t _ => hr.env t))
  have h5 := h.1 (xs.map a.eval).toArray w
  have hx : (execOp a.eval o).run cx.P w = .ok (.enter f (xs.map a.eval).toArray) w := by
    unfold execOp
    simp only [ho, resolve, Deferred.ofValue, Act.eval, invoke, Sem.run_bind, Sem.run_pure, Result.andThen_ok]
    simpa using h5
  refine wpList_plain hg fun K hK => ?_
  unfold Oper.wp
  rw [hx]
  refine h4.mono fun _ w' ⟨v, F', he, hE, hob⟩ => ?_
  subst he
  obtain ⟨ρ', h6⟩ := hr.newObF (ob := .row ee size els) (v := v) (Obs.fresh_spec hid) hdn' hE (obOk_base hob hr.hB (by simp)) (fun g hg => (hob.blk_lt hg).1) hfx
  have := k _ _ ⟨F', ρ', h6⟩
  rw [← ht] at this
  exact hK _ _ this
/-- []T{}: an own row of no elements. -/
theorem AOps.build0 {t el size bytes dst : Nat} {z : Value} (id : Nat) (hg : o.guard = none) (ht : o.dst = some dst) (hdn : Nat.blt dst cx.N = true) (ho : o.op = .buildSlice t 0 #[]) (T : ElemTy cx.P t el size bytes z) (hid : Obs.fresh id σ = true)
    (k : AOps cx ops rest ((e.kill id).put (some dst) (.own id)) ((id, .row el size []) :: Obs.kill id σ) Q) (hfx : cx.free id = true := by rfl) : AOps cx ops (o :: rest) e σ Q := by
  intro a w ⟨F, ρ, hr⟩
  have hdn' : dst < cx.N := by simpa [Nat.blt_eq] using hdn
  have hrun : (execOp a.eval o).run cx.P w = .ok (.value (.slice (some ⟨w.heap.size, 0, none⟩) 0 0)) (w.alloc (.cells #[] el)) := by
    unfold execOp
    simp only [ho, Instr.buildSlice, Sem.run_bind, run_underlying T.ht, Result.andThen_ok, T.sizeOf, Nat.zero_mul]
    rw [if_neg (show ¬ (0 > 2 ^ 24) by decide), if_pos trivial]
    simp only [Sem.run_bind, Sem.run_pure, Result.andThen_ok]
    have hfl : Instr.fill (fun i => some (i * size, size)) (Array.map (fun x => (#[] : Array Value)[x % (#[] : Array Value).size]!) (Array.range 0)) (Array.map (fun (x : Nat × Operand) => (x.fst, a.eval x.snd)) #[]).toList = some #[] := by simp [Instr.fill]
    rw [hfl]
    rfl
  have hrow : (w.alloc (.cells #[] el)).ownsRow cx.B el size (.slice (some ⟨w.heap.size, 0, none⟩) 0 0) 0 [] :=
    ⟨by simp, .inr ⟨w.heap.size, 0, #[], rfl, hr.hB, heap_alloc_new w _, Nat.zero_le _, by unfold maxLen; omega, by simp, by simp⟩⟩
  obtain ⟨ρ', h5⟩ := hr.newRow (v := .slice (some ⟨w.heap.size, 0, none⟩) 0 0) (els := []) (Obs.fresh_spec hid) hdn' ((Below.refl _ _).alloc (Nat.le_refl _) (.cells #[] el))
    ⟨fun _ _ => undef, by dsimp only; rw [if_pos rfl]; exact hrow, fun i hi => by simp at hi, fun i hi => by simp at hi, fun g hg hf => by dsimp only at hg; rw [if_pos rfl] at hg; simp [blk] at hg; have := hr.lt g hf; omega⟩
    (fun g hg => by simp [blk] at hg; omega) hfx
  refine wpList_plain hg fun K hK => ?_
  unfold Oper.wp
  rw [hrun]
  have := k _ _ ⟨F, ρ', h5⟩
  rw [← ht] at this
  exact hK _ _ this

/-- Rows are data from here on; every slot and every cell as before. -/
theorem R0.freeze0 {F : Nat → Prop} {ρ : Nat → Value} {a : Act} {w : World} (h : R0 cx F ρ e σ a w) {id ee size : Nat} {els : List (List D)} (hm : (id, Ob.row ee size els) ∈ σ) :
    ∃ F', R0 cx F' ρ e (Obs.del id σ) a w ∧ Rep F' w (ρ id) (.sl els) := by
  have hF2 : ∀ b, (F b ∨ blk (ρ id) = some b) → b < w.heap.size := fun b hb => by
    rcases hb with hb | hb
    · exact h.lt b hb
    · exact ((h.obs.ok _ hm).blk_lt hb).2
  refine ⟨fun b => F b ∨ blk (ρ id) = some b, ⟨h.size, h.defers, hF2, fun b hb => .inl (h.base b hb), fun b hb => ?_, h.below, h.hB, fun u => ?_, ?_, h.up, fun p hp => h.kown p (Obs.mem_del hp).1, h.fixed⟩, h.rep_row hm (fun b hb => .inl hb) (fun g hg => .inr hg)⟩
  · rcases hb with hb | hb
    · exact h.new b hb
    · exact .inr (h.kown _ hm b hb)
  · exact RepS.turn (row := none) (h.env u) h.lt (fun g hg => by simp at hg) ⟨rfl, rfl, rfl, Nat.le_refl _, fun _ _ _ => rfl⟩ (fun b hb => .inl hb)
  · refine ⟨fun p hp => ?_, fun p hp q hq => h.obs.apart p (Obs.mem_del hp).1 q (Obs.mem_del hq).1, fun p hp q hq => h.obs.uniq p (Obs.mem_del hp).1 q (Obs.mem_del hq).1⟩
    obtain ⟨h1, h2⟩ := Obs.mem_del hp
    have h3 := h.obs.ok p h1
    have hne : ∀ g, blk (ρ p.1) = some g → blk (ρ id) ≠ some g := fun g hg => h.obs.apart p h1 _ hm h2 g hg
    exact h3.more h.lt (fun b hb => .inl hb) (fun g hg hf => by
      rcases hf with hf | hf
      · exact h3.nF hg hf
      · exact hne g hg hf)
theorem R0.freezeIn {F : Nat → Prop} {ρ : Nat → Value} {a : Act} {w : World} (h : R0 cx F ρ e σ a w) {c off id ee size : Nat} {ss : List S} {els : List (List D)} (hc : (c, Ob.cells ss) ∈ Obs.del id σ) (hs : ss[off]? = some (.own id)) (hm : (id, Ob.row ee size els) ∈ σ) :
    ∃ F', R0 cx F' ρ e (Obs.upd c (.cells (ss.set off (.d (.sl els)))) (Obs.del id σ)) a w := by
  obtain ⟨F', h1, h2⟩ := h.freeze0 hm
  exact ⟨F', h1.recell hc hs fun x hx => by cases hx; exact .d h2⟩
theorem AWP.freezeIn {cd : Code} (c off : Nat) {id ee size : Nat} {ss : List S} {els : List (List D)} (hs : ss[off]? = some (.own id)) (hc : (c, Ob.cells ss) ∈ Obs.del id σ) (hm : (id, Ob.row ee size els) ∈ σ)
    (k : AWP cx cd e (Obs.upd c (.cells (ss.set off (.d (.sl els)))) (Obs.del id σ)) Q) : AWP cx cd e σ Q := fun a w ⟨_, ρ, hr⟩ => by
  obtain ⟨F', h⟩ := hr.freezeIn hc hs hm
  exact k a w ⟨F', ρ, h⟩
/-- A slice of no elements: nil, or not. -/
theorem AWP.nilOr {cd : Code} (t : Nat) (ht : e t = .d (.sl [])) (h1 : AWP cx cd (e.put (some t) (.d (.v (.slice none 0 0)))) σ Q) (h2 : ∀ ad cap, cap ≤ 9223372036854775807 → AWP cx cd (e.put (some t) (.d (.v (.slice (some ad) 0 cap)))) σ Q) : AWP cx cd e σ Q := fun a w ⟨F, ρ, hr⟩ => by
  have h3 := hr.env t
  rw [ht] at h3
  have h4 := repS_d h3
  have key : ∀ {v : Value}, a.tmps.getD t undef = v → R cx (e.put (some t) (.d (.v v))) σ a w := fun {v} hv => ⟨F, ρ, hr.size, hr.defers, hr.lt, hr.base, hr.new, hr.below, hr.hB, fun u => by
    by_cases hu : u = t
    · subst hu
      rw [Env.put_same, hv]
      exact .d (.v _)
    · rw [Env.put_other _ _ _ _ hu]
      exact hr.env u, hr.obs, hr.up, hr.kown, hr.fixed⟩
  rcases rep_sl_sl h4 with ⟨h5, _⟩ | ⟨ad, cap, size, vs, h5, hc, hm, _⟩
  · exact h1 a w (key h5)
  · exact h2 ad cap hm a w (key (by rw [h5]; rfl))
end

theorem Le.empty {ad : Addr} {cap : Nat} (h : cap ≤ 9223372036854775807) : Le (.v (.slice (some ad) 0 cap)) (.sl []) := fun F w x hx => by
  rw [rep_v hx]
  exact .sl ad cap 0 [] (fun _ _ => undef) (Nat.zero_le _) h (fun h => absurd h (by simp)) (fun i hi => by simp at hi) (fun i j hi => by simp at hi) (fun i j hi => by simp at hi) (fun i hi => by simp at hi)
theorem AOps.le {cx : Cx} {ops : Array Oper} {rest : List Oper} {e : Env} {σ : Obs} {Q : Post} (t : Nat) {s' : S} {s : S} (ht : e t = s) (h : SLe s s') (k : AOps cx ops rest (e.put (some t) s') σ Q) : AOps cx ops rest e σ Q := fun a w ⟨F, ρ, hr⟩ =>
  k a w ⟨F, ρ, hr.size, hr.defers, hr.lt, hr.base, hr.new, hr.below, hr.hB, fun u => by
    by_cases hu : u = t
    · subst hu
      rw [Env.put_same]
      have := hr.env u
      rw [ht] at this
      exact h F ρ w _ this
    · rw [Env.put_other _ _ _ _ hu]
      exact hr.env u, hr.obs, hr.up, hr.kown, hr.fixed⟩

section
variable {P : Program} {B : Nat} {ops : Array Oper} {o : Oper} {e : Env} {σ : Obs}
theorem eqGuard_sl (op : BinOp) (t : TypeId) (x y : Operand) (a b : Option Addr) (n m c d : Nat) (w : World) : (eqGuard op t x y (.slice a n c) (.slice b m d)).run P w = .ok () w := by
  unfold eqGuard; cases op <;> rfl
theorem run_slice_eq_nil {t el : TypeId} (w : World) (a : Option Addr) (n c : Nat) (ht : P.underlying t = some (.slice el)) : (binOp .eql t (.slice a n c) (.slice none 0 0)).run P w = .ok (.bool a.isNone) w := by
  unfold binOp
  simp only [Sem.run_bind, run_equal_slice_nil w t el a n c ht, Result.andThen_ok]
  rfl
/-- x == nil. -/
theorem AOp.eqNilV {t ty el : TypeId} {x y : Operand} {a : Option Addr} {n c : Nat} (ho : o.op = .binOp .eql t x y ty) (ht : P.underlying t = some (.slice el)) (hx : e.ev x = .d (.v (.slice a n c))) (hy : e.ev y = .d (.v (.slice none 0 0))) :
    AOp P B ops o e σ (.d (.v (.bool a.isNone))) := .bin ho hx hy fun w => by
  rw [Sem.run_bind, eqGuard_sl]
  exact run_slice_eq_nil w a n c ht
theorem AOp.eqNilS {t ty el : TypeId} {x y : Operand} {els : List (List D)} (ho : o.op = .binOp .eql t x y ty) (ht : P.underlying t = some (.slice el)) (hx : e.ev x = .d (.sl els)) (hy : e.ev y = .d (.v (.slice none 0 0))) (hne : els ≠ []) :
    AOp P B ops o e σ (.d (.v (.bool false))) := .value fun F ρ w a hF hr _ => by
  have h1 := hr x (by rw [ho]; simp [Op.operands])
  have h2 := hr y (by rw [ho]; simp [Op.operands])
  rw [hx] at h1
  rw [hy] at h2
  refine ⟨.bool false, F, w, ?_, .d (.v _), Ext.refl hF⟩
  rcases rep_sl_sl (repS_d h1) with ⟨_, h5⟩ | ⟨ad, cap, size, vs, h5, _⟩
  · exact absurd h5 hne
  · unfold execOp
    simp only [ho, h5, repS_v h2]
    have h3 : (do eqGuard .eql t x y (.slice (some ad) els.length cap) (.slice none 0 0); binOp .eql t (.slice (some ad) els.length cap) (.slice none 0 0) : Sem Value).run P w = .ok (.bool false) w := by
      rw [Sem.run_bind, eqGuard_sl]
      exact run_slice_eq_nil w _ _ _ ht
    rw [Sem.run_bind, h3]
    rfl
end

/-! ## Contracts -/
def RetO (t ee size : Nat) (els : List (List D)) : Post := fun ex e σ => match ex with
  | .ret => ∃ id, e t = .own id ∧ (id, Ob.row ee size els) ∈ σ
  | .normal => ∃ id, e t = .own id ∧ (id, Ob.row ee size els) ∈ σ
  | _ => False
theorem ocall_of {P : Program} {f : FuncId} {fn : Func} {c : Code} {n ee size : Nat} {ds : List D} {els : List (List D)} (hf : P.funcs[f]? = some fn) (hb : fn.body = some c) (hn : (fn.name == "runtime.NumGoroutine") = false) (hN : fn.ntmps = n)
    (t : Nat) (hr : fn.results = #[.tmp t]) (hle' : Nat.ble ds.length n = true) (h : ∀ B w0 F0 fr, AWP ⟨P, n, B, w0, F0, fr, fun _ => false, fun _ => undef⟩ c (Env.args 0 ds) [] (RetO t ee size els)) : OCall P f ds ee size els := by
  have hle : ds.length ≤ n := Nat.le_of_ble_eq_true hle'
  refine ⟨Enters.of hf hn (by rw [hb]; rfl), fun F w vs hF hv => ?_⟩
  refine calls_of_wp hf hb ?_
  have hR : R ⟨P, n, w.heap.size, w, F, (fun b => w.heap.size ≤ b), fun _ => false, fun _ => undef⟩ (Env.args 0 ds) [] { tmps := vs.toArray ++ Array.replicate (fn.ntmps - vs.toArray.size) undef, defers := [] } w := by
    refine ⟨F, fun _ => undef, ?_, rfl, hF, fun b hb => hb, fun b hb => .inl hb, Kept.refl _ _, Nat.le_refl _, fun t => ?_, ⟨fun p hp => by simp at hp, fun p hp => by simp at hp, fun p hp => by simp at hp⟩, fun b hb => hb, fun p hp => by simp at hp, fun i hi => by simp at hi⟩
    · simp [hN, hv.1]; omega
    · by_cases ht : t < ds.length
      · have := Env.args_get ds 0 t ht
        rw [Nat.zero_add] at this
        rw [this]
        have hvt : t < vs.length := by rw [hv.1]; exact ht
        have : (vs.toArray ++ Array.replicate (fn.ntmps - vs.toArray.size) undef).getD t undef = vs[t] := by
          rw [Array.getD_eq_getD_getElem?, Array.getElem?_append_left (by simpa using hvt)]
          simp [hvt]
        rw [this]
        exact .d (hv.2 t hvt ht)
      · have := Env.args_out ds 0 t (by omega)
        rw [Nat.zero_add] at this
        rw [this]
        exact .d (.any _)
  refine wp_mono (h _ _ _ _ _ _ hR) ?_
  rintro ex a w' ⟨e', σ', hq, F', ρ', hr'⟩
  have hres : (results fn a.tmps).run P w' = .ok (a.tmps.getD t undef) w' := by
    have key : ∀ (ts : List Nat), (List.mapM (fun r => match r with | .tmp t => pure (a.tmps.getD t undef) | .cell b t => do loadVar t (← asAddr (a.tmps.getD b undef))) (ts.map ResultVar.tmp) : Sem (List Value)).run P w' = .ok (ts.map fun t => a.tmps.getD t undef) w' := by
      intro ts
      induction ts with
      | nil => rfl
      | cons t ts ih =>
        rw [List.map_cons, List.mapM_cons, Sem.run_bind]
        simp only [Sem.run_pure, Result.andThen_ok, Sem.run_bind, ih, List.map_cons]
    unfold results
    rw [hr, Sem.run_bind]
    have h2 : (Array.mapM (fun r => match r with | ResultVar.tmp t => pure (a.tmps.getD t undef) | ResultVar.cell b t => do loadVar t (← asAddr (a.tmps.getD b undef))) (([t] : List Nat).map ResultVar.tmp).toArray : Sem (Array Value)).run P w' = .ok (([t] : List Nat).map fun t => a.tmps.getD t undef).toArray w' := by
      rw [List.mapM_toArray, Sem.run_map, key]
      rfl
    refine (congrArg (fun r => Result.andThen r _) h2).trans ?_
    simp only [Result.andThen_ok]
    rfl
  have hends : (∃ id, e' t = .own id ∧ (id, Ob.row ee size els) ∈ σ') → bodyPost P fn (fun r w' => ∃ v F', r = .returned v ∧ Ext F w F' w' ∧ ObOk w.heap.size F' (fun _ => v) w' 0 (.row ee size els)) .ret a w' := by
    rintro ⟨id, h1, h2⟩
    have h3 := hr'.env t
    rw [h1] at h3
    have h4 : a.tmps.getD t undef = ρ' id := by generalize a.tmps.getD t undef = v at h3; cases h3; rfl
    refine ⟨hr'.defers, _, hres, _, F', rfl, ⟨hr'.base, fun b hb => (hr'.new b hb).imp (fun x => x) fun x => x, hr'.lt, ⟨hr'.below.os, hr'.below.tape, hr'.below.output, hr'.below.size, fun k hk => hr'.below.block k hk (fun hf => by have h5 : w.heap.size ≤ k := hf; omega)⟩⟩, obOk_base (hr'.obs.ok _ h2) (Nat.le_refl _) h4.symm⟩
  cases ex with
  | ret => exact hends hq
  | normal => exact hends hq
  | exit id => exact hq.elim
  | goto l => exact hq.elim
  | panic c => exact hq.elim
  | outgrown => exact hq.elim
theorem XRun.callO {cx : Cx} {ops : Array Oper} {σ : Obs} {Φ : List Fr} {e : Env} {Qe : Env → Prop} {o : Oper} {l : List Oper} {fn : FuncId} {xs : List Operand} {ts : Array TypeId} {ds : List D} {ee size : Nat} {els : List (List D)} (f : Fr) (hf : f ∈ Φ) (hg : GW ops o e true) (hgn : o.guard = none) (ht : o.dst = some f.dst) (hd : Nat.blt f.dst cx.N = true)
    (ho : o.op = .call { callee := .value (.func fn), args := xs.toArray, argTypes := ts }) (ha : ArgsOk e xs ds) (h : OCall cx.P fn ds ee size els) (hob : f.ob = .row ee size els) (hs : f.s0 = .own f.id) (k : XRun cx ops σ Φ l (e.put (some f.dst) f.s0) Qe) (hfx : cx.free f.id = true := by rfl) : XRun cx ops σ Φ (o :: l) e Qe :=
  ⟨by unfold DstOk; rw [ht]; exact hd, _, .inl ⟨hg, .inl ⟨f, hf, ⟨ht, fun e0 σ _ he hfr => by
    have hev : ∀ x ∈ xs, e0.ev x = e.ev x := fun x hx => ev_same fun t hxt => he t (looks_op (by rw [ho, ← hxt]; simp [Op.operands, Call.operands, hx]))
    have ha0 : ArgsOk e0 xs ds := by
      have key : ∀ (xs : List Operand) (ds : List D), (∀ x ∈ xs, e0.ev x = e.ev x) → ArgsOk e xs ds → ArgsOk e0 xs ds := by
        intro xs
        induction xs with
        | nil => intro ds _ h; cases ds <;> exact h
        | cons x xs ih =>
          intro ds hx h
          cases ds with
          | nil => exact h
          | cons d ds =>
            obtain ⟨⟨d0, h1, h2⟩, h3⟩ := h
            exact ⟨⟨d0, (hx x (by simp)).trans h1, h2⟩, ih ds (fun y hy => hx y (by simp [hy])) h3⟩
      exact key xs ds hev ha
    exact AOps.callO f.id hgn ht hd ho ha0 h hfr (.nil ⟨by rw [hs], by rw [hob]⟩) hfx⟩, rfl⟩⟩, by rw [ht]; exact k⟩
theorem acall_ofRT {T : World → Prop} {P : Program} {f : FuncId} {fn : Func} {c : Code} {n : Nat} {ds ds' : List D} (hf : P.funcs[f]? = some fn) (hb : fn.body = some c) (hn : (fn.name == "runtime.NumGoroutine") = false) (hN : fn.ntmps = n)
    (rs : List ResultVar) (hr : fn.results = rs.toArray) (hle' : Nat.ble ds.length n = true) (h : ∀ B w0 F0, T w0 → AWP ⟨P, n, B, w0, F0, (fun b => w0.heap.size ≤ b), fun _ => false, fun _ => undef⟩ c (Env.args 0 ds) [] (RetQR P rs ds')) : ACallT P T f ds (retOf ds') := by
  have hle : ds.length ≤ n := Nat.le_of_ble_eq_true hle'
  refine ⟨Enters.of hf hn (by rw [hb]; rfl), fun F w vs hT hF hv => ?_⟩
  refine calls_of_wp hf hb ?_
  have hR : R ⟨P, n, w.heap.size, w, F, (fun b => w.heap.size ≤ b), fun _ => false, fun _ => undef⟩ (Env.args 0 ds) [] { tmps := vs.toArray ++ Array.replicate (fn.ntmps - vs.toArray.size) undef, defers := [] } w := by
    refine ⟨F, fun _ => undef, ?_, rfl, hF, fun b hb => hb, fun b hb => .inl hb, Kept.refl _ _, Nat.le_refl _, fun t => ?_, ⟨fun p hp => by simp at hp, fun p hp => by simp at hp, fun p hp => by simp at hp⟩, fun b hb => hb, fun p hp => by simp at hp, fun i hi => by simp at hi⟩
    · simp [hN, hv.1]; omega
    · by_cases ht : t < ds.length
      · have := Env.args_get ds 0 t ht
        rw [Nat.zero_add] at this
        rw [this]
        have hvt : t < vs.length := by rw [hv.1]; exact ht
        have : (vs.toArray ++ Array.replicate (fn.ntmps - vs.toArray.size) undef).getD t undef = vs[t] := by
          rw [Array.getD_eq_getD_getElem?, Array.getElem?_append_left (by simpa using hvt)]
          simp [hvt]
        rw [this]
        exact .d (hv.2 t hvt ht)
      · have := Env.args_out ds 0 t (by omega)
        rw [Nat.zero_add] at this
        rw [this]
        exact .d (.any _)
  refine wp_mono (h _ _ _ hT _ _ hR) ?_
  rintro ex a w' ⟨e', σ', hq, F', ρ', hr'⟩
  have hends : RetRs P e' σ' rs ds' → bodyPost P fn (fun e w' => ∃ v F', e = .returned v ∧ Rep F' w' v (retOf ds') ∧ Ext F w F' w') .ret a w' := by
    intro hq
    obtain ⟨vs', hrun, hl⟩ := RetRs.rep hr' hq
    have hres : (results fn a.tmps).run P w' = .ok (match vs' with | [x] => x | l => .tuple l.toArray) w' := by
      unfold results
      rw [hr, Sem.run_bind]
      have h2 : (Array.mapM (fun r => match r with | ResultVar.tmp t => pure (a.tmps.getD t undef) | ResultVar.cell b t => do loadVar t (← asAddr (a.tmps.getD b undef))) rs.toArray : Sem (Array Value)).run P w' = .ok vs'.toArray w' := by
        rw [List.mapM_toArray, Sem.run_map]
        have h4 : (List.mapM (fun r => match r with | ResultVar.tmp t => pure (a.tmps.getD t undef) | ResultVar.cell b t => do loadVar t (← asAddr (a.tmps.getD b undef))) rs : Sem (List Value)).run P w' = .ok vs' w' := hrun
        rw [h4]
        rfl
      refine (congrArg (fun r => Result.andThen r _) h2).trans ?_
      simp only [Result.andThen_ok]
      rcases vs' with _ | ⟨t, _ | ⟨t2, ts⟩⟩ <;> rfl
    refine ⟨hr'.defers, _, hres, _, endF F' ρ' σ', rfl, ?_, endF_ext hr' (fun b hb => hb)⟩
    obtain ⟨h1, h2⟩ := hl
    rcases ds' with _ | ⟨d, _ | ⟨d2, ds'⟩⟩
    · have : vs' = [] := List.eq_nil_of_length_eq_zero h1
      subst this
      exact .tup [] [] rfl (fun i h1 => absurd h1 (by simp))
    · rcases vs' with _ | ⟨x, _ | ⟨y, vs'⟩⟩ <;> simp at h1
      exact h2 0 (by simp) (by simp)
    · rcases vs' with _ | ⟨x, _ | ⟨y, vs'⟩⟩
      · simp at h1
      · simp at h1
      · exact .tup _ _ h1 h2
  cases ex with
  | ret => exact hends hq
  | normal => exact hends hq
  | exit id => exact hq.elim
  | goto l => exact hq.elim
  | panic c => exact hq.elim
  | outgrown => exact hq.elim

end Go.Proofs.YtnapkooefpkicaaGreatDoor


namespace Go.Proofs.YtnapkooefpkicaaGreatDoor
open Go.RowKit
set_option linter.unusedVariables false

/-- One operation, from worlds that keep what was there at the beginning. -/
def AOpK (cx : Cx) (ops : Array Oper) (o : Oper) (e : Env) (σ : Obs) (s : S) : Prop :=
  ∀ (F : Nat → Prop) (ρ : Nat → Value) (w : World) (a : Act), Kept cx.fr cx.w0 w → (∀ b, F b → b < w.heap.size) → (∀ t, t ∈ o.looksAt ops → RepS F ρ w (a.tmps.getD t undef) (e t)) → ObsOk cx.B F ρ w σ →
    o.wp cx.P a w (fun a' w' => ∃ v F', a' = a.put o.dst v ∧ RepS F' ρ w' v s ∧ Ext F w F' w') (fun _ _ _ => False)
theorem AOp.toK {cx : Cx} {ops : Array Oper} {o : Oper} {e : Env} {σ : Obs} {s : S} (h : AOp cx.P cx.B ops o e σ s) : AOpK cx ops o e σ s := fun F ρ w a _ => h F ρ w a
theorem AOpK.callT {cx : Cx} {ops : Array Oper} {o : Oper} {e : Env} {σ : Obs} {T : World → Prop} {f : FuncId} {xs : List Operand} {ts : Array TypeId} {ds : List D} {d : D} (hst : Stays T) (hfr : cx.fr = fun b => cx.w0.heap.size ≤ b) (hT : T cx.w0)
    (ho : o.op = .call { callee := .value (.func f), args := xs.toArray, argTypes := ts }) (ha : ArgsOk e xs ds) (h : ACallT cx.P T f ds d) : AOpK cx ops o e σ (.d d) := by
  intro F ρ w a hK hF hr _
  have h1 : RepL F w (xs.map a.eval) ds := ha.rep (ρ := ρ) fun t ht => hr t (looks_op (by rw [ho]; simp [Op.operands, Call.operands, ht]))
  rw [hfr] at hK
  have h2 := h.2 F w _ (hst _ _ hK hT) hF h1
  have h3 := h.1 (xs.map a.eval).toArray w
  have hx : (execOp a.eval o).run cx.P w = .ok (.enter f (xs.map a.eval).toArray) w := by
    unfold execOp
    simp only [ho, resolve, Deferred.ofValue, Act.eval, invoke, Sem.run_bind, Sem.run_pure, Result.andThen_ok]
    simpa using h3
  unfold Oper.wp
  rw [hx]
  exact h2.mono fun _ w' ⟨v, F', he, hv, hE⟩ => by subst he; exact ⟨v, F', rfl, .d hv, hE⟩

def KRun (cx : Cx) (ops : Array Oper) (σ : Obs) : List Oper → Env → (Env → Prop) → Prop
  | [], e, Qe => Qe e
  | o :: l, e, Qe => DstOk cx.N o ∧ ((∃ s, GW ops o e true ∧ AOpK cx ops o e σ s ∧ KRun cx ops σ l (e.put o.dst s) Qe) ∨ (GW ops o e false ∧ KRun cx ops σ l (e.put o.dst (.d (.v undef))) Qe))

theorem KRun.nil {cx : Cx} {ops : Array Oper} {σ : Obs} {e : Env} {Qe : Env → Prop} (h : Qe e) : KRun cx ops σ [] e Qe := h
theorem KRun.cons {cx : Cx} {ops : Array Oper} {σ : Obs} {e : Env} {Qe : Env → Prop} {o : Oper} {l : List Oper} {s : S} (hg : GW ops o e true) (hd : DstOk cx.N o) (h : AOpK cx ops o e σ s)
    (k : KRun cx ops σ l (e.put o.dst s) Qe) : KRun cx ops σ (o :: l) e Qe := ⟨hd, .inl ⟨s, hg, h, k⟩⟩
theorem KRun.skip {cx : Cx} {ops : Array Oper} {σ : Obs} {e : Env} {Qe : Env → Prop} {o : Oper} {l : List Oper} (hg : GW ops o e false) (hd : DstOk cx.N o)
    (k : KRun cx ops σ l (e.put o.dst (.d (.v undef))) Qe) : KRun cx ops σ (o :: l) e Qe := ⟨hd, .inr ⟨hg, k⟩⟩

theorem KRun.step {cx : Cx} {ops : Array Oper} {σ : Obs} {e : Env} {Qe : Env → Prop} {o : Oper} {l : List Oper} {s : S} {t : Nat} (hg : GW ops o e true) (ht : o.dst = some t) (hd : Nat.blt t cx.N = true) (h : AOpK cx ops o e σ s)
    (k : KRun cx ops σ l (e.put (some t) s) Qe) : KRun cx ops σ (o :: l) e Qe := .cons hg (by unfold DstOk; rw [ht]; exact hd) h (by rw [ht]; exact k)
theorem KRun.pass {cx : Cx} {ops : Array Oper} {σ : Obs} {e : Env} {Qe : Env → Prop} {o : Oper} {l : List Oper} {t : Nat} (hg : GW ops o e false) (ht : o.dst = some t) (hd : Nat.blt t cx.N = true)
    (k : KRun cx ops σ l (e.put (some t) (.d (.v undef))) Qe) : KRun cx ops σ (o :: l) e Qe := .skip hg (by unfold DstOk; rw [ht]; exact hd) (by rw [ht]; exact k)

def KStep (cx : Cx) (ops : Array Oper) (σ : Obs) (o : Oper) (e : Env) (s : S) : Prop :=
  (GW ops o e true ∧ AOpK cx ops o e σ s) ∨ (GW ops o e false ∧ s = .d (.v undef))

theorem KStep.same {cx : Cx} {ops : Array Oper} {σ : Obs} {o : Oper} {e e' : Env} {s : S} (h : KStep cx ops σ o e s) (he : ∀ t, t ∈ o.looksAt ops → e' t = e t) : KStep cx ops σ o e' s := by
  rcases h with ⟨h1, h2⟩ | ⟨h1, h2⟩
  · exact .inl ⟨h1.same he, fun F ρ w a hK hF ha hσ => h2 F ρ w a hK hF (fun t ht => by rw [← he t ht]; exact ha t ht) hσ⟩
  · exact .inr ⟨h1.same he, h2⟩

def anyK (cx : Cx) (ops : Array Oper) (σ : Obs) (Qe : Env → Prop) : Nat → Array Bool → Env → Prop
  | 0, listed, e => Region.ready .any ops listed = [] ∧ Qe e
  | fuel + 1, listed, e => (Region.ready .any ops listed = [] → Qe e) ∧
      ∀ i ∈ Region.ready .any ops listed, ∀ o, ops[i]? = some o → ∃ s, KStep cx ops σ o e s ∧ anyK cx ops σ Qe fuel (listed.setIfInBounds i true) (e.put o.dst s)

theorem anyK_first {cx : Cx} {ops : Array Oper} {σ : Obs} {Qe : Env → Prop} {i : Nat} {oi : Oper} {s : S} (hi : ops[i]? = some oi) :
    ∀ (fuel : Nat) (listed : Array Bool) (e : Env),
      (∀ j oj, ops[j]? = some oj → j ≠ i → listed.getD j true = false → (∀ e ∈ oj.after, Region.binds .any e = true → e.on ≠ i) → oi.apart ops oj = true) →
      i ∈ Region.ready .any ops listed → KStep cx ops σ oi e s → anyK cx ops σ Qe fuel (listed.setIfInBounds i true) (e.put oi.dst s) → anyK cx ops σ Qe (fuel + 1) listed e := by
  intro fuel
  induction fuel with
  | zero =>
    intro listed e _ hr hy H
    refine ⟨fun h => (by rw [h] at hr; cases hr), fun j hj o ho => ?_⟩
    by_cases hji : j = i
    · subst hji
      rw [hi] at ho; cases ho
      exact ⟨s, hy, H⟩
    · have := ready_mono hj hji
      rw [H.1] at this
      cases this
  | succ fuel ih =>
    intro listed e hfree hr hy H
    refine ⟨fun h => (by rw [h] at hr; cases hr), fun j hj oj hoj => ?_⟩
    by_cases hji : j = i
    · subst hji
      rw [hi] at hoj; cases hoj
      exact ⟨s, hy, H⟩
    · obtain ⟨sj, h1, h2⟩ := H.2 j (ready_mono hj hji) oj hoj
      obtain ⟨hjun, oj', hoj', hall⟩ := mem_ready.1 hj
      rw [hoj] at hoj'; cases hoj'
      have hnot : ∀ e ∈ oj.after, Region.binds .any e = true → e.on ≠ i := fun e he hb heq => by
        have h1 := hall e he hb
        have h0 := (mem_ready.1 hr).1
        rw [heq] at h1
        rcases Nat.lt_or_ge i listed.size with h' | h'
        · simp [h'] at h0 h1; rw [h0] at h1; cases h1
        · simp [Array.getElem?_eq_none h'] at h1
      obtain ⟨a1, a2, a3⟩ := Oper.apart_spec (hfree j oj hoj hji hjun hnot)
      refine ⟨sj, h1.same (fun t ht => (put_looks a1 t ht).symm), ?_⟩
      refine ih (listed.setIfInBounds j true) (e.put oj.dst sj) (fun k ok hk hki hun hno => ?_) (ready_mono hr (Ne.symm hji)) (hy.same (put_looks a3)) ?_
      · refine hfree k ok hk hki ?_ hno
        by_cases hjk : j = k
        · subst hjk; exact hjun
        · rw [getD_set_ne true hjk] at hun; exact hun
      · rw [Array.setIfInBounds_comm _ _ hji, ← Env.put_comm e oi.dst oj.dst s sj a2]
        exact h2

theorem anyK_lex {cx : Cx} {ops : Array Oper} {σ : Obs} {Qe : Env → Prop} : ∀ (l : List Oper) (k : Nat) (listed : Array Bool) (e : Env), (∀ j, l[j]? = ops[k + j]?) →
    Region.lexFrom .any ops l.length k listed = true → KRun cx ops σ l e Qe → anyK cx ops σ Qe l.length listed e
  | [], _, _, _, _, hB, h => ⟨by simpa [Region.lexFrom] using hB, h⟩
  | o :: l, k, listed, e, hl, hB, h => by
    have h0 : ops[k]? = some o := by simpa using (hl 0).symm
    simp only [List.length_cons, Region.lexFrom, Bool.and_eq_true] at hB
    obtain ⟨⟨hr, hf⟩, hB'⟩ := hB
    have hl' : ∀ j, l[j]? = ops[k + 1 + j]? := fun j => by have := hl (j + 1); simpa [Nat.add_assoc, Nat.add_comm 1 j] using this
    obtain ⟨_, ⟨s, hg, ho, hK⟩ | ⟨hg, hK⟩⟩ := h
    · exact anyK_first h0 l.length listed e (Region.free_spec h0 hf) (by simpa using hr) (.inl ⟨hg, ho⟩) (anyK_lex l (k + 1) _ _ hl' hB' hK)
    · exact anyK_first h0 l.length listed e (Region.free_spec h0 hf) (by simpa using hr) (.inr ⟨hg, rfl⟩) (anyK_lex l (k + 1) _ _ hl' hB' hK)

theorem KRun.dsts {cx : Cx} {ops : Array Oper} {σ : Obs} {Qe : Env → Prop} : ∀ (l : List Oper) (e : Env), KRun cx ops σ l e Qe → ∀ o ∈ l, DstOk cx.N o
  | [], _, _, o, ho => by cases ho
  | x :: l, e, h, o, ho => by
    obtain ⟨h1, ⟨_, _, _, h2⟩ | ⟨_, h2⟩⟩ := h <;> (cases ho with
      | head => exact h1
      | tail _ ho => exact KRun.dsts l _ h2 o ho)

theorem wpAny_of_K {cx : Cx} {ops : Array Oper} {σ : Obs} {Q : Post} (hd : ∀ o ∈ ops.toList, DstOk cx.N o) : ∀ (fuel : Nat) (listed : Array Bool) (e : Env) (a : Act) (w : World), R cx e σ a w →
    anyK cx ops σ (fun e => Q .normal e σ) fuel listed e → wpAny cx.P .any ops (lift cx Q) fuel listed a w
  | 0, _, e, _, _, hr, h => ⟨h.1, e, σ, h.2, hr⟩
  | fuel + 1, listed, e, a, w, hr, h => by
    refine ⟨fun h0 => ⟨e, σ, h.1 h0, hr⟩, fun i hi => ?_⟩
    obtain ⟨_, o, ho, _⟩ := mem_ready.1 hi
    obtain ⟨s, hs, hk⟩ := h.2 i hi o ho
    have hdo : DstOk cx.N o := hd o (Array.mem_toList_iff.2 (Array.mem_of_getElem? ho))
    unfold wpOp
    simp only [ho]
    obtain ⟨F, ρ, hr⟩ := hr
    rcases hs with ⟨hg, hop⟩ | ⟨hg, rfl⟩
    · rw [if_pos (hg.wanted (fun t _ => hr.env t))]
      refine .inl (wp_to ?_ (fun _ _ _ => False.elim) (hop F ρ w a hr.below hr.lt (fun t _ => hr.env t) hr.obs))
      rintro a' w' ⟨v, F', rfl, hv, he⟩
      exact wpAny_of_K hd fuel _ _ _ _ ⟨F', ρ, hr.put he hv hdo⟩ hk
    · rw [if_neg (by rw [hg.wanted (fun t _ => hr.env t)]; simp)]
      exact wpAny_of_K hd fuel _ _ _ _ ⟨F, ρ, hr.put (Ext.refl hr.lt) repS_undef hdo⟩ hk

/-- A region that draws its order, walked once, in the order of the text. -/
theorem AWP.drawK {cx : Cx} {id : Nat} {l : List Oper} {e : Env} {σ : Obs} {Q : Post} (hm : cx.P.follows .mixedOrders = true) (hB : Region.lexB .any l.toArray = true)
    (h : KRun cx l.toArray σ l e (fun e => Q .normal e σ)) : AWP cx (.region id l.toArray true) e σ Q := by
  intro a w ⟨F, ρ, hr⟩
  simp only [Region.lexB, Bool.and_eq_true] at hB
  have h1 := anyK_lex l 0 (Array.replicate l.toArray.size false) e (by simp) (by simpa using hB.2) h
  exact wp_region_any hm (wpAny_of_K (by simpa using KRun.dsts l e h) _ _ e a _ ⟨F, ρ, hr.drew⟩ (by simpa using h1))


theorem KRun.split {cx : Cx} {ops : Array Oper} {rest : List Oper} {e : Env} {σ : Obs} {Q : Env → Prop} (t : Nat) {b : Bool} (ht : e t = .d (.v (.bool b))) (h1 : b = true → KRun cx ops σ rest (e.put (some t) (.d (.v (.bool true)))) Q)
    (h0 : b = false → KRun cx ops σ rest (e.put (some t) (.d (.v (.bool false)))) Q) : KRun cx ops σ rest e Q := by
  cases b with
  | true => have := h1 rfl; rwa [Env.put_id ht] at this
  | false => have := h0 rfl; rwa [Env.put_id ht] at this

end Go.Proofs.YtnapkooefpkicaaGreatDoor


namespace Go.Proofs.YtnapkooefpkicaaGreatDoor
open Go.RowKit
set_option linter.unusedVariables false

/-- What it is as data, while the own objects rest. -/
inductive Snap (σ : Obs) : S → D → Prop where
  | d (x : D) : Snap σ (.d x) x
  | any (s : S) : Snap σ s .any
  | le {s : S} {d d' : D} (h : Snap σ s d) (k : Le d d') : Snap σ s d'
  | row {id e size : Nat} {els : List (List D)} (h : (id, Ob.row e size els) ∈ σ) : Snap σ (.own id) (.sl els)
  | rowS {id e size : Nat} {els : List (List S)} {ds : List (List D)} (h : (id, Ob.rowS e size els) ∈ σ) (hl : els.length = ds.length) (hs : ∀ i (h1 : i < els.length) (h2 : i < ds.length), els[i].length = ds[i].length)
      (hr : ∀ i (h1 : i < els.length) (h2 : i < ds.length) j (h3 : j < els[i].length) (h4 : j < ds[i].length), Snap σ els[i][j] ds[i][j]) : Snap σ (.own id) (.sl ds)
  | val {id : Nat} {ss : List S} {ds : List D} (h : (id, Ob.val ss) ∈ σ) (hl : ss.length = ds.length) (hr : ∀ i (h1 : i < ss.length) (h2 : i < ds.length), Snap σ ss[i] ds[i]) : Snap σ (.own id) (.agg ds)
  | ptr {id off : Nat} {ss : List S} {ds : List D} (h : (id, Ob.cells ss) ∈ σ) (hl : off + ds.length ≤ ss.length) (hr : ∀ i (h1 : off + i < ss.length) (h2 : i < ds.length), Snap σ ss[off + i] ds[i]) : Snap σ (.ptr id off) (.fp ds)
  | ptrS {id e size k : Nat} {els : List (List S)} {ds : List D} (h : (id, Ob.rowS e size els) ∈ σ) (hk : k < els.length) (hl : els[k].length = ds.length) (hr : ∀ j (h1 : j < els[k].length) (h2 : j < ds.length), Snap σ els[k][j] ds[j]) : Snap σ (.ptr id (k * size)) (.fp ds)
  | clo {f : FuncId} {caps : List Cap} {ds : List D} (hl : caps.length = ds.length) (hr : ∀ i (h1 : i < caps.length) (h2 : i < ds.length), Snap σ caps[i].toS ds[i]) : Snap σ (.clo f caps) (.clo (.func f) ds)

theorem obS_row {B : Nat} {F : Nat → Prop} {ρ : Nat → Value} {w : World} {σ : Obs} (h : ObsOk B F ρ w σ) {id ee size : Nat} {els : List (List S)} (hm : (id, Ob.rowS ee size els) ∈ σ) (hne : 0 < els.length) :
    ∃ g cap, ∃ vs : Nat → Nat → Value, ρ id = .slice (some ⟨g, 0, none⟩) els.length cap ∧ blk (ρ id) = some g ∧ els.length ≤ cap ∧ cap ≤ 9223372036854775807 ∧ (∀ k j, k < els.length → j < size → w.cell? ⟨g, k * size + j, none⟩ = some (vs k j)) ∧
      (∀ k (hk : k < els.length), els[k].length = size) ∧ (∀ k (hk : k < els.length) j (hj : j < els[k].length), (vs k j).oneCell' = true ∧ RepS F ρ w (vs k j) els[k][j]) := by
  obtain ⟨xs, h1, h2, h3, _⟩ := h.ok _ hm
  dsimp only at h1
  rcases h1.2 with ⟨_, h4⟩ | ⟨g, cap, cur, h4, h5, h6, h7, h8, _⟩
  · omega
  · exact ⟨g, cap, xs, h4, by rw [h4]; rfl, h7, by unfold maxLen at h8; omega, fun k j hk hj => row_cell h1 h4 h6 hk hj, h2, h3⟩

theorem Snap.rep {B : Nat} {F : Nat → Prop} {ρ : Nat → Value} {w : World} {σ : Obs} (hσ : ObsOk B F ρ w σ) {s : S} {d : D} (h : Snap σ s d) : ∀ x, RepS F ρ w x s → Rep (endF F ρ σ) w x d := by
  induction h with
  | d y => exact fun x hx => (repS_d hx).mono (fun b hb => .inl hb) fun _ _ => rfl
  | any s => exact fun x _ => .any x
  | le h k ih => exact fun x hx => k _ _ _ (ih x hx)
  | row hm =>
    intro x hx
    cases hx
    exact ob_rep hσ hm
  | @rowS id e size els ds hm hl hs hr ih =>
    intro x hx
    cases hx
    by_cases hne : 0 < els.length
    · obtain ⟨g, cap, vs, h1, h2, h3, h4, h5, h6, h7⟩ := obS_row hσ hm hne
      rw [h1, hl]
      refine .sl ⟨g, 0, none⟩ cap size ds vs (by omega) h4 (fun _ => .inr ⟨_, hm, h2⟩) (fun i hi => by rw [← hs i (by omega) hi]; exact h6 i (by omega)) (fun i j hi hj => ?_) (fun i j hi hj => ?_) (fun i hi j hj => ?_)
      · rw [addr_add, Nat.zero_add]; exact h5 i j (by omega) hj
      · exact (h7 i (by omega) j (by rw [h6 i (by omega)]; exact hj)).1
      · exact ih i (by omega) hi j (by rw [hs i (by omega) hi]; exact hj) hj _ (h7 i (by omega) j (by rw [hs i (by omega) hi]; exact hj)).2
    · obtain ⟨xs, h1, _⟩ := hσ.ok _ hm
      dsimp only at h1
      have h0 : els.length = 0 := by omega
      have hds : ds = [] := List.eq_nil_of_length_eq_zero (by omega)
      subst hds
      rcases h1.2 with ⟨h4, _⟩ | ⟨g, cap, cur, h4, h5, h6, h7, h8, _⟩
      · rw [h4]; exact .nil
      · rw [h4, h0]
        exact .sl ⟨g, 0, none⟩ cap size [] (fun _ _ => undef) (by simp) (by unfold maxLen at h8; omega) (fun h => absurd h (by simp)) (fun i hi => absurd hi (by simp)) (fun i j hi => absurd hi (by simp)) (fun i j hi => absurd hi (by simp)) (fun i hi => absurd hi (by simp))
  | @val id ss ds hm hl hr ih =>
    intro x hx
    cases hx
    obtain ⟨cs, h1, h2, h3⟩ := hσ.ok _ hm
    dsimp only at h1
    rw [h1]
    exact .agg cs ds (by omega) (fun i hi => (h3 i hi (by omega)).1) (fun i hi hi2 => ih i (by omega) hi2 _ (h3 i hi (by omega)).2)
  | @ptr id off ss ds hm hl hr ih =>
    intro x hx
    obtain ⟨g, ty, cs, h1, h2, h3, h4, h5, h6⟩ := hσ.ok _ hm
    dsimp only at h1
    have hv := ptr_at hx (g := g) (by rw [h1]; rfl)
    rw [hv]
    refine .fp ⟨g, off, none⟩ ds (fun j => cs.getD (off + j) undef) (.inr ⟨_, hm, by rw [h1]; rfl⟩) (fun j hj => ?_) (fun j hj => ?_) (fun j hj => ?_)
    · have hjc : off + j < cs.length := by omega
      rw [addr_add, cell_of_row w g (off + j) cs.toArray ty (0, 0) h4]
      simp [hjc]
    · have hjc : off + j < cs.length := by omega
      have := (h6 (off + j) hjc (by omega)).1
      simpa [hjc] using this
    · have hjc : off + j < cs.length := by omega
      have := ih j (by omega) hj _ (h6 (off + j) hjc (by omega)).2
      simpa [hjc] using this
  | @ptrS id e size k els ds hm hk hl hr ih =>
    intro x hx
    obtain ⟨g, cap, vs, h1, h2, h3, h4, h5, h6, h7⟩ := obS_row hσ hm (by omega)
    have hv := ptr_at hx (g := g) h2
    rw [hv]
    refine .fp ⟨g, k * size, none⟩ ds (fun j => vs k j) (.inr ⟨_, hm, h2⟩) (fun j hj => ?_) (fun j hj => ?_) (fun j hj => ?_)
    · rw [addr_add]
      exact h5 k j hk (by rw [← h6 k hk]; omega)
    · exact (h7 k hk j (by omega)).1
    · exact ih j (by omega) hj _ (h7 k hk j (by omega)).2
  | @clo f caps ds hl hr ih =>
    intro x hx
    cases hx with
    | clo _ cs _ hcs =>
      have h1 := hcs.toS
      have h2 : cs.length = caps.length := by simpa using h1.1
      refine .clo (.func f) cs ds (by omega) fun i hi hi2 => ih i (by omega) hi2 _ ?_
      have h3 := h1.2 i hi (by simp; omega)
      rw [List.getElem_map] at h3
      exact h3

/-- Data that holds no memory. -/
inductive Plain : D → Prop where
  | v (x : Value) : Plain (.v x)
  | any : Plain .any
  | agg (ds : List D) (h : ∀ d ∈ ds, Plain d) : Plain (.agg ds)
  | tup (ds : List D) (h : ∀ d ∈ ds, Plain d) : Plain (.tup ds)
theorem Plain.rep {d : D} (h : Plain d) {F F' : Nat → Prop} {w w' : World} : ∀ x, Rep F w x d → Rep F' w' x d := by
  induction h with
  | v y => intro x hx; cases hx; exact .v _
  | any => exact fun x _ => .any x
  | agg ds h ih =>
    intro x hx
    cases hx with
    | agg cs _ hl hone hr => exact .agg cs ds hl hone fun i h1 h2 => ih _ (List.getElem_mem h2) _ (hr i h1 h2)
  | tup ds h ih =>
    intro x hx
    cases hx with
    | tup cs _ hl hr => exact .tup cs ds hl fun i h1 h2 => ih _ (List.getElem_mem h2) _ (hr i h1 h2)

def SnapArgs (e : Env) (σ : Obs) : List Operand → List D → Prop
  | [], [] => True
  | x :: xs, d :: ds => Snap σ (e.ev x) d ∧ SnapArgs e σ xs ds
  | _, _ => False
theorem SnapArgs.nil {e : Env} {σ : Obs} : SnapArgs e σ [] [] := trivial
theorem SnapArgs.cons {e : Env} {σ : Obs} {x : Operand} {d : D} {xs : List Operand} {ds : List D} {s : S} (hx : e.ev x = s) (h : Snap σ s d) (k : SnapArgs e σ xs ds) : SnapArgs e σ (x :: xs) (d :: ds) := ⟨hx ▸ h, k⟩
theorem SnapArgs.rep {B : Nat} {e : Env} {σ : Obs} {F : Nat → Prop} {ρ : Nat → Value} {w : World} {a : Act} (h : ObsOk B F ρ w σ) : ∀ {xs : List Operand} {ds : List D}, SnapArgs e σ xs ds → (∀ x ∈ xs, RepS F ρ w (a.eval x) (e.ev x)) → RepL (endF F ρ σ) w (xs.map a.eval) ds
  | [], [], _, _ => RepL.nil
  | x :: xs, d :: ds, hd, ha => RepL.cons (hd.1.rep h _ (ha x (by simp))) (SnapArgs.rep h hd.2 fun y hy => ha y (List.mem_cons_of_mem _ hy))
  | [], _ :: _, h, _ => h.elim
  | _ :: _, [], h, _ => h.elim
section
variable {P : Program} {B : Nat} {ops : Array Oper} {o : Oper} {e : Env} {σ : Obs}
/-- A call that only reads, of whatever is made of own objects. -/
theorem AOp.callSnap {f : FuncId} {xs : List Operand} {ts : Array TypeId} {ds : List D} {d : D}
    (ho : o.op = .call { callee := .value (.func f), args := xs.toArray, argTypes := ts }) (ha : SnapArgs e σ xs ds) (h : ACall P f ds d) (hp : Plain d) : AOp P B ops o e σ (.d d) := by
  intro F ρ w a hF hr hσ
  have hr' : ∀ y ∈ o.op.operands.toList, RepS F ρ w (a.eval y) (e.ev y) := fun y hy => ev_rep fun t ht => hr t (looks_op (by rw [← ht]; exact hy))
  have h1 := ha.rep (a := a) hσ fun x hx => hr' x (by rw [ho]; simp [Op.operands, Call.operands, hx])
  have hF2 : ∀ b, endF F ρ σ b → b < w.heap.size := by
    rintro b (hb | ⟨p, hp, hb⟩)
    · exact hF b hb
    · exact ((hσ.ok p hp).blk_lt hb).2
  have h2 := h.2 (endF F ρ σ) w _ hF2 h1
  have h3 := h.1 (xs.map a.eval).toArray w
  have hx : (execOp a.eval o).run P w = .ok (.enter f (xs.map a.eval).toArray) w := by
    unfold execOp
    simp only [ho, resolve, Deferred.ofValue, Act.eval, invoke, Sem.run_bind, Sem.run_pure, Result.andThen_ok]
    simpa using h3
  unfold Oper.wp
  rw [hx]
  refine h2.mono fun _ w' ⟨v, F', he, hv, hE⟩ => ?_
  subst he
  exact ⟨v, F, rfl, .d (hp.rep _ hv), Ext.of_below hF hE.below⟩

/-- A field of a struct with own parts. -/
theorem AOp.fieldVal {t : TypeId} {x : Operand} {f off id : Nat} {ss : List S} {s : S} (ho : o.op = .field t x f) (hf : fieldB P t f off = true) (hx : e.ev x = .own id) (hm : (id, Ob.val ss) ∈ σ) (hd : ss[off]? = some s) : AOp P B ops o e σ s :=
  .value fun F ρ w a hF hr hσ => by
  have h1 := hr x (by rw [ho]; simp [Op.operands])
  rw [hx] at h1
  obtain ⟨cs, h2, h3, h4⟩ := hσ.ok _ hm
  dsimp only at h2
  have hv : a.eval x = .agg cs.toArray := by rw [← h2]; generalize a.eval x = v at h1; cases h1; rfl
  have hlt : off < ss.length := (List.getElem?_eq_some_iff.1 hd).1
  have hde : ss[off] = s := (List.getElem?_eq_some_iff.1 hd).2
  have hlt' : off < cs.length := by omega
  refine ⟨cs[off], F, w, ?_, by rw [← hde]; exact (h4 off hlt' hlt).2, Ext.refl hF⟩
  unfold fieldB at hf
  split at hf
  · rename_i fs hu
    split at hf
    · rename_i fl hfl
      simp only [Bool.and_eq_true, beq_iff_eq] at hf
      have hsc := Scal.of hf.2 w
      unfold execOp
      simp only [ho, hv, Instr.field, Sem.run_bind, run_underlying hu, Result.andThen_ok, hfl, asAgg, Sem.run_pure, part, hsc, Bool.false_eq_true, if_false, hf.1]
      simp [hlt']
    · simp at hf
  · simp at hf

/-- One cell of a row of rows. -/
theorem AOp.loadRowS {t : TypeId} {x : Operand} {id off ee size : Nat} {els : List (List S)} {ss : List S} {s : S} (ho : o.op = .load t x) (hT : Scal P t) (hx : e.ev x = .ptr id off) (hm : (id, Ob.rowS ee size els) ∈ σ) (k j : Nat) (hoff : off = k * size + j) (hk : els[k]? = some ss) (hd : ss[j]? = some s) :
    AOp P B ops o e σ s :=
  .value fun F ρ w a hF hr hσ => by
  have h1 := hr x (by rw [ho]; simp [Op.operands])
  rw [hx] at h1
  have hlt : k < els.length := (List.getElem?_eq_some_iff.1 hk).1
  have hde : els[k] = ss := (List.getElem?_eq_some_iff.1 hk).2
  have hjl : j < ss.length := (List.getElem?_eq_some_iff.1 hd).1
  have hdd : ss[j] = s := (List.getElem?_eq_some_iff.1 hd).2
  obtain ⟨g, cap, vs, _, h2, _, _, h5, h6, h7⟩ := obS_row hσ hm (by omega)
  have hv := ptr_at h1 (g := g) h2
  have hsz := h6 k hlt
  rw [hde] at hsz
  have hc := h5 k j hlt (by omega)
  have hrep := (h7 k hlt j (by rw [hde]; exact hjl)).2
  refine ⟨vs k j, F, w, ?_, ?_, Ext.refl hF⟩
  · unfold execOp
    simp only [ho, hv, hoff, Instr.loadAt, Instr.sureAddr, loadVar, Sem.run_bind, Sem.run_pure, Result.andThen_ok, hT w, Bool.false_eq_true, if_false, run_load, hc]
  · simp only [hde, hdd] at hrep
    exact hrep
/-- What of it is data. -/
def S.weak : S → D
  | .d x => x
  | _ => .any
def Ob.weak : Ob → Ob
  | .rowS e size els => .row e size (els.map fun ss => ss.map S.weak)
  | o => o
def Obs.weak : Obs → Obs
  | [] => []
  | p :: l => (p.1, p.2.weak) :: Obs.weak l
theorem Obs.mem_weak : ∀ {σ : Obs} {p : Nat × Ob}, p ∈ Obs.weak σ → ∃ q ∈ σ, p = (q.1, q.2.weak)
  | [], _, h => by cases h
  | x :: l, p, h => by
    unfold Obs.weak at h
    cases h with
    | head => exact ⟨x, by simp, rfl⟩
    | tail _ h => obtain ⟨q, hq, he⟩ := Obs.mem_weak h; exact ⟨q, List.mem_cons_of_mem _ hq, he⟩
theorem Obs.weak_mem : ∀ {σ : Obs} {p : Nat × Ob}, p ∈ σ → (p.1, p.2.weak) ∈ Obs.weak σ
  | [], _, h => by cases h
  | x :: l, p, h => by
    unfold Obs.weak
    cases h with
    | head => exact .head _
    | tail _ h => exact .tail _ (Obs.weak_mem h)
theorem ObOk.weak {B : Nat} {F : Nat → Prop} {ρ : Nat → Value} {w : World} {id : Nat} {o : Ob} (h : ObOk B F ρ w id o) : ObOk B F ρ w id o.weak := by
  cases o with
  | rowS e size els =>
    obtain ⟨xs, h1, h2, h3, h4⟩ := h
    refine ⟨xs, by rw [List.length_map]; exact h1, fun k hk => by rw [List.getElem_map, List.length_map]; exact h2 k (by simpa using hk), fun k hk j hj => ?_, h4⟩
    have hk' : k < els.length := by simpa using hk
    have hj' : j < els[k].length := by simpa using hj
    simp only [List.getElem_map]
    refine ⟨(h3 k hk' j hj').1, ?_⟩
    have h5 := (h3 k hk' j hj').2
    cases hs : els[k][j] with
    | d x => rw [hs] at h5; exact repS_d h5
    | own i => exact .any _
    | ptr i off => exact .any _
    | clo f caps => exact .any _
  | row e size els => exact h
  | cells ss => exact h
  | cellsT ty0 ss => exact h
  | map M => exact h
  | bts l => exact h
  | val ss => exact h
  | iter M done => exact h
theorem ObsOk.weak {B : Nat} {F : Nat → Prop} {ρ : Nat → Value} {w : World} {σ : Obs} (h : ObsOk B F ρ w σ) : ObsOk B F ρ w (Obs.weak σ) := by
  refine ⟨fun p hp => ?_, fun p hp q hq => ?_, fun p hp q hq he => ?_⟩
  · obtain ⟨q, hq, rfl⟩ := Obs.mem_weak hp
    exact (h.ok q hq).weak
  · obtain ⟨p', hp', rfl⟩ := Obs.mem_weak hp
    obtain ⟨q', hq', rfl⟩ := Obs.mem_weak hq
    exact h.apart p' hp' q' hq'
  · obtain ⟨p', hp', rfl⟩ := Obs.mem_weak hp
    obtain ⟨q', hq', rfl⟩ := Obs.mem_weak hq
    rw [h.uniq p' hp' q' hq' he]
/-- What only reads data of a row of rows. -/
theorem AOp.weak {s : S} (h : AOp P B ops o e (Obs.weak σ) s) : AOp P B ops o e σ s := fun F ρ w a hF hr hσ => h F ρ w a hF hr hσ.weak
end
section
variable {cx : Cx} {ops : Array Oper} {o : Oper} {rest : List Oper} {e : Env} {σ : Obs} {Q : Post}
/-- Own objects, told anew. -/
theorem AWP.obs {c : Code} {σ' : Obs} (h : ∀ p ∈ σ', p ∈ σ) (k : AWP cx c e σ' Q) : AWP cx c e σ Q := fun a w ⟨F, ρ, hr⟩ => k a w ⟨F, ρ, hr.size, hr.defers, hr.lt, hr.base, hr.new, hr.below, hr.hB, hr.env, hr.obs.sub h, hr.up, fun p hp => hr.kown p (h p hp), hr.fixed⟩
theorem AOps.obs {σ' : Obs} (h : ∀ p ∈ σ', p ∈ σ) (k : AOps cx ops rest e σ' Q) : AOps cx ops rest e σ Q := fun a w ⟨F, ρ, hr⟩ => k a w ⟨F, ρ, hr.size, hr.defers, hr.lt, hr.base, hr.new, hr.below, hr.hB, hr.env, hr.obs.sub h, hr.up, fun p hp => hr.kown p (h p hp), hr.fixed⟩
theorem AWP.obsEq {c : Code} (σ' : Obs) (h : σ = σ') (k : AWP cx c e σ' Q) : AWP cx c e σ Q := h ▸ k
theorem AOps.obsEq (σ' : Obs) (h : σ = σ') (k : AOps cx ops rest e σ' Q) : AOps cx ops rest e σ Q := h ▸ k
theorem R0.freezeSnap {F : Nat → Prop} {ρ : Nat → Value} {a : Act} {w : World} (h : R0 cx F ρ e σ a w) {t : Nat} {s : S} {d : D} {σs σ' : Obs} (ht : e t = s) (hs : Snap σs s d) (h1 : ∀ p ∈ σs, p ∈ σ) (h2 : ∀ p ∈ σ', p ∈ σ) (h3 : ∀ p ∈ σs, ∀ q ∈ σ', q.1 ≠ p.1) :
    R0 cx (endF F ρ σs) ρ (e.put (some t) (.d d)) σ' a w := by
  have hF2 : ∀ b, endF F ρ σs b → b < w.heap.size := by
    rintro b (hb | ⟨p, hp, hb⟩)
    · exact h.lt b hb
    · exact ((h.obs.ok p (h1 p hp)).blk_lt hb).2
  refine ⟨h.size, h.defers, hF2, fun b hb => .inl (h.base b hb), ?_, h.below, h.hB, fun u => ?_, ?_, h.up, fun p hp => h.kown p (h2 p hp), h.fixed⟩
  · rintro b (hb | ⟨p, hp, hb⟩)
    · exact h.new b hb
    · exact .inr (h.kown p (h1 p hp) b hb)
  · by_cases hu : u = t
    · subst hu
      rw [Env.put_same]
      have h4 := h.env u
      rw [ht] at h4
      exact .d (hs.rep (h.obs.sub h1) _ h4)
    · rw [Env.put_other _ _ _ _ hu]
      exact RepS.turn (row := none) (h.env u) h.lt (fun g hg => by simp at hg) ⟨rfl, rfl, rfl, Nat.le_refl _, fun _ _ _ => rfl⟩ (fun b hb => .inl hb)
  · refine ⟨fun p hp => ?_, fun p hp q hq => h.obs.apart p (h2 p hp) q (h2 q hq), fun p hp q hq => h.obs.uniq p (h2 p hp) q (h2 q hq)⟩
    refine (h.obs.ok p (h2 p hp)).more h.lt (fun b hb => .inl hb) ?_
    rintro g hg (hf | ⟨q, hq, hb⟩)
    · exact (h.obs.ok p (h2 p hp)).nF hg hf
    · exact h.obs.apart p (h2 p hp) q (h1 q hq) (h3 q hq p hp) g hg hb
/-- A value with own parts becomes data; its objects are gone. -/
theorem AWP.freezeSnap {c : Code} (t : Nat) {s : S} {d : D} (σs σ' : Obs) (ht : e t = s) (hs : Snap σs s d) (h1 : ∀ p ∈ σs, p ∈ σ) (h2 : ∀ p ∈ σ', p ∈ σ) (h3 : ∀ p ∈ σs, ∀ q ∈ σ', q.1 ≠ p.1) (k : AWP cx c (e.put (some t) (.d d)) σ' Q) : AWP cx c e σ Q :=
  fun a w ⟨F, ρ, hr⟩ => k a w ⟨_, ρ, hr.freezeSnap ht hs h1 h2 h3⟩
theorem AllIn.of {σ : Obs} : ∀ {l : Obs}, (∀ p ∈ l, p ∈ σ) → AllIn σ l
  | [], _ => trivial
  | x :: l, h => ⟨h x (by simp), AllIn.of fun p hp => h p (List.mem_cons_of_mem _ hp)⟩
end
end Go.Proofs.YtnapkooefpkicaaGreatDoor


namespace Go.Proofs.YtnapkooefpkicaaGreatDoor
open Go.RowKit
set_option linter.unusedVariables false

/-- One cell's worth. -/
def OneS (σ : Obs) (s : S) : Prop := (∃ x : D, s = .d x ∧ x.one = true ∧ x.parts = [x]) ∨ ∃ i ee size els, s = .own i ∧ (i, Ob.row ee size els) ∈ σ
theorem OneS.d {σ : Obs} {x : D} (h1 : x.one = true) (h2 : x.parts = [x]) : OneS σ (.d x) := .inl ⟨x, rfl, h1, h2⟩
theorem OneS.own {σ : Obs} {i ee size : Nat} {els : List (List D)} (h : (i, Ob.row ee size els) ∈ σ) : OneS σ (.own i) := .inr ⟨i, ee, size, els, rfl, h⟩
theorem OneS.cell {σ : Obs} {s : S} (h : OneS σ s) {B : Nat} {F : Nat → Prop} {ρ : Nat → Value} {w : World} (hσ : ObsOk B F ρ w σ) {u : Value} (hu : RepS F ρ w u s) : ∃ c, u.cells = #[c] ∧ c.oneCell' = true ∧ RepS F ρ w c s := by
  rcases h with ⟨x, rfl, h1, h2⟩ | ⟨i, ee, size, els, rfl, hm⟩
  · obtain ⟨h3, h4⟩ := parts_rep (repS_d hu) h1
    have hl := h3.1
    rw [h2] at hl
    have hs : u.cells.size = 1 := by simpa using hl
    obtain ⟨c, hc⟩ : ∃ c, u.cells = #[c] := by
      have : u.cells.toList.length = 1 := by simpa using hl
      obtain ⟨c, hc⟩ := List.length_eq_one_iff.1 this
      exact ⟨c, by rw [← Array.toList_inj]; exact hc⟩
    refine ⟨c, hc, h4 c (by rw [hc]; simp), .d ?_⟩
    have := h3.2 0 (by rw [hc]; simp) (by rw [h2]; simp)
    simp only [hc, h2] at this
    simpa using this
  · obtain ⟨xs, hown, _⟩ := hσ.ok _ hm
    dsimp only at hown
    have hv : u = ρ i := by cases hu; rfl
    refine ⟨ρ i, ?_, ?_, .own i⟩
    · rw [hv]; rcases hown.2 with ⟨h3, _⟩ | ⟨g', cap, cur, h3, _⟩ <;> rw [h3] <;> rfl
    · rcases hown.2 with ⟨h3, _⟩ | ⟨g', cap, cur, h3, _⟩ <;> rw [h3] <;> rfl
section
variable {cx : Cx} {ops : Array Oper} {o : Oper} {rest : List Oper} {e : Env} {σ : Obs} {Q : Post}
theorem EOp.storeRowS {t id off ee size : Nat} {x y : Operand} {s : S} {els : List (List S)} {ss : List S} (ht : o.dst = none) (ho : o.op = .store t x y) (hs : ∀ w, (sizeOf t).run cx.P w = .ok 1 w) (hx : e.ev x = .ptr id off) (hm : (id, Ob.rowS ee size els) ∈ σ)
    (hy : e.ev y = s) (h1 : OneS σ s) (k j : Nat) (hoff : off = k * size + j) (hd : els[k]? = some ss) (hj : j < size) :
    EOp cx ops o e σ (Obs.upd id (.rowS ee size (els.set k (ss.set j s))) σ) := by
  intro F ρ a w e0 hr ha
  have hop : ∀ y ∈ o.op.operands.toList, RepS F ρ w (a.eval y) (e.ev y) := fun y hy => ev_rep fun t ht => ha t (looks_op (by rw [← ht]; exact hy))
  have r1 := hop x (by rw [ho]; simp [Op.operands])
  have r2 := hop y (by rw [ho]; simp [Op.operands])
  rw [hx] at r1
  rw [hy] at r2
  obtain ⟨c, hc, hone, hcr⟩ := h1.cell hr.obs r2
  have hlt : k < els.length := (List.getElem?_eq_some_iff.1 hd).1
  have hde : els[k] = ss := (List.getElem?_eq_some_iff.1 hd).2
  obtain ⟨xs, hown, hlen, hrep, hnF⟩ := hr.obs.ok _ hm
  dsimp only at hown hnF
  have hown' : w.ownsRow cx.B ee size (ρ id) els.length (flat xs els.length size) := hown
  rcases hown'.2 with ⟨_, h0⟩ | ⟨g, cap, cur, hv, hB, hh, hn, hmx, hcs, htk⟩
  · omega
  have hblk : blk (ρ id) = some g := by rw [hv]; rfl
  have hxv := ptr_at r1 hblk
  have hle : k * size + size ≤ els.length * size := by rw [← Nat.succ_mul]; exact Nat.mul_le_mul_right _ hlt
  have hcap : els.length * size ≤ cap * size := Nat.mul_le_mul_right _ hn
  obtain ⟨w', h5, h6, h7⟩ := storeVar_run (P := cx.P) (off := off) (v := a.eval y) (size := 1) hs (by rw [hc]; rfl) (cur := cur.toList) (by simpa using hh) (by rw [Array.length_toList]; omega) (by rw [hc]; intro u hu; simp at hu; rw [hu]; exact hone)
  unfold Oper.wp execOp
  simp only [ho, Instr.storeAt, hxv, Instr.sureAddr, Sem.run_bind, Sem.run_pure, Result.andThen_ok, h5]
  refine ⟨by rw [ht]; rfl, fun e2 hr2 => ⟨F, ρ, ?_⟩⟩
  have keep : ∀ {u : Value} {s : S}, RepS F ρ w u s → RepS F ρ w' u s := fun h => h.turn hr.lt (fun g' hg' => by rw [← Option.some.inj hg']; exact hnF g hblk) h6 (fun b hb => hb)
  rw [hc] at h7
  refine hr2.writeOb hblk hm hB (hnF g hblk) h6 ⟨fun i p => if i = k ∧ j ≤ p ∧ p < j + [c].length then [c].getD (p - j) undef else xs i p, ?_, fun i hi => ?_, fun i hi p hp => ?_, hnF⟩
  · rw [List.length_set]
    have hst := flat_store xs els.length size k j [c] hlt (by simp; omega)
    refine ⟨flat_length _ _ _, .inr ⟨g, cap, _, hv, hB, h7, hn, hmx, ?_, ?_⟩⟩
    · simp only [List.size_toArray, List.length_append, List.length_take, List.length_drop, Array.length_toList, hcs, List.length_cons, List.length_nil]
      omega
    · refine Eq.trans ?_ hst
      rw [← htk]
      have hcl : cur.toList.length = cap * size := by rw [Array.length_toList]; exact hcs
      rw [hoff]
      apply List.ext_getElem?
      intro p
      by_cases hp : p < els.length * size
      · rw [List.getElem?_take, if_pos hp, get3, get3]
        simp only [List.length_take, hcl, List.getElem?_take, List.getElem?_drop, List.length_cons, List.length_nil]
        rw [Nat.min_eq_left (show k * size + j ≤ cap * size by omega), Nat.min_eq_left (show k * size + j ≤ min (els.length * size) (cap * size) by omega)]
        by_cases c1 : p < k * size + j
        · simp [c1, hp]
        · by_cases c2 : p < k * size + j + (0 + 1)
          · simp only [c1, c2, if_false, if_true]
          · simp only [c1, c2, if_false]
            rw [if_pos (by omega)]
      · rw [List.getElem?_eq_none (by rw [List.length_take]; omega), List.getElem?_eq_none (by
          simp only [List.length_append, List.length_take, List.length_drop, hcl, List.length_cons, List.length_nil]
          omega)]
  · rw [List.getElem_set]
    split
    · rw [List.length_set]
      have := hlen k hlt
      rw [hde] at this
      exact this
    · exact hlen i _
  · rw [List.length_set] at hi
    have hk2 := hlen k hlt
    rw [hde] at hk2
    simp only [List.getElem_set] at hp ⊢
    by_cases hik : k = i
    · subst hik
      simp only [if_true, List.length_set] at hp ⊢
      by_cases c1 : p = j
      · subst c1
        rw [if_pos ⟨trivial, Nat.le_refl _, by simp⟩]
        refine ⟨by simpa using hone, ?_⟩
        rw [List.getElem_set_self]
        simpa using keep hcr
      · rw [if_neg (by rintro ⟨_, h8, h9⟩; simp at h9; omega)]
        have h10 := hrep k hlt p (by rw [hde]; exact hp)
        simp only [hde] at h10
        rw [List.getElem_set_ne (fun h => c1 h.symm)]
        exact ⟨h10.1, keep h10.2⟩
    · simp only [hik, if_false] at hp ⊢
      rw [if_neg (by rintro ⟨h8, _⟩; exact hik h8.symm)]
      exact ⟨(hrep i hi p hp).1, keep (hrep i hi p hp).2⟩
/-- A row is a row of whatever. -/
theorem ObOk.toS {B : Nat} {F : Nat → Prop} {ρ : Nat → Value} {w : World} {id e size : Nat} {els : List (List D)} (h : ObOk B F ρ w id (.row e size els)) : ObOk B F ρ w id (.rowS e size (els.map fun ds => ds.map S.d)) := by
  obtain ⟨xs, h1, h2, h3, h4⟩ := h
  refine ⟨xs, by rw [List.length_map]; exact h1, fun k hk => by rw [List.getElem_map, List.length_map]; exact h2 k (by simpa using hk), fun k hk j hj => ?_, h4⟩
  have hk' : k < els.length := by simpa using hk
  have hj' : j < els[k].length := by simpa using hj
  simp only [List.getElem_map]
  exact ⟨(h3 k hk' j hj').1, .d (h3 k hk' j hj').2⟩
theorem R0.reOb {F : Nat → Prop} {ρ : Nat → Value} {a : Act} {w : World} (h : R0 cx F ρ e σ a w) {id : Nat} {o o' : Ob} (hm : (id, o) ∈ σ) (ho : ObOk cx.B F ρ w id o') : R0 cx F ρ e (Obs.upd id o' σ) a w := by
  refine ⟨h.size, h.defers, h.lt, h.base, h.new, h.below, h.hB, h.env, ⟨fun p hp => ?_, fun p hp q hq hne => ?_, fun p hp q hq he => ?_⟩, h.up, fun p hp => ?_, h.fixed⟩
  · rcases Obs.mem_upd hp with ⟨rfl, _⟩ | ⟨h1, _⟩
    · exact ho
    · exact h.obs.ok p h1
  · rcases Obs.mem_upd hp with ⟨rfl, _⟩ | ⟨h1, _⟩
    · rcases Obs.mem_upd hq with ⟨rfl, _⟩ | ⟨h2, _⟩
      · exact absurd rfl hne
      · exact h.obs.apart (id, o) hm q h2 hne
    · rcases Obs.mem_upd hq with ⟨rfl, _⟩ | ⟨h2, _⟩
      · exact h.obs.apart p h1 (id, o) hm hne
      · exact h.obs.apart p h1 q h2 hne
  · rcases Obs.mem_upd hp with ⟨rfl, _⟩ | ⟨h1, h3⟩
    · rcases Obs.mem_upd hq with ⟨rfl, _⟩ | ⟨h2, h4⟩
      · rfl
      · exact absurd he.symm h4
    · rcases Obs.mem_upd hq with ⟨rfl, _⟩ | ⟨h2, _⟩
      · exact absurd he h3
      · exact h.obs.uniq p h1 q h2 he
  · rcases Obs.mem_upd hp with ⟨rfl, _⟩ | ⟨h1, _⟩
    · exact h.kown (id, o) hm
    · exact h.kown p h1
theorem AWP.rowToS {c : Code} (id : Nat) {ee size : Nat} {els : List (List D)} (hm : (id, Ob.row ee size els) ∈ σ) (k : AWP cx c e (Obs.upd id (.rowS ee size (els.map fun ds => ds.map S.d)) σ) Q) : AWP cx c e σ Q :=
  fun a w ⟨F, ρ, hr⟩ => k a w ⟨F, ρ, hr.reOb hm (hr.obs.ok _ hm).toS⟩
/-- A struct with own parts, loaded out of own cells. -/
theorem AOps.loadVal {t dst : Nat} {x : Operand} {cid off size : Nat} {ss : List S} (id : Nat) (hg : o.guard = none) (ht : o.dst = some dst) (hdn : Nat.blt dst cx.N = true) (ho : o.op = .load t x) (hT : AggT cx.P t size) (hx : e.ev x = .ptr cid off) (hm : (cid, Ob.cells ss) ∈ σ) (hl : off + size ≤ ss.length) (hid : Obs.fresh id σ = true)
    (k : AOps cx ops rest ((e.kill id).put (some dst) (.own id)) ((id, .val (((ss.drop off).take size).map (S.kill id))) :: Obs.kill id σ) Q) (hfx : cx.free id = true := by rfl) : AOps cx ops (o :: rest) e σ Q := by
  intro a w ⟨F, ρ, hr⟩
  have h1 := ev_rep (e := e) (x := x) (a := a) (fun t _ => hr.env t)
  rw [hx] at h1
  obtain ⟨g, ty, cs, h2, h3, h4, h5, h6, h7⟩ := hr.obs.ok _ hm
  dsimp only at h2
  have hv := ptr_at h1 (g := g) (by rw [h2]; rfl)
  have hl2 : ((cs.drop off).take size).length = size := by rw [List.length_take, List.length_drop]; omega
  have hcells : (loadCells ⟨g, off, none⟩ ((cs.drop off).take size).length).run cx.P w = .ok ((cs.drop off).take size).toArray w := run_loadCells_list w _ _ (fun j v hj => by
    have hlt := (List.getElem?_eq_some_iff.1 hj).1
    rw [hl2] at hlt
    rw [addr_add, cell_of_row w g (off + j) cs.toArray ty (0, 0) h5, ← hj]
    simp [hlt])
  rw [hl2] at hcells
  refine wpList_plain hg fun K hK => ?_
  unfold Oper.wp execOp
  simp only [ho, hv, Instr.loadAt, Instr.sureAddr, loadVar, Sem.run_bind, Sem.run_pure, Result.andThen_ok, hT.agg w, hT.size w, if_true, hcells]
  obtain ⟨ρ', h8⟩ := hr.newObF (id := id) (dst := dst) (ob := .val (((ss.drop off).take size).map (S.kill id))) (v := .agg ((cs.drop off).take size).toArray) (Obs.fresh_spec hid) (by simpa [Nat.blt_eq] using hdn) (Ext.refl hr.lt) (by
    refine ⟨(cs.drop off).take size, by simp, by rw [hl2, List.length_map, List.length_take, List.length_drop]; omega, fun j hj hj' => ?_⟩
    have hj1 : j < size := by rw [hl2] at hj; exact hj
    simp only [List.getElem_map, List.getElem_take, List.getElem_drop]
    exact ⟨(h7 (off + j) (by omega) (by omega)).1, (h7 (off + j) (by omega) (by omega)).2.kill id (fun i hi => by simp [hi])⟩) (fun g hg => by simp [blk] at hg) hfx
  have := k _ _ ⟨F, ρ', h8⟩
  rw [← ht] at this
  exact hK _ _ this
end
/-! A family of own rows: the numbers b + k, b + k + 1, .. -/
def fam (e size : Nat) : Nat → List (List (List D)) → Obs
  | _, [] => []
  | b, x :: l => (b, .row e size x) :: fam e size (b + 1) l
theorem fam_get {e size : Nat} : ∀ {b : Nat} {l : List (List (List D))} {k : Nat} {x : List (List D)}, l[k]? = some x → (b + k, Ob.row e size x) ∈ fam e size b l
  | b, y :: l, 0, x, h => by
    have : y = x := by simpa using h
    subst this
    exact .head _
  | b, y :: l, k + 1, x, h => by
    have := fam_get (e := e) (size := size) (b := b + 1) (l := l) (k := k) (x := x) (by simpa using h)
    rw [show b + 1 + k = b + (k + 1) by omega] at this
    exact .tail _ this
theorem fam_mem {e size : Nat} : ∀ {b : Nat} {l : List (List (List D))} {p : Nat × Ob}, p ∈ fam e size b l → ∃ k x, l[k]? = some x ∧ p = (b + k, .row e size x)
  | b, y :: l, p, h => by
    cases h with
    | head => exact ⟨0, y, rfl, rfl⟩
    | tail _ h =>
      obtain ⟨k, x, h1, h2⟩ := fam_mem h
      exact ⟨k + 1, x, by simpa using h1, by rw [h2, show b + 1 + k = b + (k + 1) by omega]⟩
theorem fam_kill {e size id : Nat} : ∀ {b : Nat} {l : List (List (List D))}, Obs.kill id (fam e size b l) = fam e size b l
  | _, [] => rfl
  | b, y :: l => by unfold fam Obs.kill; rw [fam_kill]; rfl
theorem fam_killP {e size : Nat} {c : Nat → Bool} : ∀ {b : Nat} {l : List (List (List D))}, Obs.killP c (fam e size b l) = fam e size b l
  | _, [] => rfl
  | b, y :: l => by unfold fam Obs.killP; rw [fam_killP]; rfl
theorem fam_upd_low {e size id : Nat} {o : Ob} : ∀ {b : Nat} {l : List (List (List D))}, id < b → Obs.upd id o (fam e size b l) = fam e size b l
  | _, [], _ => rfl
  | b, y :: l, h => by
    unfold fam Obs.upd
    have : Nat.beq b id = false := by rw [Bool.eq_false_iff]; intro hh; have := Nat.eq_of_beq_eq_true hh; omega
    dsimp only
    rw [this, fam_upd_low (by omega)]
theorem fam_upd {e size : Nat} {x : List (List D)} : ∀ {b : Nat} {l : List (List (List D))} {k : Nat}, k < l.length → Obs.upd (b + k) (.row e size x) (fam e size b l) = fam e size b (l.set k x)
  | b, y :: l, 0, _ => by
    unfold fam Obs.upd
    have : Nat.beq b (b + 0) = true := by simp
    dsimp only
    rw [this]
    simp only [List.set_cons_zero, Nat.add_zero]
    rw [fam_upd_low (by omega)]
  | b, y :: l, k + 1, h => by
    unfold fam Obs.upd
    have : Nat.beq b (b + (k + 1)) = false := by rw [Bool.eq_false_iff]; intro hh; have := Nat.eq_of_beq_eq_true hh; omega
    dsimp only
    rw [this]
    simp only [List.set_cons_succ]
    have h2 := fam_upd (e := e) (size := size) (x := x) (b := b + 1) (l := l) (k := k) (by simpa using h)
    rw [show b + 1 + k = b + (k + 1) by omega] at h2
    rw [h2]
theorem fam_fresh {e size id : Nat} : ∀ {b : Nat} {l : List (List (List D))}, id < b → Obs.fresh id (fam e size b l) = true
  | _, [], _ => rfl
  | b, y :: l, h => by
    unfold fam Obs.fresh
    have h2 := fam_fresh (e := e) (size := size) (id := id) (b := b + 1) (l := l) (by omega)
    have : Nat.beq b id = false := by rw [Bool.eq_false_iff]; intro hh; have := Nat.eq_of_beq_eq_true hh; omega
    simp [h2, this]
end Go.Proofs.YtnapkooefpkicaaGreatDoor


namespace Go.Proofs.YtnapkooefpkicaaGreatDoor
open Go.RowKit Go.Shelf Go.Lib
set_option linter.unusedVariables false
set_option linter.unusedSimpArgs false

/-- What the builder's first cell holds: nothing has been written, or its own address. -/
def bP (l : List UInt8) (id : Nat) : S := match l with
  | [] => .d (.v (.pointer none))
  | _ :: _ => .ptr id 0
/-- A builder that holds l: its two cells, its bytes. -/
def Bld (id r : Nat) (l : List UInt8) : Obs := [(id, .cellsT 78 [bP l id, .own r]), (r, .row 5 1 (l.map u8D))]
theorem cellB_turn (g o : Nat) (v : Value) (w : World) : Turn w (w.setCell ⟨g, o, none⟩ v) (some g) := by
  refine ⟨rfl, rfl, rfl, by simp [World.setCell], fun k _ hk => ?_⟩
  have : g ≠ k := fun h => hk (by rw [h])
  simp [World.setCell, Array.getElem?_modify, this]
theorem flat_bytes {xs : Nat → Nat → Value} {l : List UInt8} (h : ∀ i (h : i < l.length), xs i 0 = .int .u8 (l[i].toNat : Int)) : flat xs l.length 1 = byteCells l := by
  apply List.ext_getElem?
  intro p
  by_cases hp : p < l.length
  · have := flatten_get xs 1 l.length p 0 hp (by omega)
    rw [Nat.mul_one, Nat.add_zero] at this
    unfold flat
    rw [this, h p hp, byteCells, List.getElem?_map, List.getElem?_eq_getElem hp]; rfl
  · rw [List.getElem?_eq_none (by rw [flat_length]; omega), List.getElem?_eq_none (by rw [byteCells_length]; omega)]
/-- What the objects say of the world. -/
structure BldW (B : Nat) (F : Nat → Prop) (ρ : Nat → Value) (w : World) (id r : Nat) (l : List UInt8) (g : Nat) : Prop where
  ptr : ρ id = .pointer (some ⟨g, 0, none⟩)
  hB : B ≤ g
  nF : ¬ F g
  heap : w.heap[g]? = some (.cells #[if l = [] then .pointer none else .pointer (some ⟨g, 0, none⟩), ρ r] 78 (0, 0))
  own : w.ownsRow B 5 1 (ρ r) l.length (byteCells l)
  ne : blk (ρ r) ≠ some g
  nFr : ∀ b, blk (ρ r) = some b → ¬ F b
theorem bldW_of {B : Nat} {F : Nat → Prop} {ρ : Nat → Value} {w : World} {id r : Nat} {l : List UInt8} (hne : id ≠ r) (h : ObsOk B F ρ w (Bld id r l)) : ∃ g, BldW B F ρ w id r l g := by
  obtain ⟨g, cs, hρ, hBg, hF, hh, hcl, hcs⟩ := h.ok (id, _) (.head _)
  obtain ⟨xs, hown, hlen, hrep, hnF⟩ := h.ok (r, _) (.tail _ (.head _))
  dsimp only at hρ hown hnF
  obtain ⟨p, v, rfl⟩ : ∃ p v, cs = [p, v] := by
    match cs, hcl with
    | [p, v], _ => exact ⟨p, v, rfl⟩
  have h0 := (hcs 0 (by simp) (by simp)).2
  have h1 := (hcs 1 (by simp) (by simp)).2
  simp only [List.getElem_cons_zero, List.getElem_cons_succ] at h0 h1
  have hv : v = ρ r := by cases h1; rfl
  have hp : p = if l = [] then .pointer none else .pointer (some ⟨g, 0, none⟩) := by
    cases l with
    | nil => exact repS_v h0
    | cons x t => exact ptr_at h0 (by rw [hρ]; rfl)
  subst hv
  have hll : (l.map u8D).length = l.length := List.length_map ..
  rw [hll] at hown
  have hfl : flat xs l.length 1 = byteCells l := flat_bytes fun i hi => by
    have := (hrep i (by rw [hll]; exact hi) 0 (by simp [u8D])).2
    simp only [List.getElem_map, u8D, List.getElem_cons_zero] at this
    exact rep_v this
  refine ⟨g, hρ, hBg, hF, by rw [hh, hp], by rw [← hfl]; exact hown, fun he => ?_, hnF⟩
  exact h.apart (id, _) (.head _) (r, _) (.tail _ (.head _)) hne g (by dsimp only; rw [hρ]; rfl) he
theorem BldW.obs {B : Nat} {F : Nat → Prop} {ρ : Nat → Value} {w : World} {id r : Nat} {l : List UInt8} {g : Nat} (hne : id ≠ r) (h : BldW B F ρ w id r l g) : ObsOk B F ρ w (Bld id r l) := by
  have hll : (l.map u8D).length = l.length := List.length_map ..
  refine ⟨fun p hp => ?_, fun p hp q hq hpq b hb hb2 => ?_, fun p hp q hq hpq => ?_⟩
  · rcases List.mem_cons.1 hp with rfl | hp
    · refine ⟨g, [_, _], h.ptr, h.hB, h.nF, h.heap, rfl, fun j hj hj' => ?_⟩
      match j, hj with
      | 0, _ =>
        refine ⟨?_, ?_⟩
        · cases l <;> rfl
        · cases l with
          | nil => exact .d (.v _)
          | cons x t => exact .ptr id 0 g (by rw [h.ptr]; rfl)
      | 1, _ => exact ⟨by
          rcases h.own.2 with ⟨h2, _⟩ | ⟨_, _, _, h2, _⟩ <;> (show (ρ r).oneCell' = true; rw [h2]; rfl), .own r⟩
    · obtain rfl := List.mem_singleton.1 hp
      refine ⟨fun i _ => .int .u8 ((l.getD i 0).toNat : Int), ?_, fun i hi => by simp [u8D], fun i hi j hj => ?_, h.nFr⟩
      · rw [hll]
        have : flat (fun i _ => Value.int .u8 ((l.getD i 0).toNat : Int)) l.length 1 = byteCells l := flat_bytes fun i hi => by rw [List.getD_eq_getElem?_getD, List.getElem?_eq_getElem hi]; rfl
        show w.ownsRow B _ 1 (ρ r) l.length (flat _ l.length 1)
        rw [this]
        exact h.own
      · have hi' : i < l.length := by rw [← hll]; exact hi
        have hj0 : j = 0 := by
          have : j < 1 := by simpa [u8D] using hj
          omega
        subst hj0
        refine ⟨rfl, ?_⟩
        simp only [List.getElem_map, u8D, List.getElem_cons_zero]
        rw [List.getD_eq_getElem?_getD, List.getElem?_eq_getElem hi']
        exact .v _
  · rcases List.mem_cons.1 hp with rfl | hp <;> rcases List.mem_cons.1 hq with rfl | hq
    · exact hpq rfl
    · obtain rfl := List.mem_singleton.1 hq
      dsimp only at hb hb2
      rw [h.ptr] at hb
      have : b = g := by simp [blk] at hb; omega
      exact h.ne (this ▸ hb2)
    · obtain rfl := List.mem_singleton.1 hp
      dsimp only at hb hb2
      rw [h.ptr] at hb2
      have : b = g := by simp [blk] at hb2; omega
      exact h.ne (this ▸ hb)
    · obtain rfl := List.mem_singleton.1 hp
      obtain rfl := List.mem_singleton.1 hq
      exact hpq rfl
  · rcases List.mem_cons.1 hp with rfl | hp <;> rcases List.mem_cons.1 hq with rfl | hq
    · rfl
    · obtain rfl := List.mem_singleton.1 hq
      exact absurd hpq hne
    · obtain rfl := List.mem_singleton.1 hp
      exact absurd hpq.symm hne
    · obtain rfl := List.mem_singleton.1 hp
      obtain rfl := List.mem_singleton.1 hq
      rfl
/-! ## The library's code, in whatever world -/
theorem bldSz : (Tryz.prog.info? 78).map (·.size) = some 2 := by kernel_rfl
theorem ptrB : Tryz.prog.underlying 75 = some (.pointer 78) := by kernel_rfl
theorem unsP : Tryz.prog.underlying 109 = some .unsafePointer := by kernel_rfl
theorem sliB : Tryz.prog.underlying 76 = some (.slice 5) := by kernel_rfl
theorem strB : Tryz.prog.underlying 9 = some .string := by kernel_rfl
theorem infB : (Tryz.prog.info? 5).map (fun i => (i.zero, i.size, i.bytes)) = some (some (.int .u8 0), 1, 1) := by kernel_rfl
set_option maxHeartbeats 1000000 in
set_option maxRecDepth 100000 in
theorem copyUsed (b : Nat) (w : World) (h0 : w.cell? ⟨b, 0, none⟩ = some (.pointer (some ⟨b, 0, none⟩))) :
    Calls Tryz.prog 59 #[.pointer (some ⟨b, 0, none⟩)] w fun e w' => e = .returned (.tuple #[]) ∧ w' = w := by
  obtain ⟨j, hj, _⟩ := Option.map_eq_some_iff.1 bldSz
  go_enter Tryz.func59, Tryz.ntmps59
  go_wp2
  rw [Lib.run_neq_ptr_same w _ ptrB hj]
  go_wp2
  go_end0
  exact ⟨rfl, rfl⟩
set_option maxHeartbeats 1000000 in
set_option maxRecDepth 100000 in
theorem copyFresh (b : Nat) (w : World) (h0 : w.cell? ⟨b, 0, none⟩ = some (.pointer none)) (hsh : w.shape? b = some (78, 2)) (hfz : w.frozen? ⟨b, 0, none⟩ = false) :
    Calls Tryz.prog 59 #[.pointer (some ⟨b, 0, none⟩)] w fun e w' => e = .returned (.tuple #[]) ∧ w' = w.setCell ⟨b, 0, none⟩ (.pointer (some ⟨b, 0, none⟩)) := by
  obtain ⟨j, hj, hjs⟩ := Option.map_eq_some_iff.1 bldSz
  go_enter Tryz.func59, Tryz.ntmps59
  go_wp2
  rw [Lib.run_to_unsafe w ⟨b, 0, none⟩ ptrB unsP hj (by rw [hjs]; decide) hsh (Nat.zero_lt_succ 1)]
  simp only [Result.andThen]
  rw [Oper.upon_value]
  go_wp2
  rw [run_callFunc_extern Tryz.func82 (by kernel_rfl) (by kernel_rfl) (by kernel_rfl) (e := Extern.AbiNoEscape.same) (by kernel_rfl)]
  rw [Lib.run_noEscape]
  simp only [Result.andThen]
  rw [Oper.upon_value]
  go_wp2
  rw [Lib.run_from_unsafe w ⟨b, 0, none⟩ unsP ptrB hj hsh (by kernel_rfl)]
  simp only [Result.andThen]
  rw [Oper.upon_value]
  go_wp2
  go_end0
  exact ⟨rfl, rfl⟩
/-- append(b, s...) at what the call owns: the buffer stays, or is new. -/
theorem append_str_run {P : Program} (w : World) (base : Nat) (t u ty e : TypeId) (i : TypeInfo) (ht : P.underlying t = some (.slice e)) (hu : P.underlying u = some .string) (hi : P.info? e = some i) (hz : i.zero = some (.int .u8 0)) (hsize : i.size = 1) (hby : i.bytes = 1)
    (v : Value) (n : Nat) (xs : List Value) (hown : w.ownsRow base e 1 v n xs) (s : ByteArray) (hbytes : n + s.size ≤ 140737488355328) (hbase : base ≤ w.heap.size) :
    ∃ v' w', (Builtin.append_ #[t, u] ty #[v, .string s]).run P w = .ok v' w' ∧ w'.ownsRow base e 1 v' (n + s.size) (xs ++ strCells s) ∧ w.grownBy w' v.ownBlock ∧ (v'.ownBlock = v.ownBlock ∨ ∃ g, v'.ownBlock = some g ∧ w.heap.size ≤ g) := by
  have h63 : n + s.size ≤ maxLen := by unfold maxLen; omega
  obtain ⟨v', w', hr, h2, h3, h4⟩ := run_append_own_string (P := P) w base t u ty e i ht hu hi hz hsize hby v n xs hown s h63 hbytes hbase
  refine ⟨v', w', hr, h2, h3, ?_⟩
  have hxl : xs.length = n := by simpa using hown.1
  rcases hown.2 with ⟨rfl, rfl⟩ | ⟨g, cap, cur, rfl, hbg, hg, hnc, hcm, hcs, htake⟩
  · by_cases hm : s.size = 0
    · exact .inl (by rw [h4.2 ⟨rfl, hm⟩])
    · have hown2 : w.ownsRow w.heap.size e 1 (.slice none 0 0) 0 xs := ⟨hown.1, .inl ⟨rfl, rfl⟩⟩
      obtain ⟨v2, w2, hr2, h5, _, h6⟩ := run_append_own_string (P := P) w w.heap.size t u ty e i ht hu hi hz hsize hby _ 0 xs hown2 s h63 hbytes (Nat.le_refl _)
      rw [hr] at hr2
      injection hr2 with e1 e2
      subst e1
      rcases h5.2 with ⟨h7, _⟩ | ⟨g, cap, cur, h7, h8, _⟩
      · exact absurd (h4.1 h7).2 hm
      · exact .inr ⟨g, by rw [h7]; rfl, h8⟩
  · by_cases hroom : n + s.size ≤ cap
    · have hr2 := run_append_room_string (P := P) w t u ty e i ht hu hi hsize g n cap cur hg s hroom (by omega)
      rw [hr] at hr2
      injection hr2 with e1 e2
      exact .inl (by rw [e1]; rfl)
    · have holds : ∀ j u, xs[j]? = some u → w.cell? ((⟨g, 0, none⟩ : Addr).add j) = some u := hown.cells (g := g) rfl
      have hr2 := run_append_grow_string (P := P) w t u ty e i (.int .u8 0) ht hu hi hz ⟨g, 0, none⟩ n cap xs (by rw [hsize]; simpa using hxl) holds s (by omega) (by omega) (by rw [hby]; exact growslice_fits (by omega) (by omega))
      rw [hr] at hr2
      injection hr2 with e1 e2
      exact .inr ⟨w.heap.size, by rw [e1]; rfl, Nat.le_refl _⟩
theorem wpList_append_str {P : Program} (w : World) {ops : Array Oper} {rest : List Oper} {o : Oper} {a : Act} {Q : Exit → Act → World → Prop} (hgd : o.guard = none) (sl x : Operand) (t u : TypeId)
    (ho : o.op = .call { callee := .builtin .append, args := #[sl, x], argTypes := #[t, u] })
    (base : Nat) (e : TypeId) (i : TypeInfo) (ht : P.underlying t = some (.slice e)) (hu : P.underlying u = some .string) (hi : P.info? e = some i) (hz : i.zero = some (.int .u8 0)) (hsize : i.size = 1) (hby : i.bytes = 1)
    (v : Value) (n : Nat) (xs : List Value) (hs : a.eval sl = v) (hown : w.ownsRow base e 1 v n xs) (s : ByteArray) (hx : a.eval x = .string s) (hbytes : n + s.size ≤ 140737488355328) (hbase : base ≤ w.heap.size)
    (h : ∀ v' w', w'.ownsRow base e 1 v' (n + s.size) (xs ++ strCells s) → w.grownBy w' v.ownBlock → (v'.ownBlock = v.ownBlock ∨ ∃ g, v'.ownBlock = some g ∧ w.heap.size ≤ g) → wpList P ops Q rest (a.put o.dst v') w') : wpList P ops Q (o :: rest) a w := by
  refine wpList_plain hgd fun K hK => ?_
  obtain ⟨v', w', hr, h2, h3, h4⟩ := append_str_run (P := P) w base t u o.type e i ht hu hi hz hsize hby v n xs hown s hbytes hbase
  unfold Oper.wp execOp
  simp only [ho, resolve, invoke, builtin, Sem.run_bind, Sem.run_pure, Result.andThen_ok, List.map_toArray, List.map_cons, List.map_nil, hs, hx, hr]
  exact hK _ _ (h v' w' h2 h3 h4)
theorem own_blk {w : World} {B e size n : Nat} {v : Value} {xs : List Value} (h : w.ownsRow B e size v n xs) : v.ownBlock = blk v := by
  rcases h.2 with ⟨rfl, _⟩ | ⟨g, cap, cur, rfl, _⟩ <;> rfl
set_option maxHeartbeats 2000000 in
set_option maxRecDepth 100000 in
/-- WriteString at a builder that holds so many bytes: its own blocks alone turn. -/
theorem writeStr (B b : Nat) (v : Value) (n : Nat) (bs : List Value) (p : Value) (s : ByteArray) (w : World) (hp : p = .pointer none ∨ p = .pointer (some ⟨b, 0, none⟩)) (hbk : w.heap[b]? = some (.cells #[p, v] 78 (0, 0))) (hown : w.ownsRow B 5 1 v n bs) (hne : blk v ≠ some b) (hlen : n + s.size ≤ 140737488355328) (hBw : B ≤ w.heap.size) :
    Calls Tryz.prog 42 #[.pointer (some ⟨b, 0, none⟩), .string s] w fun e w' => e = .returned (.tuple #[.int .i64 s.size, .nilIface]) ∧ ∃ v', w'.heap[b]? = some (.cells #[.pointer (some ⟨b, 0, none⟩), v'] 78 (0, 0)) ∧ w'.ownsRow B 5 1 v' (n + s.size) (bs ++ strCells s) ∧
      (blk v' = blk v ∨ ∃ g, blk v' = some g ∧ w.heap.size ≤ g) ∧ w'.os = w.os ∧ w'.tape = w.tape ∧ w'.output = w.output ∧ w.heap.size ≤ w'.heap.size ∧ ∀ k, k < w.heap.size → k ≠ b → blk v ≠ some k → w'.heap[k]? = w.heap[k]? := by
  obtain ⟨i0, hi, hii⟩ := Option.map_eq_some_iff.1 infB
  simp only [Prod.mk.injEq] at hii
  obtain ⟨hz0, hz1, hz2⟩ := hii
  have hlt : b < w.heap.size := (Array.getElem?_eq_some_iff.1 hbk).1
  have hcc : Calls Tryz.prog 59 #[.pointer (some ⟨b, 0, none⟩)] w fun e w' => e = .returned (.tuple #[]) ∧ w'.heap[b]? = some (.cells #[.pointer (some ⟨b, 0, none⟩), v] 78 (0, 0)) ∧ Turn w w' (some b) := by
    rcases hp with rfl | rfl
    · refine (copyFresh b w (by rw [cell_of_row w b 0 _ _ _ hbk]; rfl) (by unfold World.shape?; rw [hbk]; rfl) (by unfold World.frozen?; rw [hbk]; simp)).mono ?_
      rintro e w' ⟨rfl, rfl⟩
      refine ⟨rfl, ?_, cellB_turn b 0 _ w⟩
      simp [World.setCell, Array.getElem?_modify, hbk]
    · refine (copyUsed b w (by rw [cell_of_row w b 0 _ _ _ hbk]; rfl)).mono ?_
      rintro e w' ⟨rfl, rfl⟩
      exact ⟨rfl, hbk, rfl, rfl, rfl, Nat.le_refl _, fun _ _ _ => rfl⟩
  go_enter Tryz.func42, Tryz.ntmps42
  go_wp2_with (go_at_call 59; refine hcc.mono ?_)
  rintro e w1 ⟨rfl, hb1, ht1⟩
  have hown1 : w1.ownsRow B 5 1 v n bs := ownsRow_turn hown ht1 (fun g hg he => hne (by rw [hg, ← Option.some.inj he]))
  have c0 : w1.cell? ⟨b, 0, none⟩ = some (.pointer (some ⟨b, 0, none⟩)) := by rw [cell_of_row w1 b 0 _ _ _ hb1]; rfl
  have c1 : w1.cell? ⟨b, 1, none⟩ = some v := by rw [cell_of_row w1 b 1 _ _ _ hb1]; rfl
  go_wp2_with (at_builtin; refine wpList_append_str _ rfl _ _ 76 9 rfl B 5 i0 sliB strB hi hz0 hz1 hz2 _ _ _ rfl hown1 s rfl ?c4 ?c5 ?_)
  case c4 => omega
  case c5 => exact Nat.le_trans hBw ht1.size
  intro v' w2 hown' hgrow hnew
  rw [own_blk hown1] at hgrow hnew
  rw [own_blk hown'] at hnew
  have hb2 : w2.heap[b]? = some (.cells #[.pointer (some ⟨b, 0, none⟩), v] 78 (0, 0)) := by
    rw [hgrow.block b (Nat.lt_of_lt_of_le hlt ht1.size) (fun e => hne e.symm)]
    exact hb1
  have d0 : w2.cell? ⟨b, 0, none⟩ = some (.pointer (some ⟨b, 0, none⟩)) := by rw [cell_of_row w2 b 0 _ _ _ hb2]; rfl
  have d1 : w2.cell? ⟨b, 1, none⟩ = some v := by rw [cell_of_row w2 b 1 _ _ _ hb2]; rfl
  have f1 : w2.frozen? ⟨b, 1, none⟩ = false := by unfold World.frozen?; rw [hb2]; simp
  obtain ⟨ao, n', cap, rfl⟩ : ∃ ao n' cap, v' = .slice ao n' cap := by
    rcases hown'.2 with ⟨hv, _⟩ | ⟨g, cap, cur, hv, _⟩
    · exact ⟨_, _, _, hv⟩
    · exact ⟨_, _, _, hv⟩
  have hnb : blk (.slice ao n' cap) ≠ some b := by
    rcases hnew with h | ⟨g, h, h2⟩
    · rw [h]; exact hne
    · rw [h]
      intro he
      have := Option.some.inj he
      have := ht1.size
      omega
  go_wp2
  go_ret2
  have ht2 := cellB_turn b 1 (.slice ao n' cap) w2
  refine ⟨rfl, .slice ao n' cap, ?_, ?_, ?_, ?_⟩
  · simp [World.setCell, Array.getElem?_modify, hb2]
  · exact ownsRow_turn hown' ht2 (fun g hg he => hnb (by rw [hg, ← Option.some.inj he]))
  · rcases hnew with h | ⟨g, h, h2⟩
    · exact .inl h
    · exact .inr ⟨g, h, Nat.le_trans ht1.size h2⟩
  · refine ⟨ht2.os.trans (hgrow.os.trans ht1.os), ht2.tape.trans (hgrow.tape.trans ht1.tape), ht2.output.trans (hgrow.output.trans ht1.output), Nat.le_trans ht1.size (Nat.le_trans hgrow.size ht2.size), fun k hk hkb hkv => ?_⟩
    have hk1 := Nat.lt_of_lt_of_le hk ht1.size
    rw [ht2.block k (Nat.lt_of_lt_of_le hk1 hgrow.size) (fun e => hkb (by have := Option.some.inj e; omega)), hgrow.block k hk1 (fun e => hkv e.symm), ht1.block k hk (fun e => hkb (by have := Option.some.inj e; omega))]
end Go.Proofs.YtnapkooefpkicaaGreatDoor


namespace Go.Proofs
open Go.Shelf
def Tryz.l169_ren : Go.Shelf.Ren := ⟨fun | 169 => 44 | n => n, fun | 70 => 75 | 9 => 9 | 0 => 0 | 72 => 78 | 37 => 76 | 127 => 92 | 3 => 3 | 5 => 5 | n => n, fun | n => n⟩
theorem Tryz.l169 : Go.Proofs.Lays.n169 Tryz.prog Tryz.l169_ren := {
  mixed := by kernel_rfl
  f169 := Tryz.func44.trans (congrArg some (by kernel_rfl))
  t0 := Tryz.underlying0
  a0 := Tryz.isAgg0
  z0 := Tryz.sizeOf0
  v0 := Tryz.zeroValue0
  t3 := Tryz.underlying3
  a3 := Tryz.isAgg3
  z3 := Tryz.sizeOf3
  v3 := Tryz.zeroValue3
  t9 := Tryz.underlying9
  a9 := Tryz.isAgg9
  z9 := Tryz.sizeOf9
  v9 := Tryz.zeroValue9
  t37 := Tryz.underlying76
  a37 := Tryz.isAgg76
  z37 := Tryz.sizeOf76
  v37 := Tryz.zeroValue76
  t70 := Tryz.underlying75
  a70 := Tryz.isAgg75
  z70 := Tryz.sizeOf75
  v70 := Tryz.zeroValue75
  t72 := Tryz.underlying78
  a72 := Tryz.isAgg78
  z72 := Tryz.sizeOf78
  v72 := Tryz.zeroValue78
  t127 := Tryz.underlying92
  a127 := Tryz.isAgg92
  z127 := Tryz.sizeOf92
  v127 := Tryz.zeroValue92 }
def Tryz.l171_ren : Go.Shelf.Ren := ⟨fun | 171 => 40 | 243 => 58 | 246 => 81 | 283 => 97 | 284 => 98 | 285 => 99 | 286 => 100 | 129 => 108 | 317 => 107 | 318 => 109 | 319 => 110 | 320 => 111 | 337 => 115 | 338 => 116 | n => n, fun | 3 => 3 | 9 => 9 | 2 => 2 | 4 => 4 | 171 => 127 | 0 => 0 | 53 => 41 | 37 => 76 | 5 => 5 | 173 => 130 | 212 => 140 | 51 => 53 | 20 => 20 | 213 => 141 | 46 => 88 | 232 => 154 | 233 => 155 | n => n, fun | 17 => 3 | 18 => 6 | 19 => 7 | n => n⟩
theorem Tryz.l171 : Go.Proofs.LaysM.n171 Tryz.prog Tryz.l171_ren := {
  mixed := by kernel_rfl
  f129 := Tryz.func108.trans (congrArg some (by kernel_rfl))
  f171 := Tryz.func40.trans (congrArg some (by kernel_rfl))
  f243 := Tryz.func58.trans (congrArg some (by kernel_rfl))
  f246 := Tryz.func81.trans (congrArg some (by kernel_rfl))
  f283 := Tryz.func97.trans (congrArg some (by kernel_rfl))
  f284 := Tryz.func98.trans (congrArg some (by kernel_rfl))
  f285 := Tryz.func99.trans (congrArg some (by kernel_rfl))
  f286 := Tryz.func100.trans (congrArg some (by kernel_rfl))
  f317 := Tryz.func107.trans (congrArg some (by kernel_rfl))
  f318 := Tryz.func109.trans (congrArg some (by kernel_rfl))
  f319 := Tryz.func110.trans (congrArg some (by kernel_rfl))
  f320 := Tryz.func111.trans (congrArg some (by kernel_rfl))
  f337 := Tryz.func115.trans (congrArg some (by kernel_rfl))
  f338 := Tryz.func116.trans (congrArg some (by kernel_rfl))
  t0 := Tryz.underlying0
  a0 := Tryz.isAgg0
  z0 := Tryz.sizeOf0
  v0 := Tryz.zeroValue0
  t2 := Tryz.underlying2
  a2 := Tryz.isAgg2
  z2 := Tryz.sizeOf2
  v2 := Tryz.zeroValue2
  t3 := Tryz.underlying3
  a3 := Tryz.isAgg3
  z3 := Tryz.sizeOf3
  v3 := Tryz.zeroValue3
  t4 := Tryz.underlying4
  a4 := Tryz.isAgg4
  z4 := Tryz.sizeOf4
  v4 := Tryz.zeroValue4
  t5 := Tryz.underlying5
  a5 := Tryz.isAgg5
  z5 := Tryz.sizeOf5
  v5 := Tryz.zeroValue5
  t9 := Tryz.underlying9
  a9 := Tryz.isAgg9
  z9 := Tryz.sizeOf9
  v9 := Tryz.zeroValue9
  t20 := Tryz.underlying20
  a20 := Tryz.isAgg20
  z20 := Tryz.sizeOf20
  v20 := Tryz.zeroValue20
  t37 := Tryz.underlying76
  a37 := Tryz.isAgg76
  z37 := Tryz.sizeOf76
  v37 := Tryz.zeroValue76
  t46 := Tryz.underlying88
  a46 := Tryz.isAgg88
  z46 := Tryz.sizeOf88
  v46 := Tryz.zeroValue88
  t51 := Tryz.underlying53
  a51 := Tryz.isAgg53
  z51 := Tryz.sizeOf53
  v51 := Tryz.zeroValue53
  t53 := Tryz.underlying41
  a53 := Tryz.isAgg41
  z53 := Tryz.sizeOf41
  v53 := Tryz.zeroValue41
  t171 := Tryz.underlying127
  a171 := Tryz.isAgg127
  z171 := Tryz.sizeOf127
  v171 := Tryz.zeroValue127
  t173 := Tryz.underlying130
  a173 := Tryz.isAgg130
  z173 := Tryz.sizeOf130
  v173 := Tryz.zeroValue130
  t212 := Tryz.underlying140
  a212 := Tryz.isAgg140
  z212 := Tryz.sizeOf140
  v212 := Tryz.zeroValue140
  t213 := Tryz.underlying141
  a213 := Tryz.isAgg141
  z213 := Tryz.sizeOf141
  t232 := Tryz.underlying154
  a232 := Tryz.isAgg154
  z232 := Tryz.sizeOf154
  v232 := Tryz.zeroValue154
  t233 := Tryz.underlying155
  a233 := Tryz.isAgg155
  z233 := Tryz.sizeOf155
  v233 := Tryz.zeroValue155
  g17 := by kernel_rfl
  g18 := by kernel_rfl
  g19 := by kernel_rfl
  i0 := by kernel_rfl
  i2 := by kernel_rfl
  i3 := by kernel_rfl
  i4 := by kernel_rfl
  i5 := by kernel_rfl
  i9 := by kernel_rfl
  i20 := by kernel_rfl
  i37 := by kernel_rfl
  i46 := by kernel_rfl
  i51 := by kernel_rfl
  i53 := by kernel_rfl
  i171 := by kernel_rfl
  i173 := by kernel_rfl
  i212 := by kernel_rfl
  i232 := by kernel_rfl
  i233 := by kernel_rfl
  m17 := by kernel_rfl
  m18 := by kernel_rfl
  m19 := by kernel_rfl }
end Go.Proofs


namespace Go.Proofs.YtnapkooefpkicaaGreatDoor
open Go.RowKit Go.Shelf Go.Lib
set_option linter.unusedVariables false
set_option linter.unusedSimpArgs false

theorem repSL_two {F : Nat → Prop} {ρ : Nat → Value} {w : World} {vs : List Value} {id : Nat} {x : Value} {g : Nat} (hρ : ρ id = .pointer (some ⟨g, 0, none⟩)) (h : RepSL F ρ w vs [.ptr id 0, .d (.v x)]) : vs = [.pointer (some ⟨g, 0, none⟩), x] := by
  obtain ⟨a, b, rfl⟩ : ∃ a b, vs = [a, b] := by
    match vs, h.1 with
    | [a, b], _ => exact ⟨a, b, rfl⟩
  have h0 := h.2 0 (by simp) (by simp)
  have h1 := h.2 1 (by simp) (by simp)
  simp only [List.getElem_cons_zero, List.getElem_cons_succ] at h0 h1
  rw [ptr_at h0 (by rw [hρ]; rfl), repS_v h1]
theorem repSL_ptr {F : Nat → Prop} {ρ : Nat → Value} {w : World} {vs : List Value} {id : Nat} {g : Nat} (hρ : ρ id = .pointer (some ⟨g, 0, none⟩)) (h : RepSL F ρ w vs [.ptr id 0]) : vs = [.pointer (some ⟨g, 0, none⟩)] := by
  obtain ⟨a, rfl⟩ : ∃ a, vs = [a] := by
    match vs, h.1 with
    | [a], _ => exact ⟨a, rfl⟩
  have h0 := h.2 0 (by simp) (by simp)
  simp only [List.getElem_cons_zero] at h0
  rw [ptr_at h0 (by rw [hρ]; rfl)]
theorem BldW.ownId {B : Nat} {F : Nat → Prop} {ρ : Nat → Value} {w : World} {id r : Nat} {l : List UInt8} {g : Nat} (h : BldW B F ρ w id r l g) : ownB (Bld id r l) ρ g := ⟨_, .head _, by dsimp only; rw [h.ptr]; rfl⟩
theorem Bld.ownR {ρ : Nat → Value} {id r : Nat} {l : List UInt8} {k : Nat} (h : blk (ρ r) = some k) : ownB (Bld id r l) ρ k := ⟨_, .tail _ (.head _), h⟩
/-- b.WriteString(s) -/
theorem c_ws (id r : Nat) (hne : id ≠ r) (l : List UInt8) (s : ByteArray) (h0 : 0 < s.size) (hlen : l.length + s.size ≤ 140737488355328) :
    XCall Tryz.prog 42 [.ptr id 0, .d (.v (.string s))] (Bld id r l) (Bld id r (l ++ s.data.toList)) (fun i => Nat.beq i r) (.tup [.v (.int .i64 (s.size : Int)), .v .nilIface]) := by
  refine ⟨.of Tryz.func42 (by kernel_rfl) rfl, fun F ρ B w vs hF hB hσ hv => ?_⟩
  obtain ⟨g, hb⟩ := bldW_of hne hσ
  obtain rfl := repSL_two hb.ptr hv
  have hgl : g < w.heap.size := (Array.getElem?_eq_some_iff.1 hb.heap).1
  have h := writeStr B g (ρ r) l.length (byteCells l) _ s w (by split; exact .inl rfl; exact .inr rfl) hb.heap hb.own hb.ne hlen hB
  refine h.mono fun e' w' ⟨he, v', h1, h2, h3, h4, h5, h6, h7, h8⟩ => ?_
  have hsl : (l ++ s.data.toList).length = l.length + s.size := by rw [List.length_append]; rfl
  have hnl : ¬ l ++ s.data.toList = [] := fun e => by rw [e] at hsl; simp at hsl; omega
  obtain ⟨ρ', hρ⟩ : ∃ ρ' : Nat → Value, ρ' = fun j => if j = r then v' else ρ j := ⟨_, rfl⟩
  have hrr : ρ' r = v' := by rw [hρ]; exact if_pos rfl
  have hri : ρ' id = ρ id := by rw [hρ]; exact if_neg hne
  have hW : BldW B F ρ' w' id r (l ++ s.data.toList) g := by
    refine ⟨by rw [hri]; exact hb.ptr, hb.hB, hb.nF, by rw [hrr, if_neg hnl]; exact h1, ?_, ?_, fun b hbb => ?_⟩
    · rw [hrr, hsl, byteCells_append, ← strCells_eq]; exact h2
    · rw [hrr]
      rcases h3 with h3 | ⟨k, h3, h9⟩
      · rw [h3]; exact hb.ne
      · rw [h3]
        intro e
        have := Option.some.inj e
        omega
    · rw [hrr] at hbb
      rcases h3 with h3 | ⟨k, h3, h9⟩
      · rw [h3] at hbb; exact hb.nFr b hbb
      · rw [h3] at hbb
        have := Option.some.inj hbb
        intro hf
        have := hF b hf
        omega
  refine ⟨_, F, ρ', he, .tup [_, _] [_, _] rfl (fun i a b => by
    match i, a with
    | 0, _ => exact .v _
    | 1, _ => exact .v _), fun _ h => h, fun _ h => .inl h, fun b hf => Nat.lt_of_lt_of_le (hF b hf) h7, ⟨h4, h5, h6, h7, fun k hk hn => h8 k hk (fun e => hn (.inr (e ▸ hb.ownId))) (fun e => hn (.inr (Bld.ownR e)))⟩, hW.obs hne, fun p hp b hbb => ?_, fun i hi => ?_⟩
  · rcases List.mem_cons.1 hp with rfl | hp
    · dsimp only at hbb
      rw [hri, hb.ptr] at hbb
      simp [blk] at hbb
      subst hbb
      exact .inr hb.ownId
    · obtain rfl := List.mem_singleton.1 hp
      dsimp only at hbb
      rw [hrr] at hbb
      rcases h3 with h3 | ⟨k, h3, h9⟩
      · rw [h3] at hbb; exact .inr (Bld.ownR hbb)
      · rw [h3] at hbb
        have := Option.some.inj hbb
        exact .inl (by omega)
  · rw [hρ]; exact if_neg fun e => by rw [e] at hi; simp at hi
set_option maxHeartbeats 1000000 in
set_option maxRecDepth 100000 in
/-- String at a builder that holds something: its bytes are frozen. -/
theorem strOf (B b g cap : Nat) (p : Value) (l : List UInt8) (w : World) (h0 : l ≠ []) (hbk : w.heap[b]? = some (.cells #[p, .slice (some ⟨g, 0, none⟩) l.length cap] 78 (0, 0))) (cur : Array Value) (hg : w.heap[g]? = some (.cells cur 5 (0, 0))) (hnc : l.length ≤ cap) (hcm : cap ≤ maxLen) (hcs : cur.size = cap * 1)
    (hown : w.ownsRow B 5 1 (.slice (some ⟨g, 0, none⟩) l.length cap) l.length (byteCells l)) :
    Calls Tryz.prog 44 #[.pointer (some ⟨b, 0, none⟩)] w fun e w' => e = .returned (.string ⟨l.toArray⟩) ∧ w' = w.drew.freeze ⟨g, 0, none⟩ l.length := by
  have hl0 : l.length ≠ 0 := by simpa using h0
  have hmix : Tryz.prog.follows .mixedOrders = true := by kernel_rfl
  have c1 : w.drew.cell? ⟨b, 1, none⟩ = some (.slice (some ⟨g, 0, none⟩) l.length cap) := by
    rw [cell_of_row w.drew b 1 _ _ _ hbk]; rfl
  have hSD : (Builtin.unsafeSliceData_ #[76] 92 #[.slice (some ⟨g, 0, none⟩) l.length cap]).run Tryz.prog w.drew = .ok (.pointer (some ⟨g, 0, none⟩)) w.drew :=
    Lib.run_unsafeSliceData_row _ _ _ _ _ _ (by omega)
  have hUS : (Builtin.unsafeString_ #[92, 3] 9 #[.pointer (some ⟨g, 0, none⟩), .int .i64 l.length]).run Tryz.prog w.drew = .ok (.string ⟨l.toArray⟩) (w.drew.freeze ⟨g, 0, none⟩ l.length) := by
    refine Lib.run_unsafeString_row w.drew 92 3 9 5 (by kernel_rfl) (by kernel_rfl) g cur.size (by have hg' : w.drew.heap[g]? = some (.cells cur 5 (0, 0)) := hg; simp [World.shape?, hg']) l h0 (by omega) (by unfold maxLen at hcm; omega) ?_
    intro j x hx
    exact hown.cells (g := g) rfl j (.int .u8 x.toNat) (by simp [Lib.byteCells, hx])
  go_enter Tryz.func44, Tryz.ntmps44
  go_wp2
  go_region_o
  all_goals (go_wp2; go_ret; exact ⟨rfl, rfl⟩)
theorem freeze_turn (w : World) (g n : Nat) : Turn w (w.drew.freeze ⟨g, 0, none⟩ n) (some g) := by
  have hd : w.drew.heap = w.heap := rfl
  refine ⟨?_, ?_, ?_, ?_, fun k _ hk => ?_⟩
  · unfold World.freeze; split <;> rfl
  · unfold World.freeze; split <;> rfl
  · unfold World.freeze; split <;> rfl
  · unfold World.freeze; split
    · exact Nat.le_refl _
    · simp [hd]
  · have : g ≠ k := fun h => hk (by rw [h])
    unfold World.freeze; split
    · rfl
    · simp [Array.getElem?_modify, this, hd]
/-- b.String(), and the builder is used no more. -/
theorem c_bstr (id r : Nat) (hne : id ≠ r) (l : List UInt8) (h0 : l ≠ []) : XCall Tryz.prog 44 [.ptr id 0] (Bld id r l) [] (fun _ => false) (.v (.string ⟨l.toArray⟩)) := by
  refine ⟨.of Tryz.func44 (by kernel_rfl) rfl, fun F ρ B w vs hF hB hσ hv => ?_⟩
  obtain ⟨g, hb⟩ := bldW_of hne hσ
  obtain rfl := repSL_ptr hb.ptr hv
  have hbo := hb.own
  have hbh := hb.heap
  rcases hb.own.2 with ⟨_, h2⟩ | ⟨k, cap, cur, h2, h3, h4, h5, h6, h7, _⟩
  · exact absurd (List.eq_nil_of_length_eq_zero h2) h0
  · rw [h2] at hbo hbh
    refine (strOf B g k cap _ l w h0 hbh cur h4 h5 h6 h7 hbo).mono fun e' w' ⟨he, hw⟩ => ?_
    have ht : Turn w w' (some k) := hw ▸ freeze_turn w k l.length
    exact ⟨_, F, ρ, he, .v _, fun _ h => h, fun _ h => .inl h, fun b hf => Nat.lt_of_lt_of_le (hF b hf) ht.size, ⟨ht.os, ht.tape, ht.output, ht.size, fun j hj hn => ht.block j hj (fun e => hn (.inr (Bld.ownR (by rw [h2]; have := Option.some.inj e; subst this; rfl))))⟩, ⟨fun p hp => (nomatch hp), fun p hp => (nomatch hp), fun p hp => (nomatch hp)⟩, fun p hp => (nomatch hp), fun _ _ => rfl⟩
section
variable {cx : Cx} {ops : Array Oper} {o : Oper} {rest : List Oper} {e : Env} {σ : Obs} {Q : Post}
/-- var b strings.Builder -/
theorem AOps.allocB {dst : Nat} (id r : Nat) (hne : id ≠ r) (hP : cx.P = Tryz.prog) (hg : o.guard = none) (ht : o.dst = some dst) (hdn : Nat.blt dst cx.N = true) (ho : o.op = .alloc 78) (hid : Obs.fresh id σ = true) (hidr : Obs.fresh r σ = true)
    (k : AOps cx ops rest (((e.kill r).kill id).put (some dst) (.ptr id 0)) ((id, .cellsT 78 [bP [] id, .own r]) :: (r, .row 5 1 (([] : List UInt8).map u8D)) :: Obs.kill id (Obs.kill r σ)) Q) (hfx : cx.free id = true := by rfl) (hfr : cx.free r = true := by rfl) : AOps cx ops (o :: rest) e σ Q := by
  intro a w ⟨F, ρ, hr⟩
  -- the empty row
  have h1 := hr.turn (ρ' := fun j => if j = r then .slice none 0 0 else ρ j) (id := r) (ob := .row 5 1 []) (row := none) (w' := w) (F' := F) (fun j hj => by simp [hj])
    ⟨rfl, rfl, rfl, Nat.le_refl _, fun _ _ _ => rfl⟩ hfr (fun g hg => by simp at hg) (fun b hb => hb) (fun b hb => .inl hb) hr.lt
    ⟨fun _ _ => undef, by simp [World.ownsRow], fun i hi => by simp at hi, fun i hi => by simp at hi, fun g hg => by simp [blk] at hg⟩ (fun g hg => by simp [blk] at hg) ((r, .row 5 1 []) :: Obs.kill r σ) (fun p hp => by
      cases hp with
      | head => exact .inl rfl
      | tail _ hp => obtain ⟨q, hq, rfl⟩ := Obs.mem_kill hp; exact .inr ⟨q, hq, Obs.fresh_spec hidr q hq, rfl⟩)
  have hE : Ext F w F (w.alloc (.cells #[.pointer none, .slice none 0 0] 78)) := Ext.of_below hr.lt ((Below.refl _ _).alloc (Nat.le_refl _) _)
  have h2 := h1.turn (ρ' := fun j => if j = id then .pointer (some ⟨w.heap.size, 0, none⟩) else (fun j => if j = r then Value.slice none 0 0 else ρ j) j) (id := id) (ob := .cellsT 78 [bP [] id, .own r]) (row := none) (w' := w.alloc (.cells #[.pointer none, .slice none 0 0] 78)) (F' := F) (fun j hj => by simp [hj])
    ⟨hE.below.os, hE.below.tape, hE.below.output, hE.below.size, fun k hk _ => hE.below.block k hk⟩ hfx (fun g hg => by simp at hg) (fun b hb => hb) (fun b hb => .inl hb) hE.lt
    ⟨w.heap.size, [.pointer none, .slice none 0 0], by simp, hr.hB, fun hf => by have := hr.lt _ hf; omega, by simpa using heap_alloc_new w _, rfl, fun j hj hj' => by
      match j, hj with
      | 0, _ => exact ⟨rfl, .d (.v _)⟩
      | 1, _ =>
        refine ⟨rfl, ?_⟩
        have := RepS.own (F := F) (ρ := fun j => if j = id then Value.pointer (some ⟨w.heap.size, 0, none⟩) else (fun j => if j = r then Value.slice none 0 0 else ρ j) j) (w := w.alloc (.cells #[.pointer none, .slice none 0 0] 78)) r
        simpa [Ne.symm hne] using this⟩
    (fun g hg => by simp [blk] at hg; exact .inr (by omega)) ((id, .cellsT 78 [bP [] id, .own r]) :: (r, .row 5 1 (([] : List UInt8).map u8D)) :: Obs.kill id (Obs.kill r σ)) (fun p hp => by
      cases hp with
      | head => exact .inl rfl
      | tail _ hp =>
        cases hp with
        | head => exact .inr ⟨(r, .row 5 1 []), .head _, Ne.symm hne, rfl⟩
        | tail _ hp =>
          obtain ⟨q, hq, rfl⟩ := Obs.mem_kill hp
          obtain ⟨q2, hq2, rfl⟩ := Obs.mem_kill hq
          exact .inr ⟨(q2.1, q2.2.kill r), .tail _ hq, Obs.fresh_spec hid q2 hq2, rfl⟩)
  have h3 := h2.put (o := ⟨some dst, .ready 0, 0, "", #[], none⟩) (v := .pointer (some ⟨w.heap.size, 0, none⟩)) (s := .ptr id 0) (Ext.refl h2.lt) (.ptr id 0 w.heap.size (by simp [blk])) (by simpa [DstOk, Nat.blt_eq] using hdn)
  refine wpList_plain hg fun K hK => ?_
  have hz : (Tryz.prog.info? 78).bind (·.zero) = some (.agg #[.pointer none, .slice none 0 0]) := by kernel_rfl
  obtain ⟨i, hi, hzz⟩ := Option.bind_eq_some_iff.1 hz
  have hprog : (program : Sem Program).run cx.P w = .ok cx.P w := rfl
  rw [← hP] at hi
  unfold Oper.wp execOp
  simp only [ho, Instr.alloc, Sem.run_bind, zeroValue, typeInfo, hprog, Result.andThen_ok, hi, Sem.run_pure, hzz, newVar, newRow]
  have := k _ _ ⟨F, _, h3⟩
  rw [← ht] at this
  exact hK _ _ this
end
/-! ## strconv.Itoa -/
def itoaB (n : Int) : ByteArray := ⟨(Lib.itoa n).toArray⟩
def TabI (w : World) : Prop := Lib.TabIs Tryz.prog w "internal/strconv.uint64pow10" .u64 Lib.pow10Tab
theorem c_itoa (n : Int) (h0 : -9223372036854775808 ≤ n) (h1 : n ≤ 9223372036854775807) : ACallT Tryz.prog TabI 40 [.v (.int .i64 n)] (.v (.string (itoaB n))) :=
  ⟨.of Tryz.func40 (by kernel_rfl) rfl, fun F w vs hT hF hv => by
    rw [repL_v (us := [.int .i64 n]) hv]
    have h := Any.strconv_Itoa Tryz.l171 n h0 h1 w hT
    change Calls Tryz.prog 40 #[.int .i64 n] w _ at h
    refine h.mono fun e w' ⟨h1, k, os, h2⟩ => ?_
    subst h2
    exact ⟨_, F, h1, .v _, Ext.of_below hF ⟨rfl, rfl, rfl, by show w.heap.size ≤ (w.heap ++ os).size; rw [Array.size_append]; omega, fun i hi => by show (w.heap ++ os)[i]? = _; rw [Array.getElem?_append_left hi]⟩⟩⟩
/-! ## A fact about one block, inside calls that write what the caller owns -/
/-- What is so stays so while the block is what it was. -/
def StaysAt (g : Nat) (T : World → Prop) : Prop := (∀ w, T w → g < w.heap.size) ∧ ∀ w w', w'.heap[g]? = w.heap[g]? → T w → T w'
theorem StaysAt.stays {g : Nat} {T : World → Prop} (h : StaysAt g T) : Stays T := fun w w' k hT => h.2 w w' (k.block g (h.1 w hT) (by have := h.1 w hT; omega)) hT
abbrev gTabI : Nat := 3
theorem itoaB_size {n : Int} (h0 : -9223372036854775808 ≤ n) (h1 : n ≤ 9223372036854775807) : (itoaB n).size ≤ 21 := by
  have := Lib.itoa_length_le n h0 h1
  show (Lib.itoa n).toArray.size ≤ 21
  simpa using this
theorem tabI_at : StaysAt gTabI TabI := by
  have hg : Tryz.prog.globalNamed "internal/strconv.uint64pow10" = some 3 := by kernel_rfl
  refine ⟨fun w h => ?_, fun w w' k h => ?_⟩
  · unfold TabI Lib.TabIs World.var? at h
    rw [hg] at h
    rcases Nat.lt_or_ge 3 w.heap.size with hl | hl
    · exact hl
    · simp only [Option.bind_some] at h
      rw [Array.getElem?_eq_none hl] at h; cases h
  · unfold TabI Lib.TabIs World.var? at h ⊢
    rw [hg] at h ⊢
    simp only [Option.bind_some] at h ⊢
    rw [k]; exact h
/-- T is so where cx begins, and its block is none that cx may write. -/
structure TC (g : Nat) (T : World → Prop) (cx : Cx) : Prop where
  at_ : StaysAt g T
  so : T cx.w0
  fr : ¬ cx.fr g
theorem TC.now {g : Nat} {T : World → Prop} {cx : Cx} (h : TC g T cx) {w : World} (k : Kept cx.fr cx.w0 w) : T w := h.at_.2 _ _ (k.block g (h.at_.1 _ h.so) h.fr) h.so
theorem TC.of {g : Nat} {T : World → Prop} {P : Program} {n B : Nat} {w0 : World} {F0 : Nat → Prop} {fx : Nat → Bool} {ρ0 : Nat → Value} (h : StaysAt g T) (hT : T w0) : TC g T ⟨P, n, B, w0, F0, fun b => w0.heap.size ≤ b, fx, ρ0⟩ := ⟨h, hT, fun k => by have := h.1 _ hT; omega⟩
theorem AOps.callTC {cx : Cx} {ops : Array Oper} {o : Oper} {rest : List Oper} {e : Env} {σ : Obs} {Q : Post} {g : Nat} {T : World → Prop} {f : FuncId} {xs : List Operand} {ts : Array TypeId} {ds : List D} {d : D} (hg : GW ops o e true) (hd : DstOk cx.N o)
    (ho : o.op = .call { callee := .value (.func f), args := xs.toArray, argTypes := ts }) (hT : TC g T cx) (ha : ArgsOk e xs ds) (h : ACallT cx.P T f ds d)
    (k : AOps cx ops rest (e.put o.dst (.d d)) σ Q) : AOps cx ops (o :: rest) e σ Q := by
  intro a w ⟨F, ρ, hr⟩
  have hw := hg.wanted (fun t _ => hr.env t)
  have h1 : RepL F w (xs.map a.eval) ds := ha.rep (ρ := ρ) fun t _ => hr.env t
  have h2 := h.2 F w _ (hT.now hr.below) hr.lt h1
  have h3 := h.1 (xs.map a.eval).toArray w
  have hx : (execOp a.eval o).run cx.P w = .ok (.enter f (xs.map a.eval).toArray) w := by
    unfold execOp
    simp only [ho, resolve, Deferred.ofValue, Act.eval, invoke, Sem.run_bind, Sem.run_pure, Result.andThen_ok]
    simpa using h3
  unfold wpList
  rw [if_pos hw]
  refine .inl ?_
  unfold Oper.wp
  rw [hx]
  refine h2.mono fun _ w' ⟨v, F', he, hv, hE⟩ => ?_
  subst he
  exact k _ _ ⟨F', ρ, hr.put hE (.d hv) hd⟩
theorem AOpK.callTC {cx : Cx} {ops : Array Oper} {o : Oper} {e : Env} {σ : Obs} {g : Nat} {T : World → Prop} {f : FuncId} {xs : List Operand} {ts : Array TypeId} {ds : List D} {d : D} (hT : TC g T cx)
    (ho : o.op = .call { callee := .value (.func f), args := xs.toArray, argTypes := ts }) (ha : ArgsOk e xs ds) (h : ACallT cx.P T f ds d) : AOpK cx ops o e σ (.d d) := by
  intro F ρ w a hK hF hr _
  have h1 : RepL F w (xs.map a.eval) ds := ha.rep (ρ := ρ) fun t ht => hr t (looks_op (by rw [ho]; simp [Op.operands, Call.operands, ht]))
  have h2 := h.2 F w _ (hT.now hK) hF h1
  have h3 := h.1 (xs.map a.eval).toArray w
  have hx : (execOp a.eval o).run cx.P w = .ok (.enter f (xs.map a.eval).toArray) w := by
    unfold execOp
    simp only [ho, resolve, Deferred.ofValue, Act.eval, invoke, Sem.run_bind, Sem.run_pure, Result.andThen_ok]
    simpa using h3
  unfold Oper.wp
  rw [hx]
  exact h2.mono fun _ w' ⟨v, F', he, hv, hE⟩ => by subst he; exact ⟨v, F', rfl, .d hv, hE⟩
/-- A region that draws its order, whose operations from k on wait for all before them: in the order of the text. -/
theorem AWP.drawTailK {cx : Cx} {id : Nat} {l : List Oper} {e : Env} {σ : Obs} {Q : Post} (k : Nat) (hm : cx.P.follows .mixedOrders = true) (hB : Region.lexB .any (l.take k).toArray = true) (hC : Region.chainB l.toArray k = true)
    (h : KRun cx (l.take k).toArray σ (l.take k) e (fun e => AOps cx l.toArray (l.drop k) e σ Q)) : AWP cx (.region id l.toArray true) e σ Q := by
  intro a w ⟨F, ρ, hr⟩
  simp only [Region.lexB, Bool.and_eq_true] at hB
  have hch := Chain.of hC
  have hkl : k ≤ l.length := by simpa using hch.le
  have h1 := anyK_lex (l.take k) 0 (Array.replicate (l.take k).toArray.size false) e (by simp) (by simpa using hB.2) h
  have h2 := wpAny_of_K (cx := cx) (ops := (l.take k).toArray) (Q := fun ex e σ => match ex with | .normal => AOps cx l.toArray (l.drop k) e σ Q | _ => False) (by simpa using KRun.dsts _ e h) _ _ e a _ ⟨F, ρ, hr.drew⟩ h1
  refine wp_region_any hm (wpAny_split hch (ops0 := (l.take k).toArray) (by simp; omega) (fun j hj => by simp [hj]) ?_ ?_ (l.take k).length _ _ _ _ _ (by simp; omega) (by simp) ?_ ?_ ?_ (by simp; omega) h2)
  · rintro a w ⟨e, σ, h3, h4⟩
    have := h3 a w h4
    simpa using this
  · rintro ex a w hne ⟨e, σ, h3, _⟩
    cases ex <;> first | exact absurd rfl hne | exact h3.elim
  · intro j hj d
    have h5 : j < l.length := by omega
    have h6 : j < min k l.length := by omega
    simp [Array.getD_eq_getD_getElem?, h5, h6]
  · intro j hj hj2
    have : j < l.length := by simpa using hj2
    simp [Array.getD_eq_getD_getElem?, this]
  · intro i o ho hi
    have : i < l.length := by simpa using (Array.getElem?_eq_some_iff.1 ho).1
    simp [Array.getD_eq_getD_getElem?, this] at hi
/-- Such a call, where T is so and its block is none of the caller's. -/
def XCallT (P : Program) (g : Nat) (T : World → Prop) (f : FuncId) (ss : List S) (σ σ' : Obs) (chg : Nat → Bool) (d : D) : Prop := Enters P f ∧
  ∀ (F : Nat → Prop) (ρ : Nat → Value) (B : Nat) (w : World) (vs : List Value), T w → ¬ ownB σ ρ g → (∀ b, F b → b < w.heap.size) → B ≤ w.heap.size → ObsOk B F ρ w σ → RepSL F ρ w vs ss →
    Calls P f vs.toArray w fun e w' => ∃ v F' ρ', e = .returned v ∧ Rep F' w' v d ∧ XEnd B F ρ w σ F' ρ' w' σ' chg
theorem xcallT_of {g : Nat} {T : World → Prop} {P : Program} {f : FuncId} {fn : Func} {c : Code} {n : Nat} {ss : List S} {σ σ' : Obs} {chg : Nat → Bool} {ds' : List D} (hf : P.funcs[f]? = some fn) (hb : fn.body = some c) (hn : (fn.name == "runtime.NumGoroutine") = false) (hN : fn.ntmps = n)
    (ts : List Nat) (hr : fn.results = (ts.map ResultVar.tmp).toArray) (hle' : Nat.ble ss.length n = true)
    (hs : StaysAt g T) (h : ∀ B w0 F0 fr ρ0, TC g T ⟨P, n, B, w0, F0, fr, fun i => !(chg i), ρ0⟩ → AWP ⟨P, n, B, w0, F0, fr, fun i => !(chg i), ρ0⟩ c (Env.argsS 0 ss) σ (RetX ts ds' σ')) : XCallT P g T f ss σ σ' chg (retOf ds') := by
  have hle : ss.length ≤ n := Nat.le_of_ble_eq_true hle'
  refine ⟨Enters.of hf hn (by rw [hb]; rfl), fun F ρ B w vs hT hgo hF hB hσ hv => ?_⟩
  refine calls_of_wp hf hb ?_
  have hR : R ⟨P, n, B, w, F, (fun b => w.heap.size ≤ b ∨ ownB σ ρ b), fun i => !(chg i), ρ⟩ (Env.argsS 0 ss) σ { tmps := vs.toArray ++ Array.replicate (fn.ntmps - vs.toArray.size) undef, defers := [] } w := by
    refine ⟨F, ρ, ?_, rfl, hF, fun b hb => hb, fun b hb => .inl hb, Kept.refl _ _, hB, fun t => ?_, hσ, fun b hb => .inl hb, fun p hp g hg => .inr ⟨p, hp, hg⟩, fun i _ => rfl⟩
    · simp [hN, hv.1]; omega
    · by_cases ht : t < ss.length
      · have := Env.argsS_get ss 0 t ht
        rw [Nat.zero_add] at this
        rw [this]
        have hvt : t < vs.length := by rw [hv.1]; exact ht
        have : (vs.toArray ++ Array.replicate (fn.ntmps - vs.toArray.size) undef).getD t undef = vs[t] := by
          rw [Array.getD_eq_getD_getElem?, Array.getElem?_append_left (by simpa using hvt)]
          simp [hvt]
        rw [this]
        exact hv.2 t hvt ht
      · have := Env.argsS_out ss 0 t (by omega)
        rw [Nat.zero_add] at this
        rw [this]
        exact .d (.any _)
  refine wp_mono (h _ _ _ _ _ ⟨hs, hT, fun k => k.elim (fun k => by have := hs.1 _ hT; omega) hgo⟩ _ _ hR) ?_
  rintro ex a w' ⟨e', σe, hq, F', ρ', hr'⟩
  have hres : (results fn a.tmps).run P w' = .ok (match ts.map fun t => a.tmps.getD t undef with | [x] => x | l => .tuple l.toArray) w' := by
    have key : ∀ (ts : List Nat), (List.mapM (fun r => match r with | .tmp t => pure (a.tmps.getD t undef) | .cell b t => do loadVar t (← asAddr (a.tmps.getD b undef))) (ts.map ResultVar.tmp) : Sem (List Value)).run P w' = .ok (ts.map fun t => a.tmps.getD t undef) w' := by
      intro ts
      induction ts with
      | nil => rfl
      | cons t ts ih =>
        rw [List.map_cons, List.mapM_cons, Sem.run_bind]
        simp only [Sem.run_pure, Result.andThen_ok, Sem.run_bind, ih, List.map_cons]
    unfold results
    rw [hr, Sem.run_bind]
    have h2 : (Array.mapM (fun r => match r with | ResultVar.tmp t => pure (a.tmps.getD t undef) | ResultVar.cell b t => do loadVar t (← asAddr (a.tmps.getD b undef))) (ts.map ResultVar.tmp).toArray : Sem (Array Value)).run P w' = .ok (ts.map fun t => a.tmps.getD t undef).toArray w' := by
      rw [List.mapM_toArray, Sem.run_map, key]
      rfl
    have h3 := h2
    refine (congrArg (fun r => Result.andThen r _) h3).trans ?_
    simp only [Result.andThen_ok]
    rcases ts with _ | ⟨t, _ | ⟨t2, ts⟩⟩ <;> rfl
  have hends : RetLX e' σe σ' ts ds' ∧ AllIn σe σ' → bodyPost P fn (fun e w' => ∃ v F' ρ', e = .returned v ∧ Rep F' w' v (retOf ds') ∧ XEnd B F ρ w σ F' ρ' w' σ' chg) .ret a w' := by
    rintro ⟨hq, hin⟩
    have hl := hq.rep hr'
    have hin := hin.mem
    refine ⟨hr'.defers, _, hres, _, endFX F' ρ' σe σ', ρ', rfl, ?_, ?_⟩
    · generalize (ts.map fun t => a.tmps.getD t undef) = vs' at hl
      obtain ⟨h1, h2⟩ := hl
      rcases ds' with _ | ⟨d, _ | ⟨d2, ds'⟩⟩
      · have : vs' = [] := List.eq_nil_of_length_eq_zero h1
        subst this
        exact .tup [] [] rfl (fun i h1 => absurd h1 (by simp))
      · rcases vs' with _ | ⟨x, _ | ⟨y, vs'⟩⟩ <;> simp at h1
        exact h2 0 (by simp) (by simp)
      · rcases vs' with _ | ⟨x, _ | ⟨y, vs'⟩⟩
        · simp at h1
        · simp at h1
        · exact .tup _ _ h1 h2
    · have hlt : ∀ b, endFX F' ρ' σe σ' b → b < w'.heap.size := by
        rintro b (hb | ⟨p, hp, _, hb⟩)
        · exact hr'.lt b hb
        · exact ((hr'.obs.ok p hp).blk_lt hb).2
      refine ⟨fun b hb => .inl (hr'.base b hb), ?_, hlt, hr'.below, ⟨fun p hp => ?_, fun p hp q hq => hr'.obs.apart p (hin p hp) q (hin q hq), fun p hp q hq => hr'.obs.uniq p (hin p hp) q (hin q hq)⟩, fun p hp => hr'.kown p (hin p hp), fun i hi => hr'.fixed i (by show (!(chg i)) = true; rw [hi]; rfl)⟩
      · rintro b (hb | ⟨p, hp, _, hb⟩)
        · exact hr'.new b hb
        · exact .inr (hr'.kown p hp b hb)
      · refine (hr'.obs.ok p (hin p hp)).more hr'.lt (fun b hb => .inl hb) ?_
        rintro g hg (hf | ⟨q, hq, hne, hb⟩)
        · exact (hr'.obs.ok p (hin p hp)).nF hg hf
        · exact hr'.obs.apart p (hin p hp) q hq (hne p hp) g hg hb
  cases ex with
  | ret => exact hends hq
  | normal => exact hends hq
  | exit id => exact hq.elim
  | goto l => exact hq.elim
  | panic c => exact hq.elim
  | outgrown => exact hq.elim

section
variable {cx : Cx} {ops : Array Oper} {o : Oper} {rest : List Oper} {e : Env} {σ : Obs} {Q : Post}
theorem AOps.callXT {g : Nat} {T : World → Prop} {f : FuncId} {xs : List Operand} {ts : Array TypeId} {ss : List S} {σc σ' : Obs} {chg : Nat → Bool} {d : D} (hg : o.guard = none) (hd : DstOk cx.N o)
    (ho : o.op = .call { callee := .value (.func f), args := xs.toArray, argTypes := ts }) (hT : TC g T cx) (ha : ArgsS e xs ss) (h : XCallT cx.P g T f ss σc σ' chg d) (hin : AllIn σ σc)
    (h1 : Obs.allIds (fun i => !(chg i)) (Obs.dels σc σ) = true) (h2 : Obs.allIds (fun i => Obs.allIds (fun j => !(Nat.beq i j)) (Obs.dels σc σ)) σ' = true) (h3 : ∀ i, chg i = true → cx.fixp i = false)
    (k : AOps cx ops rest ((e.killP chg).put o.dst (.d d)) (Obs.join σ' (Obs.killP chg (Obs.dels σc σ))) Q) : AOps cx ops (o :: rest) e σ Q := by
  intro a w ⟨F, ρ, hr⟩
  have h4 := h.2 F ρ cx.B w _ (hT.now hr.below) (fun ⟨p, hp, hb⟩ => hT.fr (hr.kown p (hin.mem p hp) g hb)) hr.lt hr.hB (hr.obs.sub hin.mem) (ArgsS.rep hr.env ha)
  have h5 := h.1 (xs.map a.eval).toArray w
  have hx : (execOp a.eval o).run cx.P w = .ok (.enter f (xs.map a.eval).toArray) w := by
    unfold execOp
    simp only [ho, resolve, Deferred.ofValue, Act.eval, invoke, Sem.run_bind, Sem.run_pure, Result.andThen_ok]
    simpa using h5
  refine wpList_plain hg fun K hK => ?_
  unfold Oper.wp
  rw [hx]
  refine h4.mono fun _ w' ⟨v, F', ρ', he, hv, hE⟩ => ?_
  subst he
  exact hK _ _ (k _ _ ⟨F', ρ', (hr.after hin.mem hE h1 h2 h3).put (Ext.refl hE.lt) (.d hv) hd⟩)
/-- A call of such a closure. -/
theorem AOps.callXCT {g : Nat} {T : World → Prop} {f : FuncId} {x : Operand} {caps : List Cap} {xs : List Operand} {ts : Array TypeId} {ss : List S} {σc σ' : Obs} {chg : Nat → Bool} {d : D} (hg : o.guard = none) (hd : DstOk cx.N o)
    (ho : o.op = .call { callee := .value x, args := xs.toArray, argTypes := ts }) (hx : e.ev x = .clo f caps) (hT : TC g T cx) (ha : ArgsS e xs ss) (h : XCallT cx.P g T f (ss ++ caps.map Cap.toS) σc σ' chg d) (hin : AllIn σ σc)
    (h1 : Obs.allIds (fun i => !(chg i)) (Obs.dels σc σ) = true) (h2 : Obs.allIds (fun i => Obs.allIds (fun j => !(Nat.beq i j)) (Obs.dels σc σ)) σ' = true) (h3 : ∀ i, chg i = true → cx.fixp i = false)
    (k : AOps cx ops rest ((e.killP chg).put o.dst (.d d)) (Obs.join σ' (Obs.killP chg (Obs.dels σc σ))) Q) : AOps cx ops (o :: rest) e σ Q := by
  intro a w ⟨F, ρ, hr⟩
  have hc := ev_rep (e := e) (x := x) (a := a) (fun t _ => hr.env t)
  rw [hx] at hc
  generalize hv : a.eval x = v at hc
  cases hc with
  | clo _ cs _ hcs =>
    have h4 := h.2 F ρ cx.B w _ (hT.now hr.below) (fun ⟨p, hp, hb⟩ => hT.fr (hr.kown p (hin.mem p hp) g hb)) hr.lt hr.hB (hr.obs.sub hin.mem) ((ArgsS.rep hr.env ha).append hcs.toS)
    have h5 := h.1 (xs.map a.eval ++ cs).toArray w
    have hx : (execOp a.eval o).run cx.P w = .ok (.enter f (xs.map a.eval ++ cs).toArray) w := by
      unfold execOp
      simp only [ho, resolve, Deferred.ofValue, hv, invoke, Sem.run_bind, Sem.run_pure, Result.andThen_ok]
      simpa using h5
    refine wpList_plain hg fun K hK => ?_
    unfold Oper.wp
    rw [hx]
    refine h4.mono fun _ w' ⟨v, F', ρ', he, hv, hE⟩ => ?_
    subst he
    exact hK _ _ (k _ _ ⟨F', ρ', (hr.after hin.mem hE h1 h2 h3).put (Ext.refl hE.lt) (.d hv) hd⟩)
end
end Go.Proofs.YtnapkooefpkicaaGreatDoor


namespace Go.Proofs.YtnapkooefpkicaaGreatDoor
open Go.RowKit
set_option linter.unusedVariables false

theorem low4 (z : Int) (h0 : 0 ≤ z) (h1 : z < 18446744073709551616) : bits .and .u64 z 15 = z % 16 := by go_bits2
theorem enc_low {n : Nat} (h : n < 128) : Utf8.encode (n : Int) = ⟨#[UInt8.ofNat n]⟩ := by
  have hv : Utf8.valid (n : Int) = true := by unfold Utf8.valid; simp; omega
  unfold Utf8.encode
  simp only [hv, if_true]
  rw [Int.toNat_natCast, if_pos (by omega)]
section
variable {P : Program} {B : Nat} {ops : Array Oper} {o : Oper} {e : Env} {σ : Obs}
/-- a >> n -/
theorem AOp.shrU {t ty : TypeId} {x y : Operand} {a n : Int} {k : IntKind} (ho : o.op = .binOp .shr t x y ty) (hx : e.ev x = .d (.v (.int .u64 a))) (hy : e.ev y = .d (.v (.int k n))) (h0 : 0 ≤ n) (h1 : n ≤ 64) : AOp P B ops o e σ (.d (.v (.int .u64 (a / 2 ^ n.toNat)))) :=
  .bin ho hx hy fun w => by
  rw [Sem.run_bind, eqGuard_int]
  simp only [Result.andThen_ok, binOp, Op.shift]
  rw [if_neg (by omega)]
  have hb : IntKind.u64.bits = 64 := by decide
  have h2 : Min.min n.toNat IntKind.u64.bits = n.toNat := by rw [hb]; omega
  rw [h2]
  simp only [Sem.run_pure]
  congr 3
  exact Int.fdiv_eq_ediv_of_nonneg _ (Int.le_of_lt (Int.pow_pos (by decide)))
/-- a & 15 -/
theorem AOp.and15 {t ty : TypeId} {x y : Operand} {a : Int} (ho : o.op = .binOp .and t x y ty) (hx : e.ev x = .d (.v (.int .u64 a))) (hy : e.ev y = .d (.v (.int .u64 15))) (h0 : 0 ≤ a) (h1 : a < 18446744073709551616) : AOp P B ops o e σ (.d (.v (.int .u64 (a % 16)))) := by
  rw [← low4 a h0 h1]
  exact .bin ho hx hy fun w => by
    rw [Sem.run_bind, eqGuard_int]
    simp only [Result.andThen_ok, binOp]
    rfl
/-- string(c) of a byte below 128 -/
theorem AOp.byteStr {s t : TypeId} {x : Operand} {n : Nat} {d : TypeDesc} (ho : o.op = .convert s t x) (hs : P.underlying s = some d) (ht : P.underlying t = some .string) (hx : e.ev x = .d (.v (.int .u8 (n : Int)))) (hn : n < 128) : AOp P B ops o e σ (.d (.v (.string ⟨#[UInt8.ofNat n]⟩))) :=
  .value fun F ρ w a hF hr _ => by
  have h1 := hr x (by rw [ho]; simp [Op.operands])
  rw [hx] at h1
  refine ⟨_, F, w, ?_, .d (.v _), Ext.refl hF⟩
  unfold execOp
  simp only [ho, repS_v h1, convert, Sem.run_bind, run_underlying hs, run_underlying ht, Result.andThen_ok]
  rw [← enc_low hn]
  cases d <;> rfl
end
end Go.Proofs.YtnapkooefpkicaaGreatDoor


namespace Go.Proofs.YtnapkooefpkicaaGreatDoor
open Go.RowKit

/-- The root of sums. -/
noncomputable def rootN (s : List Nat) : Nat := open Classical in if s = [] then mseed else if h : ∃ m, IsTop s m then (rowAt s h.choose).getD 0 0 else 0
theorem rootN_nil : rootN [] = mseed := by unfold rootN; rw [if_pos rfl]
theorem rootN_top {s : List Nat} {m : Nat} (h0 : 0 < s.length) (h : IsTop s m) : rootN s = (rowAt s m).getD 0 0 := by
  have hne : s ≠ [] := fun e => by rw [e] at h0; simp at h0
  have hex : ∃ m, IsTop s m := ⟨m, h⟩
  unfold rootN
  rw [if_neg hne, dif_pos hex, hex.choose_spec.uniq h]
theorem rootN_lt (s : List Nat) : rootN s < 18446744073709551616 := by
  unfold rootN
  split
  · exact mseed_lt
  · split
    · exact (rowAt_words s _).getD 0
    · omega
theorem acall_sums {P : Program} {f : FuncId} {l : List Nat} {y : Value} (he : Enters P f) (h : ∀ w v, Sl w 1 v l.length (u32s l) → Calls P f #[v] w fun e w' => e = .returned y ∧ Below w.heap.size w w') : ACall P f [.sl (l.map u32D)] (.v y) :=
  ⟨he, fun F w vs hF hv => by
    obtain ⟨v, rfl⟩ : ∃ v, vs = [v] := by
      have := hv.1
      rcases vs with _ | ⟨v, _ | ⟨_, _⟩⟩ <;> simp at this
      exact ⟨v, rfl⟩
    have h1 := hv.2 0 (by simp) (by simp)
    exact (h w v (sl_of_rep l (fun c => .int .u32 (c : Int)) h1)).mono fun e w' ⟨h1, h2⟩ => ⟨y, F, h1, .v _, Ext.of_below hF h2⟩⟩
theorem c_pRoot (s : List Nat) (hs : Sums32 s) (hn : s.length ≤ 10000000) : ACall Tryz.prog 13 [.sl (s.map u32D)] (.v (.int .u64 ((rootN s : Nat) : Int))) :=
  acall_sums (.of Tryz.func13 (by kernel_rfl) rfl) fun w v h => by
    cases s with
    | nil => rw [rootN_nil]; exact (vRoot_nil v w h).mono fun _ _ ⟨h1, h2⟩ => ⟨h1, h2 ▸ Below.refl _ _⟩
    | cons x s => exact (vRoot_any v (x :: s) w h hs hn (by simp)).mono fun _ _ ⟨m, h1, h2, h3⟩ => ⟨by rw [rootN_top (by simp) h1]; exact h2, h3⟩
theorem c_rRoot (s : List Nat) (hs : Sums32 s) (hn : s.length ≤ 10000000) : ACall Tryz.prog 19 [.sl (s.map u32D)] (.v (.int .u64 ((rootN s : Nat) : Int))) :=
  acall_sums (.of Tryz.func19 (by kernel_rfl) rfl) fun w v h => by
    cases s with
    | nil => rw [rootN_nil]; exact (rRoot_nil v w h).mono fun _ _ ⟨h1, h2⟩ => ⟨h1, h2 ▸ Below.refl _ _⟩
    | cons x s => exact (rRoot_any v (x :: s) w h hs hn (by simp)).mono fun _ _ ⟨m, h1, h2, h3⟩ => ⟨by rw [rootN_top (by simp) h1]; exact h2, h3⟩
end Go.Proofs.YtnapkooefpkicaaGreatDoor


namespace Go.Proofs.YtnapkooefpkicaaGreatDoor
open Go.RowKit Go.Shelf Go.Lib
set_option linter.unusedVariables false
set_option linter.unusedSimpArgs false

def strL (l : List UInt8) : ByteArray := ⟨l.toArray⟩
theorem strL_size (l : List UInt8) : (strL l).size = l.length := by show l.toArray.size = _; simp
theorem strL_list (l : List UInt8) : (strL l).data.toList = l := by show l.toArray.toList = l; simp
set_option maxHeartbeats 1000000 in
set_option maxRecDepth 100000 in
theorem strNil (b : Nat) (p : Value) (w : World) (hbk : w.heap[b]? = some (.cells #[p, .slice none 0 0] 78 (0, 0))) :
    Calls Tryz.prog 44 #[.pointer (some ⟨b, 0, none⟩)] w fun e w' => e = .returned (.string .empty) ∧ Below w.heap.size w w' := by
  have hmix : Tryz.prog.follows .mixedOrders = true := by kernel_rfl
  have c1 : w.drew.cell? ⟨b, 1, none⟩ = some (.slice none 0 0) := by
    rw [cell_of_row w.drew b 1 _ _ _ hbk]; rfl
  have hSD : (Builtin.unsafeSliceData_ #[76] 92 #[.slice none 0 0]).run Tryz.prog w.drew = .ok (.pointer none) w.drew := Lib.run_unsafeSliceData_nil _ _ _ _ _
  have hUS : (Builtin.unsafeString_ #[92, 3] 9 #[.pointer none, .int .i64 0]).run Tryz.prog w.drew = .ok (.string .empty) w.drew := Lib.run_unsafeString_none _ _ _ _ _
  go_enter Tryz.func44, Tryz.ntmps44
  go_wp2
  go_region_o
  all_goals (go_wp2; go_ret; exact ⟨rfl, rfl, rfl, rfl, Nat.le_refl _, fun _ _ => rfl⟩)
set_option maxHeartbeats 1000000 in
set_option maxRecDepth 100000 in
theorem strCap (b g cap : Nat) (hc : cap ≠ 0) (p : Value) (w : World) (hbk : w.heap[b]? = some (.cells #[p, .slice (some ⟨g, 0, none⟩) 0 cap] 78 (0, 0))) :
    Calls Tryz.prog 44 #[.pointer (some ⟨b, 0, none⟩)] w fun e w' => e = .returned (.string .empty) ∧ Below w.heap.size w w' := by
  have hmix : Tryz.prog.follows .mixedOrders = true := by kernel_rfl
  have c1 : w.drew.cell? ⟨b, 1, none⟩ = some (.slice (some ⟨g, 0, none⟩) 0 cap) := by
    rw [cell_of_row w.drew b 1 _ _ _ hbk]; rfl
  have hSD : (Builtin.unsafeSliceData_ #[76] 92 #[.slice (some ⟨g, 0, none⟩) 0 cap]).run Tryz.prog w.drew = .ok (.pointer (some ⟨g, 0, none⟩)) w.drew := Lib.run_unsafeSliceData_row _ _ _ _ _ _ hc
  have hUS : (Builtin.unsafeString_ #[92, 3] 9 #[.pointer (some ⟨g, 0, none⟩), .int .i64 0]).run Tryz.prog w.drew = .ok (.string .empty) w.drew := Lib.run_unsafeString_none _ _ _ _ _
  go_enter Tryz.func44, Tryz.ntmps44
  go_wp2
  go_region_o
  all_goals (go_wp2; go_ret; exact ⟨rfl, rfl, rfl, rfl, Nat.le_refl _, fun _ _ => rfl⟩)
set_option maxHeartbeats 1000000 in
set_option maxRecDepth 100000 in
theorem strZero (b g : Nat) (sh : TypeId × Nat) (p : Value) (w : World) (hsh : w.shape? g = some sh) (hbk : w.heap[b]? = some (.cells #[p, .slice (some ⟨g, 0, none⟩) 0 0] 78 (0, 0))) :
    Calls Tryz.prog 44 #[.pointer (some ⟨b, 0, none⟩)] w fun e w' => e = .returned (.string .empty) ∧ Below w.heap.size w w' := by
  have hmix : Tryz.prog.follows .mixedOrders = true := by kernel_rfl
  have c1 : w.drew.cell? ⟨b, 1, none⟩ = some (.slice (some ⟨g, 0, none⟩) 0 0) := by
    rw [cell_of_row w.drew b 1 _ _ _ hbk]; rfl
  have hlt : b < w.heap.size := (Array.getElem?_eq_some_iff.1 hbk).1
  have hbl := (show Below w.heap.size w w from Below.refl _ _).alloc (Nat.le_refl _) (.view ⟨g, 0, none⟩ 5)
  have c2 : (w.alloc (.view ⟨g, 0, none⟩ 5)).cell? ⟨b, 1, none⟩ = some (.slice (some ⟨g, 0, none⟩) 0 0) := by
    rw [World.cell?_of_block (hbl.block b hlt), cell_of_row w b 1 _ _ _ hbk]; rfl
  have hSD : (Builtin.unsafeSliceData_ #[76] 92 #[.slice (some ⟨g, 0, none⟩) 0 0]).run Tryz.prog w.drew = .ok (.pointer (some ⟨w.drew.heap.size, 0, none⟩)) (w.drew.alloc (.view ⟨g, 0, none⟩ 5)) := Lib.run_unsafeSliceData_zero _ _ _ _ (by kernel_rfl) _ _ sh hsh
  have hUS : (Builtin.unsafeString_ #[92, 3] 9 #[.pointer (some ⟨w.heap.size, 0, none⟩), .int .i64 0]).run Tryz.prog (w.alloc (.view ⟨g, 0, none⟩ 5)).drew = .ok (.string .empty) (w.alloc (.view ⟨g, 0, none⟩ 5)).drew := Lib.run_unsafeString_none _ _ _ _ (some ⟨w.heap.size, 0, none⟩)
  go_enter Tryz.func44, Tryz.ntmps44
  go_wp2
  go_region_o
  all_goals (go_wp2; go_ret; exact ⟨rfl, hbl.os, hbl.tape, hbl.output, hbl.size, hbl.block⟩)
/-- b.String() where nothing was written. -/
theorem c_bstr0 (id r : Nat) (hne : id ≠ r) : XCall Tryz.prog 44 [.ptr id 0] (Bld id r []) [] (fun _ => false) (.v (.string ⟨#[]⟩)) := by
  refine ⟨.of Tryz.func44 (by kernel_rfl) rfl, fun F ρ B w vs hF hB hσ hv => ?_⟩
  obtain ⟨g, hb⟩ := bldW_of hne hσ
  obtain rfl := repSL_ptr hb.ptr hv
  have hbh := hb.heap
  have fin : Calls Tryz.prog 44 #[.pointer (some ⟨g, 0, none⟩)] w fun e w' => e = .returned (.string .empty) ∧ Below w.heap.size w w' := by
    rcases hb.own.2 with ⟨h2, _⟩ | ⟨k, cap, cur, h2, h3, h4, h5, h6, h7, _⟩
    · rw [h2] at hbh
      exact strNil g _ w hbh
    · rw [h2] at hbh
      by_cases hc : cap = 0
      · subst hc
        exact strZero g k (_, _) _ w (by simp [World.shape?, h4]; exact ⟨rfl, rfl⟩) hbh
      · exact strCap g k cap hc _ w hbh
  refine fin.mono fun e' w' ⟨he, hw⟩ => ?_
  exact ⟨_, F, ρ, he, .v _, fun _ h => h, fun _ h => .inl h, fun b hf => Nat.lt_of_lt_of_le (hF b hf) hw.size, ⟨hw.os, hw.tape, hw.output, hw.size, fun j hj _ => hw.block j hj⟩, ⟨fun p hp => (nomatch hp), fun p hp => (nomatch hp), fun p hp => (nomatch hp)⟩, fun p hp => (nomatch hp), fun _ _ => rfl⟩
/-- b.String(), whatever was written. -/
theorem c_bstrA (id r : Nat) (hne : id ≠ r) (l : List UInt8) : XCall Tryz.prog 44 [.ptr id 0] (Bld id r l) [] (fun _ => false) (.v (.string ⟨l.toArray⟩)) := by
  cases l with
  | nil => exact c_bstr0 id r hne
  | cons x l => exact c_bstr id r hne (x :: l) (by simp)
end Go.Proofs.YtnapkooefpkicaaGreatDoor


namespace Go.Proofs.YtnapkooefpkicaaGreatDoor
open Go.RowKit
set_option linter.unusedVariables false

/-! Types. -/
namespace TyVA

end TyVA
open TyVA


set_option linter.unusedSimpArgs false
theorem at_lst {α : Type} {l : List α} {f : α → List D} {k : Nat} (h : k < l.length) : (l.map f)[k]? = some (f l[k]) := by simp [h]
def ffst (f : Nat → Int) : Nat → Int
  | 0 => 0
  | n + 1 => if ffst f n = 0 then f n else ffst f n
theorem ffst_next {f : Nat → Int} {k : Nat} (h : ffst f k = 0) (h2 : f k = 0) : ffst f (k + 1) = 0 := by simp [ffst, h, h2]
theorem ffst_hit {f : Nat → Int} {k : Nat} (h : ffst f k = 0) (h2 : f k ≠ 0) : ∀ n, k < n → ffst f n = f k
  | 0, hn => by omega
  | n + 1, hn => by
    unfold ffst
    by_cases hk : k = n
    · subst hk; rw [if_pos h]
    · rw [ffst_hit h h2 n (by omega), if_neg h2]
theorem ffst_all {f : Nat → Int} : ∀ n, ffst f n = 0 → ∀ k, k < n → f k = 0
  | 0, _, k, hk => by omega
  | n + 1, h, k, hk => by
    unfold ffst at h
    by_cases hn : ffst f n = 0
    · rw [if_pos hn] at h
      by_cases hk2 : k = n
      · rw [hk2]; exact h
      · exact ffst_all n hn k (by omega)
    · rw [if_neg hn] at h; exact absurd h hn
def sle (a b : ByteArray) : Bool := Op.bytesLess a.toList b.toList || decide (a = b)
/-- A manifest as data. -/
structure Man where
  item : ByteArray
  size : Int
  block : Int
  sums : List Nat
def Man.ds (m : Man) : List D := [.v (.string m.item), .v (.int .i64 m.size), .v (.int .i64 m.block), .sl (m.sums.map u32D)]
/-- How many blocks so many bytes have. -/
def nblocks (size block : Int) : Int := (size + block - 1) / block
def manFault (m : Man) : Int :=
  if isName m.item.data.toList = false then 5 else if m.size < 0 ∨ 20000 < m.size ∨ m.block < 1 ∨ 20000 < m.block then 1 else if 1000 < nblocks m.size m.block then 2 else if (m.sums.length : Int) ≠ nblocks m.size m.block then 3 else 0

def okMan (m : Man) : Prop := m.item.size ≤ 9223372036854775807 ∧ Sums32 m.sums
def manF (l : List Man) (k : Nat) : Int := if h : k < l.length then (if manFault l[k] ≠ 0 then manFault l[k] else if 0 < k ∧ sle l[k].item (l[k-1]'(by omega)).item = true then 8 else 0) else 0
/-- The fault of manifests, but for the length of their text. -/
def mansF (l : List Man) : Int := if 100 < l.length then 2 else ffst (manF l) l.length
structure ManOk (m : Man) : Prop where
  item : m.item.size ≤ 40
  size : 0 ≤ m.size ∧ m.size ≤ 20000
  block : 1 ≤ m.block ∧ m.block ≤ 20000
  sums : m.sums.length ≤ 1000
theorem man_ok {m : Man} (h : manFault m = 0) : ManOk m := by
  unfold manFault at h
  repeat' split at h
  all_goals first | omega | skip
  rename_i h1 h2 h3 h4
  have hn : isName m.item.data.toList = true := by simpa using h1
  unfold isName at hn
  simp only [Bool.and_eq_true, decide_eq_true_eq] at hn
  have h5 := hn.1.1.2
  rw [← Lib.size_eq] at h5
  exact ⟨h5, by omega, by omega, by omega⟩
/-! ## Digits -/
def hexT : List UInt8 := [48, 49, 50, 51, 52, 53, 54, 55, 56, 57, 97, 98, 99, 100, 101, 102]
def hexD (d : Nat) : UInt8 := hexT.getD d 0
/-- A number with so many digits of base 16. -/
def hexL (n many : Nat) : List UInt8 := (List.range many).map fun j => hexD (n / 16 ^ (many - 1 - j) % 16)
def hexB (n many : Nat) : ByteArray := strL (hexL n many)
theorem hexL_len (n many : Nat) : (hexL n many).length = many := by simp [hexL]
theorem hexB_size (n many : Nat) : (hexB n many).size = many := by unfold hexB; rw [strL_size, hexL_len]
/-- The lowest k digits are there. -/
def hexTo (n many k : Nat) : List UInt8 := (List.range many).map fun j => if many - k ≤ j then hexD (n / 16 ^ (many - 1 - j) % 16) else 0
theorem hexTo_len (n many k : Nat) : (hexTo n many k).length = many := by simp [hexTo]
theorem hexTo_0 (n many : Nat) : hexTo n many 0 = List.replicate many 0 := by
  apply List.ext_getElem
  · rw [hexTo_len, List.length_replicate]
  · intro j h1 h2
    rw [hexTo_len] at h1
    simp only [hexTo, List.getElem_map, List.getElem_range, List.getElem_replicate]
    rw [if_neg (by omega)]
theorem hexTo_all (n many : Nat) : hexTo n many many = hexL n many := by
  unfold hexTo hexL
  refine List.map_congr_left fun j _ => ?_
  rw [if_pos (by omega)]
theorem hexTo_step (n many k : Nat) (hk : k < many) : (hexTo n many k).set (many - 1 - k) (hexD (n / 16 ^ k % 16)) = hexTo n many (k + 1) := by
  apply List.ext_getElem
  · rw [List.length_set, hexTo_len, hexTo_len]
  · intro j h1 h2
    rw [List.length_set, hexTo_len] at h1
    rw [List.getElem_set]
    simp only [hexTo, List.getElem_map, List.getElem_range]
    by_cases hj : many - 1 - k = j
    · subst hj
      rw [if_pos rfl, if_pos (by omega), show many - 1 - (many - 1 - k) = k by omega]
    · rw [if_neg hj]
      by_cases h3 : many - k ≤ j
      · rw [if_pos h3, if_pos (by omega)]
      · rw [if_neg h3, if_neg (by omega)]
theorem hex_pow (n k : Nat) : ((n : Nat) : Int) / 2 ^ (4 * (k : Int)).toNat % 16 = ((n / 16 ^ k % 16 : Nat) : Int) := by
  have h1 : (4 * (k : Int)).toNat = 4 * k := by omega
  have h2 : (16 : Nat) ^ k = 2 ^ (4 * k) := by rw [Nat.pow_mul]
  rw [h1, h2]
  push_cast
  rfl
section
variable {P : Program} {B : Nat} {ops : Array Oper} {o : Oper} {e : Env} {σ : Obs}
/-- a + b. -/
theorem AOp.cat {t ty : TypeId} {x y : Operand} {a b : ByteArray} (ho : o.op = .binOp .add t x y ty) (hx : e.ev x = .d (.v (.string a))) (hy : e.ev y = .d (.v (.string b))) (hl : a.size + b.size ≤ 9223372036854775807) :
    AOp P B ops o e σ (.d (.v (.string (a ++ b)))) :=
  .bin ho hx hy fun w => by
    rw [Sem.run_bind, eqGuard_str]
    exact run_string_add_sum (P := P) (w := w) a b hl
end
theorem bld_same {id r : Nat} {l l' : List UInt8} {τ : Obs} (h : l = l') : ∀ p ∈ Bld id r l', p ∈ Obs.join (Bld id r l) τ := fun p hp => by
  subst h
  rcases List.mem_cons.1 hp with rfl | hp
  · exact .head _
  · rw [List.mem_singleton] at hp; subst hp; exact .tail _ (.head _)
theorem bld_0 {id r : Nat} {l l' : List UInt8} (h : l = l') : Ob.cellsT 78 [bP l id, .own r] = .cellsT 78 [bP l' id, .own r] := by rw [h]
def i64 (n : Int) : Prop := -9223372036854775808 ≤ n ∧ n ≤ 9223372036854775807
theorem ba_app (a b : ByteArray) : (a ++ b).data.toList = a.data.toList ++ b.data.toList := by simp
theorem szMk (a : Array UInt8) : ByteArray.size ⟨a⟩ = a.size := rfl
theorem itoa_sz {n : Int} (h : i64 n) : (itoaB n).size ≤ 21 := by
  exact itoaB_size h.1 h.2
theorem fm_len {α : Type} {f : α → List UInt8} {b : Nat} : ∀ {l : List α}, (∀ x ∈ l, (f x).length ≤ b) → (l.flatMap f).length ≤ b * l.length
  | [], _ => by simp
  | x :: l, h => by
    have h1 := h x (by simp)
    have h2 := fm_len (l := l) fun y hy => h y (by simp [hy])
    rw [List.flatMap_cons, List.length_append, List.length_cons, Nat.mul_add]
    omega

/-! ## The text of manifests -/
def sp1 : ByteArray := ⟨#[32]⟩
def nl1 : ByteArray := ⟨#[10]⟩
noncomputable def mLine (m : Man) : ByteArray := (((((((m.item ++ sp1) ++ itoaB m.size) ++ sp1) ++ itoaB m.block) ++ sp1) ++ hexB (rootN m.sums) 16) ++ nl1)
def sumP (s : List Nat) (i : Nat) : List UInt8 := (if i % 8 = 0 then [32] else []) ++ (sp1 ++ hexB (s.getD i 0) 8).data.toList ++ (if i % 8 = 7 ∨ i + 1 = s.length then [10] else [])
def sumsL (s : List Nat) (k : Nat) : List UInt8 := (List.range k).flatMap (sumP s)
noncomputable def manL (m : Man) : List UInt8 := (mLine m).data.toList ++ sumsL m.sums m.sums.length
noncomputable def textL (l : List Man) (k : Nat) : List UInt8 := (l.take k).flatMap manL
noncomputable def textF (l : List Man) : Int := if mansF l ≠ 0 then mansF l else if 200000 < (textL l l.length).length then 2 else 0
noncomputable def textS (l : List Man) : ByteArray := if textF l = 0 then strL (textL l l.length) else ⟨#[]⟩
theorem sumsL_next (s : List Nat) (k : Nat) : sumsL s (k + 1) = sumsL s k ++ sumP s k := by
  unfold sumsL
  rw [List.range_succ, List.flatMap_append, List.flatMap_cons, List.flatMap_nil, List.append_nil]
theorem textL_next {l : List Man} {k : Nat} (h : k < l.length) : textL l (k + 1) = textL l k ++ manL l[k] := by
  unfold textL
  rw [List.take_add_one, List.getElem?_eq_getElem h, Option.toList_some, List.flatMap_append, List.flatMap_cons, List.flatMap_nil, List.append_nil]
theorem sumP_len (s : List Nat) (i : Nat) : (sumP s i).length ≤ 11 := by
  have h1 : (sp1 ++ hexB (s.getD i 0) 8).data.toList.length = 9 := by rw [← Lib.size_eq, ByteArray.size_append, hexB_size]; rfl
  unfold sumP
  rw [List.length_append, List.length_append, h1]
  split <;> split <;> simp
theorem sumsL_len (s : List Nat) : ∀ k, (sumsL s k).length ≤ 11 * k
  | 0 => by simp [sumsL]
  | k + 1 => by
    have h1 := sumsL_len s k
    have h2 := sumP_len s k
    rw [sumsL_next, List.length_append]; omega
theorem mLine_size {m : Man} (h : ManOk m) : (mLine m).size ≤ 110 := by
  have h1 := itoa_sz (n := m.size) (by have := h.size; exact ⟨by omega, by omega⟩)
  have h2 := itoa_sz (n := m.block) (by have := h.block; exact ⟨by omega, by omega⟩)
  have h3 : sp1.size = 1 := rfl
  have h4 : nl1.size = 1 := rfl
  have h5 := h.item
  unfold mLine
  simp only [ByteArray.size_append, hexB_size]
  omega
theorem manL_len {m : Man} (h : ManOk m) : (manL m).length ≤ 11200 := by
  have h1 := mLine_size h
  have h2 := sumsL_len m.sums m.sums.length
  have h3 := h.sums
  have h4 : (mLine m).data.toList.length = (mLine m).size := (Lib.size_eq _).symm
  unfold manL
  rw [List.length_append]; omega
theorem textL_len {l : List Man} (h : ∀ m ∈ l, ManOk m) (k : Nat) : (textL l k).length ≤ 11200 * l.length := by
  have h1 := fm_len (f := manL) (b := 11200) (l := l.take k) fun m hm => manL_len (h m (List.mem_of_mem_take hm))
  have h2 : 11200 * (l.take k).length ≤ 11200 * l.length := Nat.mul_le_mul_left _ (by rw [List.length_take]; omega)
  unfold textL; omega
theorem mans_ok {l : List Man} (h : mansF l = 0) : l.length ≤ 100 ∧ ∀ m ∈ l, manFault m = 0 := by
  unfold mansF at h
  split at h
  · omega
  · refine ⟨by omega, fun m hm => ?_⟩
    obtain ⟨k, hk, rfl⟩ := List.mem_iff_getElem.1 hm
    have := ffst_all _ h k hk
    unfold manF at this
    rw [dif_pos hk] at this
    by_cases h2 : manFault l[k] ≠ 0
    · rw [if_pos h2] at this; exact absurd this h2
    · exact Decidable.not_not.1 h2
theorem text_bad {l : List Man} {f : Int} (h : mansF l = f) (hf : f ≠ 0) : textF l = f ∧ textS l = ⟨#[]⟩ := by
  have h1 : textF l = f := by unfold textF; rw [h, if_pos hf]
  exact ⟨h1, by unfold textS; rw [if_neg (by omega)]⟩
theorem text_long {l : List Man} (h : mansF l = 0) (h2 : 200000 < (textL l l.length).length) : textF l = 2 ∧ textS l = ⟨#[]⟩ := by
  have h1 : textF l = 2 := by unfold textF; rw [if_neg (by omega), if_pos h2]
  exact ⟨h1, by unfold textS; rw [if_neg (by omega)]⟩
theorem text_good {l : List Man} (h : mansF l = 0) (h2 : ¬ 200000 < (textL l l.length).length) : textF l = 0 ∧ textS l = strL (textL l l.length) := by
  have h1 : textF l = 0 := by unfold textF; rw [if_neg (by omega), if_neg h2]
  exact ⟨h1, by unfold textS; rw [if_pos h1]⟩


end Go.Proofs.YtnapkooefpkicaaGreatDoor


namespace Go.Proofs.YtnapkooefpkicaaGreatDoor
open Go.RowKit
set_option linter.unusedVariables false

/-! Types. -/
namespace TyVB
theorem ag_40 : AggT Tryz.prog 40 4 := .of (by kernel_rfl)
theorem et_22 : ElemTy Tryz.prog 22 40 4 56 (.agg #[(.string ⟨#[]⟩), (.int .i64 0), (.int .i64 0), (.slice none 0 0)]) := ⟨by kernel_rfl, by kernel_rfl, by kernel_rfl, by decide⟩
theorem et_38 : ElemTy Tryz.prog 38 53 1 4 (.int .u32 0) := ⟨by kernel_rfl, by kernel_rfl, by kernel_rfl, by decide⟩
theorem et_76 : ElemTy Tryz.prog 76 5 1 1 (.int .u8 0) := ⟨by kernel_rfl, by kernel_rfl, by kernel_rfl, by decide⟩
theorem fo_40_0 : fieldOff Tryz.prog 40 0 = some 0 := by kernel_rfl
theorem fo_40_1 : fieldOff Tryz.prog 40 1 = some 1 := by kernel_rfl
theorem fo_40_2 : fieldOff Tryz.prog 40 2 = some 2 := by kernel_rfl
theorem fo_40_3 : fieldOff Tryz.prog 40 3 = some 3 := by kernel_rfl
theorem sc_3 : Scal Tryz.prog 3 := .of (by kernel_rfl)
theorem sc_38 : Scal Tryz.prog 38 := .of (by kernel_rfl)
theorem sc_9 : Scal Tryz.prog 9 := .of (by kernel_rfl)
theorem st_9 : Tryz.prog.underlying 9 = some .string := by kernel_rfl
theorem sz_40 : ∀ w, (sizeOf 40).run Tryz.prog w = .ok 4 w := SizeT.of (by kernel_rfl)
theorem sz_5 : ∀ w, (sizeOf 5).run Tryz.prog w = .ok 1 w := SizeT.of (by kernel_rfl)
theorem zt_40 : (Tryz.prog.info? 40).bind (·.zero) = some (.agg #[(.string ⟨#[]⟩), (.int .i64 0), (.int .i64 0), (.slice none 0 0)]) := by kernel_rfl
end TyVB
open TyVB


set_option linter.unusedSimpArgs false
theorem baEq {a b : ByteArray} : a.data.toList = b.data.toList ↔ a = b := ⟨fun h => by
  cases a; cases b
  congr 1
  exact Array.toList_inj.1 h, fun h => by rw [h]⟩
theorem sEq {a : ByteArray} {l : List UInt8} (h : a.data.toList = l) : SLe (.d (.v (.string a))) (.d (.v (.string (strL l)))) := SLe.of_eq (by rw [baEq.1 (show a.data.toList = (strL l).data.toList from by rw [h, strL_list])])
theorem sEqD {a : ByteArray} {l : List UInt8} (h : a.data.toList = l) : D.v (.string a) = .v (.string (strL l)) := by rw [baEq.1 (show a.data.toList = (strL l).data.toList from by rw [h, strL_list])]
theorem hex_pow2 (n : Nat) {z : Int} {j : Nat} (h : z = (j : Int)) : ((n : Nat) : Int) / 2 ^ (4 * z).toNat % 16 = ((n / 16 ^ j % 16 : Nat) : Int) := by subst h; exact hex_pow n j
theorem shr_lo (n : Nat) (j : Nat) : 0 ≤ (n : Int) / 2 ^ j := Int.ediv_nonneg (Int.natCast_nonneg n) (Int.le_of_lt (Int.pow_pos (by decide)))
theorem shr_hi {n : Nat} (h : n < 18446744073709551616) (j : Nat) : (n : Int) / 2 ^ j < 18446744073709551616 := by
  have := Int.ediv_le_self (2 ^ j) (Int.natCast_nonneg n)
  omega
theorem hexT_at (d : Nat) (h : d < 16) : hexT[d]? = some (hexD d) := by
  have : d < hexT.length := h
  unfold hexD
  rw [List.getD_eq_getElem?_getD, List.getElem?_eq_getElem this]; rfl
theorem hexD_lt (d : Nat) : (hexD d).toNat < 128 := by
  unfold hexD
  by_cases h : d < 16
  · exact (show ∀ d, d < 16 → (hexT.getD d 0).toNat < 128 by decide) d h
  · rw [List.getD_eq_getElem?_getD, List.getElem?_eq_none (by show 16 ≤ d; omega)]; decide
theorem sle_int {a b : Int} (h : a = b) : SLe (.d (.v (.int .i64 a))) (.d (.v (.int .i64 b))) := SLe.of_eq (by rw [h])
section
variable {P : Program} {B : Nat} {ops : Array Oper} {o : Oper} {e : Env} {σ : Obs}
theorem AOp.indexStrU {t : TypeId} {x ix : Operand} {s : ByteArray} {n : Int} (ho : o.op = .index t x ix) (ht : P.underlying t = some .string) (hx : e.ev x = .d (.v (.string s))) (hi : e.ev ix = .d (.v (.int .u64 n)))
    (k : Nat) (hk : n = k) {c : UInt8} (hc : s.data.toList[k]? = some c) : AOp P B ops o e σ (.d (.v (.int .u8 c.toNat))) := .value fun F ρ w a hF hr _ => by
  have h1 := hr x (by rw [ho]; simp [Op.operands])
  have h2 := hr ix (by rw [ho]; simp [Op.operands])
  rw [hx] at h1; rw [hi] at h2
  refine ⟨_, F, w, ?_, .d (.v _), Ext.refl hF⟩
  have hlt : k < s.size := by have := (List.getElem?_eq_some_iff.1 hc).1; simpa using this
  have hcc : s[k] = c := by
    have := (List.getElem?_eq_some_iff.1 hc).2
    rw [← this]
    simp [ByteArray.getElem_eq_getElem_data]
  unfold execOp
  simp only [ho, repS_v h1, repS_v h2, hk]
  simp [Instr.index, run_underlying ht, asIntOf, hlt, hcc]
end
theorem hexL_next {n m k : Nat} (h : k < m) : (hexL n m).take (k + 1) = (hexL n m).take k ++ [hexD (n / 16 ^ (m - 1 - k) % 16)] := by
  rw [List.take_add_one, List.getElem?_eq_getElem (by rw [hexL_len]; exact h), Option.toList_some]
  simp [hexL]
theorem dig_next {n m k : Nat} (h : k < m) : (strL ((hexL n m).take k) ++ (⟨#[UInt8.ofNat (hexD (n / 16 ^ (m - 1 - k) % 16)).toNat]⟩ : ByteArray)).data.toList = (hexL n m).take (k + 1) := by
  rw [ba_app, strL_list, hexL_next h, UInt8.ofNat_toNat]
theorem u8_rep (m : Nat) : (List.replicate m (0 : UInt8)).map u8D = List.replicate m [D.v (.int .u8 0)] := by rw [List.map_replicate]; rfl
theorem man_idx {l : List Man} {k : Nat} (hk : k < l.length) (h : manFault l[k] = 0) (h2 : 0 < k → sle l[k].item (l[k-1]'(by omega)).item = false) : manF l k = 0 := by
  unfold manF
  rw [dif_pos hk, if_neg (fun hh => hh h), if_neg (fun hh => by rw [h2 hh.1] at hh; exact absurd hh.2 (by decide))]
theorem man_8 {l : List Man} {k : Nat} (hk : k < l.length) (h : manFault l[k] = 0) (h2 : 0 < k) (h3 : sle l[k].item (l[k-1]'(by omega)).item = true) : manF l k = 8 := by
  unfold manF
  rw [dif_pos hk, if_neg (fun hh => hh h), if_pos ⟨h2, h3⟩]
theorem man_f {l : List Man} {k : Nat} (hk : k < l.length) (h : manFault l[k] ≠ 0) : manF l k = manFault l[k] := by
  unfold manF
  rw [dif_pos hk, if_pos h]
theorem mans_hit {l : List Man} {k : Nat} {f : Int} (h0 : ¬ 100 < l.length) (h : ffst (manF l) k = 0) (hk : k < l.length) (hf : manF l k = f) (h2 : f ≠ 0) : mansF l = f := by
  unfold mansF
  rw [if_neg h0, ffst_hit h (by rw [hf]; exact h2) _ hk, hf]
theorem mans_all {l : List Man} (h0 : ¬ 100 < l.length) (h : ffst (manF l) l.length = 0) : mansF l = 0 := by
  unfold mansF
  rw [if_neg h0, h]


set_option maxRecDepth 100000 in
set_option maxHeartbeats 1000000 in
theorem c_blocks (n b : Int) (h0 : 0 ≤ n) (h1 : 1 ≤ b) (h2 : n + b ≤ 4611686018427387904) : ACall Tryz.prog 29 [.v (.int .i64 n), .v (.int .i64 b)] (.v (.int .i64 (nblocks n b))) := by
  refine acall_of (n := 11) (ds' := [.v (.int .i64 (nblocks n b))]) Tryz.func29 rfl (by kernel_rfl) rfl [4] rfl rfl ?_
  intro B w0 F0 fr
  refine AWP.seq ?_
  refine AWP.region ?_
  refine AOps.step rfl rfl rfl (AOp.assignD rfl rfl) ?_
  refine AOps.nil ?_
  refine AWP.seq ?_
  refine AWP.region ?_
  refine AOps.step rfl rfl rfl (AOp.moveD rfl rfl) ?_
  refine AOps.step rfl rfl rfl (AOp.moveD rfl rfl) ?_
  refine AOps.step rfl rfl rfl (AOp.add64 rfl rfl rfl (by omega) (by omega)) ?_
  refine AOps.step rfl rfl rfl (AOp.sub64 rfl rfl rfl (by omega) (by omega)) ?_
  refine AOps.step rfl rfl rfl (AOp.moveD rfl rfl) ?_
  refine AOps.step rfl rfl rfl (AOp.quo64 rfl rfl rfl (by omega) (by omega) (by omega)) ?_
  refine AOps.step rfl rfl rfl (AOp.assignD rfl rfl) ?_
  refine AOps.nil ?_
  refine AWP.ret ?_
  refine ⟨RetD.eq rfl ?_, trivial⟩
  all_goals (rfl)

set_option maxRecDepth 100000 in
set_option maxHeartbeats 1000000 in
theorem c_rblocks (n b : Int) (h0 : 0 ≤ n) (h1 : 1 ≤ b) (h2 : n + b ≤ 4611686018427387904) : ACall Tryz.prog 18 [.v (.int .i64 n), .v (.int .i64 b)] (.v (.int .i64 (nblocks n b))) := by
  refine acall_of (n := 11) (ds' := [.v (.int .i64 (nblocks n b))]) Tryz.func18 rfl (by kernel_rfl) rfl [4] rfl rfl ?_
  intro B w0 F0 fr
  refine AWP.seq ?_
  refine AWP.region ?_
  refine AOps.step rfl rfl rfl (AOp.assignD rfl rfl) ?_
  refine AOps.nil ?_
  refine AWP.seq ?_
  refine AWP.region ?_
  refine AOps.step rfl rfl rfl (AOp.moveD rfl rfl) ?_
  refine AOps.step rfl rfl rfl (AOp.moveD rfl rfl) ?_
  refine AOps.step rfl rfl rfl (AOp.add64 rfl rfl rfl (by omega) (by omega)) ?_
  refine AOps.step rfl rfl rfl (AOp.sub64 rfl rfl rfl (by omega) (by omega)) ?_
  refine AOps.step rfl rfl rfl (AOp.moveD rfl rfl) ?_
  refine AOps.step rfl rfl rfl (AOp.quo64 rfl rfl rfl (by omega) (by omega) (by omega)) ?_
  refine AOps.step rfl rfl rfl (AOp.assignD rfl rfl) ?_
  refine AOps.nil ?_
  refine AWP.ret ?_
  refine ⟨RetD.eq rfl ?_, trivial⟩
  all_goals (rfl)

set_option maxRecDepth 100000 in
set_option maxHeartbeats 1000000 in
theorem c_within (n a b : Int) : ACall Tryz.prog 57 [.v (.int .i64 n), .v (.int .i64 a), .v (.int .i64 b)] (.v (.bool (decide (a ≤ n ∧ n ≤ b)))) := by
  refine acall_of (n := 15) (ds' := [.v (.bool (decide (a ≤ n ∧ n ≤ b)))]) Tryz.func57 rfl (by kernel_rfl) rfl [6] rfl rfl ?_
  intro B w0 F0 fr
  refine AWP.seq ?_
  refine AWP.region ?_
  refine AOps.step rfl rfl rfl (AOp.assignD rfl rfl) ?_
  refine AOps.nil ?_
  refine AWP.seq ?_
  refine AWP.region ?_
  refine AOps.step rfl rfl rfl (AOp.moveD rfl rfl) ?_
  refine AOps.step rfl rfl rfl (AOp.moveD rfl rfl) ?_
  refine AOps.step rfl rfl rfl (AOp.leq rfl rfl rfl) ?_
  refine AOps.step rfl rfl rfl (AOp.moveD rfl rfl) ?_
  refine AOps.split 10 rfl (fun g1 => ?_) (fun g1 => ?_)
  · replace g1 := of_decide_eq_true g1
    refine AOps.step ⟨10, rfl, .inl ⟨_, rfl, rfl⟩⟩ rfl rfl (AOp.moveD rfl rfl) ?_
    refine AOps.step ⟨10, rfl, .inl ⟨_, rfl, rfl⟩⟩ rfl rfl (AOp.moveD rfl rfl) ?_
    refine AOps.step ⟨10, rfl, .inl ⟨_, rfl, rfl⟩⟩ rfl rfl (AOp.leq rfl rfl rfl) ?_
    refine AOps.step rfl rfl rfl (AOp.pickT rfl rfl rfl) ?_
    refine AOps.step rfl rfl rfl (AOp.assignD rfl rfl) ?_
    refine AOps.nil ?_
    refine AWP.ret ?_
    refine ⟨RetD.eq rfl ?_, trivial⟩
    all_goals (simp; omega)
  · replace g1 := of_decide_eq_false g1
    refine AOps.pass ⟨10, rfl, .inl ⟨_, rfl, rfl⟩⟩ rfl rfl ?_
    refine AOps.pass ⟨10, rfl, .inl ⟨_, rfl, rfl⟩⟩ rfl rfl ?_
    refine AOps.pass ⟨10, rfl, .inl ⟨_, rfl, rfl⟩⟩ rfl rfl ?_
    refine AOps.step rfl rfl rfl (AOp.pickF rfl rfl rfl) ?_
    refine AOps.step rfl rfl rfl (AOp.assignD rfl rfl) ?_
    refine AOps.nil ?_
    refine AWP.ret ?_
    refine ⟨RetD.eq rfl ?_, trivial⟩
    all_goals (simp; omega)

set_option maxRecDepth 100000 in
set_option maxHeartbeats 1000000 in
theorem c_pMan (m : Man) (hs : m.item.size ≤ 9223372036854775807) : ACall Tryz.prog 33 [.agg m.ds] (.v (.int .i64 (manFault m))) := by
  refine acall_of (n := 44) (ds' := [.v (.int .i64 (manFault m))]) Tryz.func33 rfl (by kernel_rfl) rfl [2] rfl rfl ?_
  intro B w0 F0 fr
  refine AWP.seq ?_
  refine AWP.region ?_
  refine AOps.step rfl rfl rfl (AOp.box rfl rfl rfl) ?_
  refine AOps.step rfl rfl rfl (AOp.assignD rfl rfl) ?_
  refine AOps.nil ?_
  refine AWP.seq ?_
  refine AWP.block ?_
  refine AWP.seq ?_
  refine AWP.region ?_
  refine AOps.step rfl rfl rfl (AOp.fieldAddr rfl fo_40_0 rfl) ?_
  refine AOps.step rfl rfl rfl (AOp.load rfl sc_9 rfl) ?_
  refine AOps.step rfl rfl rfl (AOp.call rfl (.cons (ArgOk.rfl' rfl) .nil) (c_pName _ (by assumption))) ?_
  refine AOps.step rfl rfl rfl (AOp.not rfl rfl) ?_
  refine AOps.step rfl rfl rfl (AOp.assignD rfl rfl) ?_
  refine AOps.nil ?_
  refine AWP.cond rfl (fun h1 => ?_) (fun h1 => ?_)
  · replace h1 := bnot_t h1
    refine AWP.seq ?_
    refine AWP.region ?_
    refine AOps.step rfl rfl rfl (AOp.assignD rfl rfl) ?_
    refine AOps.nil ?_
    refine AWP.ret ?_
    refine ⟨RetD.eq rfl ?_, trivial⟩
    all_goals (unfold manFault; (repeat' split) <;> first | rfl | omega | simp_all)
  · replace h1 := bnot_f h1
    refine AWP.seq ?_
    refine AWP.region ?_
    refine AOps.step rfl rfl rfl (AOp.fieldAddr rfl fo_40_1 rfl) ?_
    refine AOps.step rfl rfl rfl (AOp.load rfl sc_3 rfl) ?_
    refine AOps.step rfl rfl rfl (AOp.lss rfl rfl rfl) ?_
    refine AOps.step rfl rfl rfl (AOp.moveD rfl rfl) ?_
    refine AOps.split 12 rfl (fun g2 => ?_) (fun g2 => ?_)
    · replace g2 := of_decide_eq_true g2
      refine AOps.pass ⟨12, rfl, .inl ⟨_, rfl, rfl⟩⟩ rfl rfl ?_
      refine AOps.pass ⟨12, rfl, .inl ⟨_, rfl, rfl⟩⟩ rfl rfl ?_
      refine AOps.pass ⟨12, rfl, .inl ⟨_, rfl, rfl⟩⟩ rfl rfl ?_
      refine AOps.step rfl rfl rfl (AOp.pickT rfl rfl rfl) ?_
      refine AOps.step rfl rfl rfl (AOp.moveD rfl rfl) ?_
      refine AOps.pass ⟨17, rfl, .inl ⟨_, rfl, rfl⟩⟩ rfl rfl ?_
      refine AOps.pass ⟨17, rfl, .inl ⟨_, rfl, rfl⟩⟩ rfl rfl ?_
      refine AOps.pass ⟨17, rfl, .inl ⟨_, rfl, rfl⟩⟩ rfl rfl ?_
      refine AOps.step rfl rfl rfl (AOp.pickT rfl rfl rfl) ?_
      refine AOps.step rfl rfl rfl (AOp.moveD rfl rfl) ?_
      refine AOps.pass ⟨22, rfl, .inl ⟨_, rfl, rfl⟩⟩ rfl rfl ?_
      refine AOps.pass ⟨22, rfl, .inl ⟨_, rfl, rfl⟩⟩ rfl rfl ?_
      refine AOps.pass ⟨22, rfl, .inl ⟨_, rfl, rfl⟩⟩ rfl rfl ?_
      refine AOps.step rfl rfl rfl (AOp.pickT rfl rfl rfl) ?_
      refine AOps.step rfl rfl rfl (AOp.assignD rfl rfl) ?_
      refine AOps.nil ?_
      refine AWP.cond rfl (fun _ => ?_) (fun h => nomatch h)
      refine AWP.seq ?_
      refine AWP.region ?_
      refine AOps.step rfl rfl rfl (AOp.assignD rfl rfl) ?_
      refine AOps.nil ?_
      refine AWP.ret ?_
      refine ⟨RetD.eq rfl ?_, trivial⟩
      all_goals (unfold manFault; (repeat' split) <;> first | rfl | omega | simp_all)
    · replace g2 := of_decide_eq_false g2
      refine AOps.step ⟨12, rfl, .inl ⟨_, rfl, rfl⟩⟩ rfl rfl (AOp.fieldAddr rfl fo_40_1 rfl) ?_
      refine AOps.step ⟨12, rfl, .inl ⟨_, rfl, rfl⟩⟩ rfl rfl (AOp.load rfl sc_3 rfl) ?_
      refine AOps.step ⟨12, rfl, .inl ⟨_, rfl, rfl⟩⟩ rfl rfl (AOp.gtr rfl rfl rfl) ?_
      refine AOps.step rfl rfl rfl (AOp.pickF rfl rfl rfl) ?_
      refine AOps.step rfl rfl rfl (AOp.moveD rfl rfl) ?_
      refine AOps.split 17 rfl (fun g3 => ?_) (fun g3 => ?_)
      · replace g3 := of_decide_eq_true g3
        refine AOps.pass ⟨17, rfl, .inl ⟨_, rfl, rfl⟩⟩ rfl rfl ?_
        refine AOps.pass ⟨17, rfl, .inl ⟨_, rfl, rfl⟩⟩ rfl rfl ?_
        refine AOps.pass ⟨17, rfl, .inl ⟨_, rfl, rfl⟩⟩ rfl rfl ?_
        refine AOps.step rfl rfl rfl (AOp.pickT rfl rfl rfl) ?_
        refine AOps.step rfl rfl rfl (AOp.moveD rfl rfl) ?_
        refine AOps.pass ⟨22, rfl, .inl ⟨_, rfl, rfl⟩⟩ rfl rfl ?_
        refine AOps.pass ⟨22, rfl, .inl ⟨_, rfl, rfl⟩⟩ rfl rfl ?_
        refine AOps.pass ⟨22, rfl, .inl ⟨_, rfl, rfl⟩⟩ rfl rfl ?_
        refine AOps.step rfl rfl rfl (AOp.pickT rfl rfl rfl) ?_
        refine AOps.step rfl rfl rfl (AOp.assignD rfl rfl) ?_
        refine AOps.nil ?_
        refine AWP.cond rfl (fun _ => ?_) (fun h => nomatch h)
        refine AWP.seq ?_
        refine AWP.region ?_
        refine AOps.step rfl rfl rfl (AOp.assignD rfl rfl) ?_
        refine AOps.nil ?_
        refine AWP.ret ?_
        refine ⟨RetD.eq rfl ?_, trivial⟩
        all_goals (unfold manFault; (repeat' split) <;> first | rfl | omega | simp_all)
      · replace g3 := of_decide_eq_false g3
        refine AOps.step ⟨17, rfl, .inl ⟨_, rfl, rfl⟩⟩ rfl rfl (AOp.fieldAddr rfl fo_40_2 rfl) ?_
        refine AOps.step ⟨17, rfl, .inl ⟨_, rfl, rfl⟩⟩ rfl rfl (AOp.load rfl sc_3 rfl) ?_
        refine AOps.step ⟨17, rfl, .inl ⟨_, rfl, rfl⟩⟩ rfl rfl (AOp.lss rfl rfl rfl) ?_
        refine AOps.step rfl rfl rfl (AOp.pickF rfl rfl rfl) ?_
        refine AOps.step rfl rfl rfl (AOp.moveD rfl rfl) ?_
        refine AOps.split 22 rfl (fun g4 => ?_) (fun g4 => ?_)
        · replace g4 := of_decide_eq_true g4
          refine AOps.pass ⟨22, rfl, .inl ⟨_, rfl, rfl⟩⟩ rfl rfl ?_
          refine AOps.pass ⟨22, rfl, .inl ⟨_, rfl, rfl⟩⟩ rfl rfl ?_
          refine AOps.pass ⟨22, rfl, .inl ⟨_, rfl, rfl⟩⟩ rfl rfl ?_
          refine AOps.step rfl rfl rfl (AOp.pickT rfl rfl rfl) ?_
          refine AOps.step rfl rfl rfl (AOp.assignD rfl rfl) ?_
          refine AOps.nil ?_
          refine AWP.cond rfl (fun _ => ?_) (fun h => nomatch h)
          refine AWP.seq ?_
          refine AWP.region ?_
          refine AOps.step rfl rfl rfl (AOp.assignD rfl rfl) ?_
          refine AOps.nil ?_
          refine AWP.ret ?_
          refine ⟨RetD.eq rfl ?_, trivial⟩
          all_goals (unfold manFault; (repeat' split) <;> first | rfl | omega | simp_all)
        · replace g4 := of_decide_eq_false g4
          refine AOps.step ⟨22, rfl, .inl ⟨_, rfl, rfl⟩⟩ rfl rfl (AOp.fieldAddr rfl fo_40_2 rfl) ?_
          refine AOps.step ⟨22, rfl, .inl ⟨_, rfl, rfl⟩⟩ rfl rfl (AOp.load rfl sc_3 rfl) ?_
          refine AOps.step ⟨22, rfl, .inl ⟨_, rfl, rfl⟩⟩ rfl rfl (AOp.gtr rfl rfl rfl) ?_
          refine AOps.step rfl rfl rfl (AOp.pickF rfl rfl rfl) ?_
          refine AOps.step rfl rfl rfl (AOp.assignD rfl rfl) ?_
          refine AOps.nil ?_
          refine AWP.cond rfl (fun h5 => ?_) (fun h5 => ?_)
          · replace h5 := of_decide_eq_true h5
            refine AWP.seq ?_
            refine AWP.region ?_
            refine AOps.step rfl rfl rfl (AOp.assignD rfl rfl) ?_
            refine AOps.nil ?_
            refine AWP.ret ?_
            refine ⟨RetD.eq rfl ?_, trivial⟩
            all_goals (unfold manFault; (repeat' split) <;> first | rfl | omega | simp_all)
          · replace h5 := of_decide_eq_false h5
            refine AWP.seq ?_
            refine AWP.region ?_
            refine AOps.step rfl rfl rfl (AOp.fieldAddr rfl fo_40_1 rfl) ?_
            refine AOps.step rfl rfl rfl (AOp.load rfl sc_3 rfl) ?_
            refine AOps.step rfl rfl rfl (AOp.fieldAddr rfl fo_40_2 rfl) ?_
            refine AOps.step rfl rfl rfl (AOp.load rfl sc_3 rfl) ?_
            refine AOps.step rfl rfl rfl (AOp.call rfl (.cons (ArgOk.rfl' rfl) (.cons (ArgOk.rfl' rfl) .nil)) (c_blocks _ _ (by first | assumption | omega) (by first | assumption | omega) (by first | assumption | omega))) ?_
            refine AOps.step rfl rfl rfl (AOp.gtr rfl rfl rfl) ?_
            refine AOps.step rfl rfl rfl (AOp.assignD rfl rfl) ?_
            refine AOps.nil ?_
            refine AWP.cond rfl (fun h6 => ?_) (fun h6 => ?_)
            · replace h6 := of_decide_eq_true h6
              refine AWP.seq ?_
              refine AWP.region ?_
              refine AOps.step rfl rfl rfl (AOp.assignD rfl rfl) ?_
              refine AOps.nil ?_
              refine AWP.ret ?_
              refine ⟨RetD.eq rfl ?_, trivial⟩
              all_goals (unfold manFault; (repeat' split) <;> first | rfl | omega | simp_all)
            · replace h6 := of_decide_eq_false h6
              refine AWP.seq ?_
              refine AWP.draw (by kernel_rfl) (by kernel_rfl) ?_
              refine DRun.step rfl rfl rfl (AOp.fieldAddr rfl fo_40_3 rfl) ?_
              refine DRun.step rfl rfl rfl (AOp.load rfl sc_38 rfl) ?_
              refine DRun.step rfl rfl rfl (AOp.lenSl rfl et_38.ht rfl) ?_
              refine DRun.step rfl rfl rfl (AOp.fieldAddr rfl fo_40_1 rfl) ?_
              refine DRun.step rfl rfl rfl (AOp.load rfl sc_3 rfl) ?_
              refine DRun.step rfl rfl rfl (AOp.fieldAddr rfl fo_40_2 rfl) ?_
              refine DRun.step rfl rfl rfl (AOp.load rfl sc_3 rfl) ?_
              refine DRun.step rfl rfl rfl (AOp.call rfl (.cons (ArgOk.rfl' rfl) (.cons (ArgOk.rfl' rfl) .nil)) (c_blocks _ _ (by first | assumption | omega) (by first | assumption | omega) (by first | assumption | omega))) ?_
              refine DRun.step rfl rfl rfl (AOp.neq rfl rfl rfl) ?_
              refine DRun.step rfl rfl rfl (AOp.assignD rfl rfl) ?_
              refine DRun.nil ?_
              refine AWP.cond rfl (fun h7 => ?_) (fun h7 => ?_)
              · replace h7 := of_decide_eq_true h7
                refine AWP.seq ?_
                refine AWP.region ?_
                refine AOps.step rfl rfl rfl (AOp.assignD rfl rfl) ?_
                refine AOps.nil ?_
                refine AWP.ret ?_
                refine ⟨RetD.eq rfl ?_, trivial⟩
                all_goals (unfold manFault; (repeat' split) <;> first | rfl | omega | simp_all)
              · replace h7 := of_decide_eq_false h7
                refine AWP.skip ?_
                refine AWP.seq ?_
                refine AWP.region ?_
                refine AOps.step rfl rfl rfl (AOp.assignD rfl rfl) ?_
                refine AOps.nil ?_
                refine AWP.ret ?_
                refine ⟨RetD.eq rfl ?_, trivial⟩
                all_goals (unfold manFault; (repeat' split) <;> first | rfl | omega | simp_all)

set_option maxRecDepth 100000 in
set_option maxHeartbeats 1000000 in
theorem c_rMan (m : Man) (hs : m.item.size ≤ 9223372036854775807) : ACall Tryz.prog 39 [.agg m.ds] (.v (.int .i64 (manFault m))) := by
  refine acall_of (n := 36) (ds' := [.v (.int .i64 (manFault m))]) Tryz.func39 rfl (by kernel_rfl) rfl [2] rfl rfl ?_
  intro B w0 F0 fr
  refine AWP.seq ?_
  refine AWP.region ?_
  refine AOps.step rfl rfl rfl (AOp.box rfl rfl rfl) ?_
  refine AOps.step rfl rfl rfl (AOp.assignD rfl rfl) ?_
  refine AOps.nil ?_
  refine AWP.seq ?_
  refine AWP.block ?_
  refine AWP.seq ?_
  refine AWP.region ?_
  refine AOps.step rfl rfl rfl (AOp.fieldAddr rfl fo_40_0 rfl) ?_
  refine AOps.step rfl rfl rfl (AOp.load rfl sc_9 rfl) ?_
  refine AOps.step rfl rfl rfl (AOp.call rfl (.cons (ArgOk.rfl' rfl) .nil) (c_rName _ (by assumption))) ?_
  refine AOps.step rfl rfl rfl (AOp.not rfl rfl) ?_
  refine AOps.step rfl rfl rfl (AOp.assignD rfl rfl) ?_
  refine AOps.nil ?_
  refine AWP.cond rfl (fun h1 => ?_) (fun h1 => ?_)
  · replace h1 := bnot_t h1
    refine AWP.seq ?_
    refine AWP.region ?_
    refine AOps.step rfl rfl rfl (AOp.assignD rfl rfl) ?_
    refine AOps.nil ?_
    refine AWP.ret ?_
    refine ⟨RetD.eq rfl ?_, trivial⟩
    all_goals (unfold manFault; (repeat' split) <;> first | rfl | omega | simp_all)
  · replace h1 := bnot_f h1
    refine AWP.seq ?_
    refine AWP.region ?_
    refine AOps.step rfl rfl rfl (AOp.fieldAddr rfl fo_40_1 rfl) ?_
    refine AOps.step rfl rfl rfl (AOp.load rfl sc_3 rfl) ?_
    refine AOps.step rfl rfl rfl (AOp.call rfl (.cons (ArgOk.rfl' rfl) (.cons (ArgOk.rfl' rfl) (.cons (ArgOk.rfl' rfl) .nil))) (c_within _ _ _)) ?_
    refine AOps.step rfl rfl rfl (AOp.not rfl rfl) ?_
    refine AOps.step rfl rfl rfl (AOp.moveD rfl rfl) ?_
    refine AOps.split 13 rfl (fun g2 => ?_) (fun g2 => ?_)
    · replace g2 := bnot_t g2; replace g2 := of_decide_eq_false g2
      refine AOps.pass ⟨13, rfl, .inl ⟨_, rfl, rfl⟩⟩ rfl rfl ?_
      refine AOps.pass ⟨13, rfl, .inl ⟨_, rfl, rfl⟩⟩ rfl rfl ?_
      refine AOps.pass ⟨13, rfl, .inl ⟨_, rfl, rfl⟩⟩ rfl rfl ?_
      refine AOps.pass ⟨13, rfl, .inl ⟨_, rfl, rfl⟩⟩ rfl rfl ?_
      refine AOps.step rfl rfl rfl (AOp.pickT rfl rfl rfl) ?_
      refine AOps.step rfl rfl rfl (AOp.assignD rfl rfl) ?_
      refine AOps.nil ?_
      refine AWP.cond rfl (fun _ => ?_) (fun h => nomatch h)
      refine AWP.seq ?_
      refine AWP.region ?_
      refine AOps.step rfl rfl rfl (AOp.assignD rfl rfl) ?_
      refine AOps.nil ?_
      refine AWP.ret ?_
      refine ⟨RetD.eq rfl ?_, trivial⟩
      all_goals (unfold manFault; (repeat' split) <;> first | rfl | omega | simp_all)
    · replace g2 := bnot_f g2; replace g2 := of_decide_eq_true g2
      refine AOps.step ⟨13, rfl, .inl ⟨_, rfl, rfl⟩⟩ rfl rfl (AOp.fieldAddr rfl fo_40_2 rfl) ?_
      refine AOps.step ⟨13, rfl, .inl ⟨_, rfl, rfl⟩⟩ rfl rfl (AOp.load rfl sc_3 rfl) ?_
      refine AOps.step ⟨13, rfl, .inl ⟨_, rfl, rfl⟩⟩ rfl rfl (AOp.call rfl (.cons (ArgOk.rfl' rfl) (.cons (ArgOk.rfl' rfl) (.cons (ArgOk.rfl' rfl) .nil))) (c_within _ _ _)) ?_
      refine AOps.step ⟨13, rfl, .inl ⟨_, rfl, rfl⟩⟩ rfl rfl (AOp.not rfl rfl) ?_
      refine AOps.step rfl rfl rfl (AOp.pickF rfl rfl rfl) ?_
      refine AOps.step rfl rfl rfl (AOp.assignD rfl rfl) ?_
      refine AOps.nil ?_
      refine AWP.cond rfl (fun h3 => ?_) (fun h3 => ?_)
      · replace h3 := bnot_t h3; replace h3 := of_decide_eq_false h3
        refine AWP.seq ?_
        refine AWP.region ?_
        refine AOps.step rfl rfl rfl (AOp.assignD rfl rfl) ?_
        refine AOps.nil ?_
        refine AWP.ret ?_
        refine ⟨RetD.eq rfl ?_, trivial⟩
        all_goals (unfold manFault; (repeat' split) <;> first | rfl | omega | simp_all)
      · replace h3 := bnot_f h3; replace h3 := of_decide_eq_true h3
        refine AWP.seq ?_
        refine AWP.region ?_
        refine AOps.step rfl rfl rfl (AOp.fieldAddr rfl fo_40_1 rfl) ?_
        refine AOps.step rfl rfl rfl (AOp.load rfl sc_3 rfl) ?_
        refine AOps.step rfl rfl rfl (AOp.fieldAddr rfl fo_40_2 rfl) ?_
        refine AOps.step rfl rfl rfl (AOp.load rfl sc_3 rfl) ?_
        refine AOps.step rfl rfl rfl (AOp.call rfl (.cons (ArgOk.rfl' rfl) (.cons (ArgOk.rfl' rfl) .nil)) (c_rblocks _ _ (by first | assumption | omega) (by first | assumption | omega) (by first | assumption | omega))) ?_
        refine AOps.step rfl rfl rfl (AOp.gtr rfl rfl rfl) ?_
        refine AOps.step rfl rfl rfl (AOp.assignD rfl rfl) ?_
        refine AOps.nil ?_
        refine AWP.cond rfl (fun h4 => ?_) (fun h4 => ?_)
        · replace h4 := of_decide_eq_true h4
          refine AWP.seq ?_
          refine AWP.region ?_
          refine AOps.step rfl rfl rfl (AOp.assignD rfl rfl) ?_
          refine AOps.nil ?_
          refine AWP.ret ?_
          refine ⟨RetD.eq rfl ?_, trivial⟩
          all_goals (unfold manFault; (repeat' split) <;> first | rfl | omega | simp_all)
        · replace h4 := of_decide_eq_false h4
          refine AWP.seq ?_
          refine AWP.draw (by kernel_rfl) (by kernel_rfl) ?_
          refine DRun.step rfl rfl rfl (AOp.fieldAddr rfl fo_40_3 rfl) ?_
          refine DRun.step rfl rfl rfl (AOp.load rfl sc_38 rfl) ?_
          refine DRun.step rfl rfl rfl (AOp.lenSl rfl et_38.ht rfl) ?_
          refine DRun.step rfl rfl rfl (AOp.fieldAddr rfl fo_40_1 rfl) ?_
          refine DRun.step rfl rfl rfl (AOp.load rfl sc_3 rfl) ?_
          refine DRun.step rfl rfl rfl (AOp.fieldAddr rfl fo_40_2 rfl) ?_
          refine DRun.step rfl rfl rfl (AOp.load rfl sc_3 rfl) ?_
          refine DRun.step rfl rfl rfl (AOp.call rfl (.cons (ArgOk.rfl' rfl) (.cons (ArgOk.rfl' rfl) .nil)) (c_rblocks _ _ (by first | assumption | omega) (by first | assumption | omega) (by first | assumption | omega))) ?_
          refine DRun.step rfl rfl rfl (AOp.neq rfl rfl rfl) ?_
          refine DRun.step rfl rfl rfl (AOp.assignD rfl rfl) ?_
          refine DRun.nil ?_
          refine AWP.cond rfl (fun h5 => ?_) (fun h5 => ?_)
          · replace h5 := of_decide_eq_true h5
            refine AWP.seq ?_
            refine AWP.region ?_
            refine AOps.step rfl rfl rfl (AOp.assignD rfl rfl) ?_
            refine AOps.nil ?_
            refine AWP.ret ?_
            refine ⟨RetD.eq rfl ?_, trivial⟩
            all_goals (unfold manFault; (repeat' split) <;> first | rfl | omega | simp_all)
          · replace h5 := of_decide_eq_false h5
            refine AWP.skip ?_
            refine AWP.seq ?_
            refine AWP.region ?_
            refine AOps.step rfl rfl rfl (AOp.assignD rfl rfl) ?_
            refine AOps.nil ?_
            refine AWP.ret ?_
            refine ⟨RetD.eq rfl ?_, trivial⟩
            all_goals (unfold manFault; (repeat' split) <;> first | rfl | omega | simp_all)

set_option maxRecDepth 100000 in
set_option maxHeartbeats 1000000 in
theorem c_pChk (l : List Man) (ho : ∀ m ∈ l, okMan m) : ACall Tryz.prog 14 [.sl (l.map Man.ds)] (.v (.int .i64 (mansF l))) := by
  refine acall_of (n := 35) (ds' := [.v (.int .i64 (mansF l))]) Tryz.func14 rfl (by kernel_rfl) rfl [2] rfl rfl ?_
  intro B w0 F0 fr
  refine AWP.seq ?_
  refine AWP.region ?_
  refine AOps.step rfl rfl rfl (AOp.assignD rfl rfl) ?_
  refine AOps.nil ?_
  refine AWP.seq ?_
  refine AWP.seq ?_
  refine AWP.region ?_
  refine AOps.step rfl rfl rfl (AOp.moveD rfl rfl) ?_
  refine AOps.step rfl rfl rfl (AOp.lenSl rfl et_22.ht rfl) ?_
  refine AOps.step rfl rfl rfl (AOp.gtr rfl rfl rfl) ?_
  refine AOps.nil ?_
  refine AWP.cond rfl (fun h1 => ?_) (fun h1 => ?_)
  · replace h1 := of_decide_eq_true h1
    rw [List.length_map] at h1
    have HR : mansF l = 2 := if_pos (by omega)
    rw [HR]
    refine AWP.seq ?_
    refine AWP.region ?_
    refine AOps.step rfl rfl rfl (AOp.assignD rfl rfl) ?_
    refine AOps.nil ?_
    refine AWP.ret ?_
    refine ⟨RetD.eq rfl ?_, trivial⟩
    all_goals (rfl)
  · replace h1 := of_decide_eq_false h1
    rw [List.length_map] at h1
    have n0 : ¬ 100 < l.length := by omega
    refine AWP.skip ?_
    refine AWP.seq ?_
    refine AWP.seq ?_
    refine AWP.region ?_
    refine AOps.step rfl rfl rfl (AOp.moveD rfl rfl) ?_
    refine AOps.step rfl rfl rfl (AOp.lenSl rfl et_22.ht rfl) ?_
    refine AOps.step rfl rfl rfl (AOp.moveD rfl rfl) ?_
    refine AOps.nil ?_
    refine AWP.block ?_
    refine AWP.loop (G := Nat) (fun k => Env.of [(11, .d (.v (.int .i64 (k : Int)))), (9, .d (.sl (l.map Man.ds))), (10, .d (.v (.int .i64 ((l.map Man.ds).length : Int)))), (0, .d (.sl (l.map Man.ds)))]) (fun k => []) (fun k => k ≤ l.length ∧ ffst (manF l) k = 0) (fun k => l.length - k) 0 ⟨Nat.zero_le _, rfl⟩ (Sub.less ⟨(SLe.of_eq rfl), SLe.refl _, SLe.refl _, SLe.refl _, trivial⟩ (fun _ h => h)) ?_
    intro k hk
    refine AWP.seq ?_
    refine AWP.region ?_
    refine AOps.step rfl rfl rfl (AOp.lss rfl rfl rfl) ?_
    refine AOps.nil ?_
    refine AWP.seq ?_
    refine AWP.cond rfl (fun h2 => ?_) (fun h2 => ?_)
    · replace h2 := of_decide_eq_true h2
      rw [List.length_map] at h2
      have hlt : k < l.length := by omega
      refine AWP.skip ?_
      refine AWP.seq ?_
      refine AWP.block ?_
      refine AWP.seq ?_
      refine AWP.region ?_
      refine AOps.step rfl rfl rfl (AOp.moveD rfl rfl) ?_
      refine AOps.step rfl rfl rfl (AOp.indexAddr rfl et_22 rfl rfl k rfl (at_lst hlt) rfl) ?_
      refine AOps.step rfl rfl rfl (AOp.loadAgg rfl ag_40 rfl rfl) ?_
      refine AOps.alloc 101 rfl rfl rfl rfl zt_40 rfl rfl rfl ?_
      refine AOps.step rfl rfl rfl (AOp.assignD rfl rfl) ?_
      refine AOps.store rfl rfl rfl sz_40 rfl (.head _) rfl rfl rfl (Nat.le_of_ble_eq_true rfl) ?_
      refine AOps.freezeCells 4 (ds := l[k].ds) rfl (.head _) ?_
      refine AOps.nil ?_
      refine AWP.seq ?_
      refine AWP.seq ?_
      refine AWP.region ?_
      refine AOps.step rfl rfl rfl (AOp.loadAgg rfl ag_40 rfl rfl) ?_
      refine AOps.step rfl rfl rfl (AOp.call rfl (.cons (ArgOk.rfl' rfl) .nil) (c_pMan l[k] (ho _ (List.getElem_mem hlt)).1)) ?_
      refine AOps.step rfl rfl rfl (AOp.assignD rfl rfl) ?_
      refine AOps.nil ?_
      refine AWP.seq ?_
      refine AWP.region ?_
      refine AOps.step rfl rfl rfl (AOp.moveD rfl rfl) ?_
      refine AOps.step rfl rfl rfl (AOp.neq rfl rfl rfl) ?_
      refine AOps.nil ?_
      refine AWP.cond rfl (fun h3 => ?_) (fun h3 => ?_)
      · replace h3 := of_decide_eq_true h3
        rw [mans_hit n0 hk.2 hlt (man_f hlt h3) h3]
        refine AWP.seq ?_
        refine AWP.region ?_
        refine AOps.step rfl rfl rfl (AOp.moveD rfl rfl) ?_
        refine AOps.step rfl rfl rfl (AOp.assignD rfl rfl) ?_
        refine AOps.nil ?_
        refine AWP.ret ?_
        refine ⟨RetD.eq rfl ?_, trivial⟩
        all_goals (rfl)
      · replace h3 := of_decide_eq_false h3
        have h0 : manFault l[k] = 0 := by omega
        refine AWP.skip ?_
        refine AWP.seq ?_
        refine AWP.draw (by kernel_rfl) (by kernel_rfl) ?_
        refine DRun.step rfl rfl rfl (AOp.moveD rfl rfl) ?_
        refine DRun.step rfl rfl rfl (AOp.gtr rfl rfl rfl) ?_
        refine DRun.step rfl rfl rfl (AOp.moveD rfl rfl) ?_
        refine DRun.split 23 rfl (fun g4 => ?_) (fun g4 => ?_)
        · replace g4 := of_decide_eq_true g4
          have hk0 : 0 < k := by omega
          refine DRun.step ⟨23, rfl, .inl ⟨_, rfl, rfl⟩⟩ rfl rfl (AOp.fieldAddr rfl fo_40_0 rfl) ?_
          refine DRun.step ⟨23, rfl, .inl ⟨_, rfl, rfl⟩⟩ rfl rfl (AOp.load rfl sc_9 rfl) ?_
          refine DRun.step ⟨23, rfl, .inl ⟨_, rfl, rfl⟩⟩ rfl rfl (AOp.moveD rfl rfl) ?_
          refine DRun.step ⟨23, rfl, .inl ⟨_, rfl, rfl⟩⟩ rfl rfl (AOp.moveD rfl rfl) ?_
          refine DRun.step ⟨23, rfl, .inl ⟨_, rfl, rfl⟩⟩ rfl rfl (AOp.sub64 rfl rfl rfl (by omega) (by omega)) ?_
          refine DRun.step ⟨23, rfl, .inl ⟨_, rfl, rfl⟩⟩ rfl rfl (AOp.indexAddr rfl et_22 rfl rfl (k - 1) (by omega) (at_lst (by omega)) rfl) ?_
          refine DRun.step ⟨23, rfl, .inl ⟨_, rfl, rfl⟩⟩ rfl rfl (AOp.fieldAddr rfl fo_40_0 rfl) ?_
          refine DRun.step ⟨23, rfl, .inl ⟨_, rfl, rfl⟩⟩ rfl rfl (AOp.load rfl sc_9 rfl) ?_
          refine DRun.step ⟨23, rfl, .inl ⟨_, rfl, rfl⟩⟩ rfl rfl (AOp.sleq rfl rfl rfl) ?_
          refine DRun.step rfl rfl rfl (AOp.pickT rfl rfl rfl) ?_
          refine DRun.nil ?_
          refine AWP.cond rfl (fun h5 => ?_) (fun h5 => ?_)
          · skip
            rw [mans_hit n0 hk.2 hlt (man_8 hlt h0 hk0 h5) (by decide)]
            refine AWP.seq ?_
            refine AWP.region ?_
            refine AOps.step rfl rfl rfl (AOp.assignD rfl rfl) ?_
            refine AOps.nil ?_
            refine AWP.ret ?_
            refine ⟨RetD.eq rfl ?_, trivial⟩
            all_goals (rfl)
          · skip
            have HN := man_idx hlt h0 (fun _ => h5)
            refine AWP.skip ?_
            refine AWP.region ?_
            refine AOps.step rfl rfl rfl (AOp.add64 rfl rfl rfl (by omega) (by omega)) ?_
            refine AOps.step rfl rfl rfl (AOp.moveD rfl rfl) ?_
            refine AOps.nil ?_
            refine ⟨k + 1, ⟨by omega, ffst_next hk.2 HN⟩, (by dsimp only; omega), Sub.less ⟨(SLe.of_eq rfl), SLe.refl _, SLe.refl _, SLe.refl _, trivial⟩ (fun _ h => h)⟩
        · replace g4 := of_decide_eq_false g4
          have HN := man_idx hlt h0 (fun hh => absurd hh (by omega))
          refine DRun.pass ⟨23, rfl, .inl ⟨_, rfl, rfl⟩⟩ rfl rfl ?_
          refine DRun.pass ⟨23, rfl, .inl ⟨_, rfl, rfl⟩⟩ rfl rfl ?_
          refine DRun.pass ⟨23, rfl, .inl ⟨_, rfl, rfl⟩⟩ rfl rfl ?_
          refine DRun.pass ⟨23, rfl, .inl ⟨_, rfl, rfl⟩⟩ rfl rfl ?_
          refine DRun.pass ⟨23, rfl, .inl ⟨_, rfl, rfl⟩⟩ rfl rfl ?_
          refine DRun.pass ⟨23, rfl, .inl ⟨_, rfl, rfl⟩⟩ rfl rfl ?_
          refine DRun.pass ⟨23, rfl, .inl ⟨_, rfl, rfl⟩⟩ rfl rfl ?_
          refine DRun.pass ⟨23, rfl, .inl ⟨_, rfl, rfl⟩⟩ rfl rfl ?_
          refine DRun.pass ⟨23, rfl, .inl ⟨_, rfl, rfl⟩⟩ rfl rfl ?_
          refine DRun.step rfl rfl rfl (AOp.pickF rfl rfl rfl) ?_
          refine DRun.nil ?_
          refine AWP.cond rfl (fun h => nomatch h) (fun _ => ?_)
          refine AWP.skip ?_
          refine AWP.region ?_
          refine AOps.step rfl rfl rfl (AOp.add64 rfl rfl rfl (by omega) (by omega)) ?_
          refine AOps.step rfl rfl rfl (AOp.moveD rfl rfl) ?_
          refine AOps.nil ?_
          refine ⟨k + 1, ⟨by omega, ffst_next hk.2 HN⟩, (by dsimp only; omega), Sub.less ⟨(SLe.of_eq rfl), SLe.refl _, SLe.refl _, SLe.refl _, trivial⟩ (fun _ h => h)⟩
    · replace h2 := of_decide_eq_false h2
      rw [List.length_map] at h2
      obtain rfl : k = l.length := by omega
      rw [mans_all n0 hk.2]
      refine AWP.exit ?_
      refine AWP.seq ?_
      refine AWP.region ?_
      refine AOps.step rfl rfl rfl (AOp.assignD rfl rfl) ?_
      refine AOps.nil ?_
      refine AWP.ret ?_
      refine ⟨RetD.eq rfl ?_, trivial⟩
      all_goals (rfl)

set_option maxRecDepth 100000 in
set_option maxHeartbeats 1000000 in
theorem c_hex (n m : Nat) (hn : n < 18446744073709551616) (hm : m ≤ 16) : ACall Tryz.prog 43 [.v (.int .u64 ((n : Nat) : Int)), .v (.int .i64 ((m : Nat) : Int))] (.v (.string (hexB n m))) := by
  refine acall_of (n := 29) (ds' := [.v (.string (hexB n m))]) Tryz.func43 rfl (by kernel_rfl) rfl [4] rfl rfl ?_
  intro B w0 F0 fr
  refine AWP.seq ?_
  refine AWP.region ?_
  refine AOps.step rfl rfl rfl (AOp.assignD rfl rfl) ?_
  refine AOps.nil ?_
  refine AWP.seq ?_
  refine AWP.region ?_
  refine AOps.step rfl rfl rfl (AOp.moveD rfl rfl) ?_
  refine AOps.makeI 101 m rfl rfl rfl rfl et_76 rfl rfl rfl (by omega) (by omega) rfl rfl ?_
  refine AOps.step rfl rfl rfl (AOp.assignO rfl rfl) ?_
  refine AOps.nil ?_
  refine AWP.seq ?_
  refine AWP.seq ?_
  refine AWP.region ?_
  refine AOps.step rfl rfl rfl (AOp.moveO rfl rfl) ?_
  refine AOps.step rfl rfl rfl (AOp.lenOwn rfl et_76.ht rfl (.head _)) ?_
  refine AOps.step rfl rfl rfl (AOp.moveD rfl rfl) ?_
  refine AOps.nil ?_
  refine AWP.block ?_
  refine AWP.loop (G := Nat) (fun k => Env.of [(11, .d (.v (.int .i64 (k : Int)))), (10, .d (.v (.int .i64 ((m : Nat) : Int)))), (0, .d (.v (.int .u64 ((n : Nat) : Int)))), (1, .d (.v (.int .i64 ((m : Nat) : Int)))), (5, .own 101)]) (fun k => [(101, .row 5 1 ((hexTo n m k).map u8D))]) (fun k => k ≤ m) (fun k => m - k) 0 (Nat.zero_le _) (Sub.less ⟨(SLe.of_eq rfl), (sle_int (by rw [List.length_replicate])), SLe.refl _, SLe.refl _, SLe.refl _, trivial⟩ (by rw [hexTo_0, u8_rep]; exact fun _ h => h)) ?_
  intro k hk
  refine AWP.seq ?_
  refine AWP.region ?_
  refine AOps.step rfl rfl rfl (AOp.lss rfl rfl rfl) ?_
  refine AOps.nil ?_
  refine AWP.seq ?_
  refine AWP.cond rfl (fun h1 => ?_) (fun h1 => ?_)
  · replace h1 := of_decide_eq_true h1
    have hlt : k < m := by omega
    have hl1 := hexTo_len n m k
    refine AWP.skip ?_
    refine AWP.seq ?_
    refine AWP.block ?_
    refine AWP.seq ?_
    refine AWP.region ?_
    refine AOps.step rfl rfl rfl (AOp.moveD rfl rfl) ?_
    refine AOps.step rfl rfl rfl (AOp.assignD rfl rfl) ?_
    refine AOps.nil ?_
    refine AWP.region ?_
    refine AOps.step rfl rfl rfl (AOp.moveO rfl rfl) ?_
    refine AOps.step rfl rfl rfl (AOp.moveD rfl rfl) ?_
    refine AOps.step rfl rfl rfl (AOp.sub64 rfl rfl rfl (by omega) (by omega)) ?_
    refine AOps.step rfl rfl rfl (AOp.moveD rfl rfl) ?_
    refine AOps.step rfl rfl rfl (AOp.sub64 rfl rfl rfl (by omega) (by omega)) ?_
    refine AOps.step rfl rfl rfl (AOp.moveD rfl rfl) ?_
    refine AOps.step rfl rfl rfl (AOp.moveD rfl rfl) ?_
    refine AOps.step rfl rfl rfl (AOp.mul64 rfl rfl rfl (by omega) (by omega)) ?_
    refine AOps.step rfl rfl rfl (AOp.shrU rfl rfl rfl (by omega) (by omega)) ?_
    refine AOps.step rfl rfl rfl (AOp.and15 rfl rfl rfl (shr_lo _ _) (shr_hi hn _)) ?_
    refine AOps.step rfl rfl rfl (AOp.indexStrU rfl st_9 rfl rfl (n / 16 ^ k % 16) (hex_pow n k) (hexT_at _ (Nat.mod_lt _ (by decide)))) ?_
    refine AOps.step rfl rfl rfl (AOp.indexOwn rfl et_76 rfl rfl (.head _) (m - 1 - k) (by omega) (by rw [List.length_map]; omega)) ?_
    refine AOps.storeRow rfl rfl rfl sz_5 rfl (.head _) rfl rfl rfl (m - 1 - k) 0 (by omega) (at_lst (by omega)) (by decide) ?_
    refine AOps.nil ?_
    refine AWP.region ?_
    refine AOps.step rfl rfl rfl (AOp.add64 rfl rfl rfl (by omega) (by omega)) ?_
    refine AOps.step rfl rfl rfl (AOp.moveD rfl rfl) ?_
    refine AOps.nil ?_
    refine ⟨k + 1, (by omega), (by dsimp only; omega), Sub.less ⟨(SLe.of_eq rfl), SLe.refl _, SLe.refl _, SLe.refl _, SLe.refl _, trivial⟩ (by dsimp only; rw [← hexTo_step n m k hlt, List.map_set]; exact fun _ h => h)⟩
  · replace h1 := of_decide_eq_false h1
    obtain rfl : m = k := by omega
    refine AWP.exit ?_
    refine AWP.seq ?_
    refine AWP.region ?_
    refine AOps.step rfl rfl rfl (AOp.moveO rfl rfl) ?_
    refine AOps.freeze 27 rfl (.head _) ?_
    refine AOps.step rfl rfl rfl (AOp.bytesStr (l := hexTo n m m) rfl et_76.ht Tryz.underlying5 st_9 rfl) ?_
    refine AOps.step rfl rfl rfl (AOp.assignD rfl rfl) ?_
    refine AOps.nil ?_
    refine AWP.ret ?_
    refine ⟨RetD.eq rfl ?_, trivial⟩
    all_goals (rw [hexTo_all]; rfl)

set_option maxRecDepth 100000 in
set_option maxHeartbeats 1000000 in
theorem c_digits (n m : Nat) (hn : n < 18446744073709551616) (hm : m ≤ 16) : ACall Tryz.prog 41 [.v (.int .u64 ((n : Nat) : Int)), .v (.int .i64 ((m : Nat) : Int))] (.v (.string (hexB n m))) := by
  refine acall_of (n := 23) (ds' := [.v (.string (hexB n m))]) Tryz.func41 rfl (by kernel_rfl) rfl [4] rfl rfl ?_
  intro B w0 F0 fr
  refine AWP.seq ?_
  refine AWP.region ?_
  refine AOps.step rfl rfl rfl (AOp.assignD rfl rfl) ?_
  refine AOps.nil ?_
  refine AWP.seq ?_
  refine AWP.region ?_
  refine AOps.step rfl rfl rfl (AOp.assignD rfl rfl) ?_
  refine AOps.nil ?_
  refine AWP.seq ?_
  refine AWP.seq ?_
  refine AWP.region ?_
  refine AOps.step rfl rfl rfl (AOp.moveD rfl rfl) ?_
  refine AOps.step rfl rfl rfl (AOp.sub64 rfl rfl rfl (by omega) (by omega)) ?_
  refine AOps.step rfl rfl rfl (AOp.assignD rfl rfl) ?_
  refine AOps.nil ?_
  refine AWP.block ?_
  refine AWP.loop (G := Nat) (fun k => Env.of [(6, .d (.v (.int .i64 ((m : Int) - 1 - (k : Int))))), (5, .d (.v (.string (strL ((hexL n m).take k))))), (0, .d (.v (.int .u64 ((n : Nat) : Int))))]) (fun k => []) (fun k => k ≤ m) (fun k => m - k) 0 (Nat.zero_le _) (Sub.less ⟨(sle_int (by omega)), SLe.refl _, SLe.refl _, trivial⟩ (fun _ h => h)) ?_
  intro k hk
  refine AWP.seq ?_
  refine AWP.seq ?_
  refine AWP.region ?_
  refine AOps.step rfl rfl rfl (AOp.moveD rfl rfl) ?_
  refine AOps.step rfl rfl rfl (AOp.geq rfl rfl rfl) ?_
  refine AOps.nil ?_
  refine AWP.cond rfl (fun h1 => ?_) (fun h1 => ?_)
  · replace h1 := of_decide_eq_true h1
    have hlt : k < m := by omega
    have hle : ((hexL n m).take k).length ≤ 16 := by rw [List.length_take, hexL_len]; omega
    refine AWP.skip ?_
    refine AWP.seq ?_
    refine AWP.block ?_
    refine AWP.region ?_
    refine AOps.step rfl rfl rfl (AOp.moveD rfl rfl) ?_
    refine AOps.step rfl rfl rfl (AOp.moveD rfl rfl) ?_
    refine AOps.step rfl rfl rfl (AOp.moveD rfl rfl) ?_
    refine AOps.step rfl rfl rfl (AOp.mul64 rfl rfl rfl (by omega) (by omega)) ?_
    refine AOps.step rfl rfl rfl (AOp.shrU rfl rfl rfl (by omega) (by omega)) ?_
    refine AOps.step rfl rfl rfl (AOp.and15 rfl rfl rfl (shr_lo _ _) (shr_hi hn _)) ?_
    refine AOps.step rfl rfl rfl (AOp.indexStrU rfl st_9 rfl rfl (n / 16 ^ (m - 1 - k) % 16) (hex_pow2 n (by omega)) (hexT_at _ (Nat.mod_lt _ (by decide)))) ?_
    refine AOps.step rfl rfl rfl (AOp.byteStr (n := (hexD (n / 16 ^ (m - 1 - k) % 16)).toNat) rfl Tryz.underlying5 st_9 rfl (hexD_lt _)) ?_
    refine AOps.step rfl rfl rfl (AOp.cat rfl rfl rfl (by rw [strL_size]; show _ + 1 ≤ _; omega)) ?_
    refine AOps.step rfl rfl rfl (AOp.assignD rfl rfl) ?_
    refine AOps.nil ?_
    refine AWP.region ?_
    refine AOps.step rfl rfl rfl (AOp.moveD rfl rfl) ?_
    refine AOps.step rfl rfl rfl (AOp.sub64 rfl rfl rfl (by omega) (by omega)) ?_
    refine AOps.step rfl rfl rfl (AOp.assignD rfl rfl) ?_
    refine AOps.nil ?_
    refine ⟨k + 1, (by omega), (by dsimp only; omega), Sub.less ⟨(sle_int (by omega)), (sEq (dig_next hlt)), SLe.refl _, trivial⟩ (fun _ h => h)⟩
  · replace h1 := of_decide_eq_false h1
    obtain rfl : m = k := by omega
    refine AWP.exit ?_
    refine AWP.seq ?_
    refine AWP.region ?_
    refine AOps.step rfl rfl rfl (AOp.moveD rfl rfl) ?_
    refine AOps.step rfl rfl rfl (AOp.assignD rfl rfl) ?_
    refine AOps.nil ?_
    refine AWP.ret ?_
    refine ⟨RetD.eq rfl ?_, trivial⟩
    all_goals (rw [List.take_of_length_le (by rw [hexL_len]; omega)]; rfl)

end Go.Proofs.YtnapkooefpkicaaGreatDoor


namespace Go.Proofs.YtnapkooefpkicaaGreatDoor
open Go.RowKit
set_option linter.unusedVariables false

/-! Types. -/
namespace TyVC
theorem ag_40 : AggT Tryz.prog 40 4 := .of (by kernel_rfl)
theorem et_22 : ElemTy Tryz.prog 22 40 4 56 (.agg #[(.string ⟨#[]⟩), (.int .i64 0), (.int .i64 0), (.slice none 0 0)]) := ⟨by kernel_rfl, by kernel_rfl, by kernel_rfl, by decide⟩
theorem et_38 : ElemTy Tryz.prog 38 53 1 4 (.int .u32 0) := ⟨by kernel_rfl, by kernel_rfl, by kernel_rfl, by decide⟩
theorem fo_40_0 : fieldOff Tryz.prog 40 0 = some 0 := by kernel_rfl
theorem fo_40_1 : fieldOff Tryz.prog 40 1 = some 1 := by kernel_rfl
theorem fo_40_2 : fieldOff Tryz.prog 40 2 = some 2 := by kernel_rfl
theorem fo_40_3 : fieldOff Tryz.prog 40 3 = some 3 := by kernel_rfl
theorem sc_3 : Scal Tryz.prog 3 := .of (by kernel_rfl)
theorem sc_38 : Scal Tryz.prog 38 := .of (by kernel_rfl)
theorem sc_53 : Scal Tryz.prog 53 := .of (by kernel_rfl)
theorem sc_9 : Scal Tryz.prog 9 := .of (by kernel_rfl)
theorem st_9 : Tryz.prog.underlying 9 = some .string := by kernel_rfl
theorem sz_40 : ∀ w, (sizeOf 40).run Tryz.prog w = .ok 4 w := SizeT.of (by kernel_rfl)
theorem zt_40 : (Tryz.prog.info? 40).bind (·.zero) = some (.agg #[(.string ⟨#[]⟩), (.int .i64 0), (.int .i64 0), (.slice none 0 0)]) := by kernel_rfl
end TyVC
open TyVC


open Go.Lib
set_option linter.unusedSimpArgs false
theorem obs_fix {X Y : Ob} (t : List UInt8) : Obs.del 101 (Obs.upd 101 X ((101, Y) :: Obs.kill 101 (Bld 901 801 t))) = Bld 901 801 t := by cases t <;> rfl
theorem at_sums {s : List Nat} {i : Nat} (h : i < s.length) : (s.map u32D)[i]? = some (u32D (s.getD i 0)) := by
  rw [List.getElem?_map, List.getD_eq_getElem?_getD, List.getElem?_eq_getElem h]; rfl
theorem sums_get {s : List Nat} (h : Sums32 s) (i : Nat) : s.getD i 0 < 4294967296 := by
  rw [List.getD_eq_getElem?_getD]
  by_cases hi : i < s.length
  · rw [List.getElem?_eq_getElem hi]; exact h _ (List.getElem_mem hi)
  · rw [List.getElem?_eq_none (by omega)]; decide
theorem mLine_pos (m : Man) : 0 < (mLine m).size := by
  unfold mLine
  rw [ByteArray.size_append]
  show 0 < _ + 1
  omega
theorem cvU : convB Tryz.prog 53 41 .u64 = true := by kernel_rfl
theorem mans_man {l : List Man} (h : mansF l = 0) : ∀ m ∈ l, ManOk m := fun m hm => man_ok ((mans_ok h).2 m hm)


set_option maxRecDepth 100000 in
set_option maxHeartbeats 4000000 in
theorem c_write (l : List Man) (ho : ∀ m ∈ l, okMan m) (hm : mansF l = 0) : ACallT Tryz.prog TabI 22 [.sl (l.map Man.ds)] (.v (.string (strL (textL l l.length)))) := by
  refine acall_ofT (n := 66) (ds' := [.v (.string (strL (textL l l.length)))]) Tryz.func22 rfl (by kernel_rfl) rfl [2] rfl rfl ?_
  intro B w0 F0 hT
  have hln := (mans_ok hm).1
  have hok := mans_man hm
  have ml1 : (⟨#[32]⟩ : ByteArray).size = 1 := rfl
  have ml2 : sp1.size = 1 := rfl
  have ml3 : nl1.size = 1 := rfl
  refine AWP.seq ?_
  refine AWP.region ?_
  refine AOps.step rfl rfl rfl (AOp.assignD rfl rfl) ?_
  refine AOps.nil ?_
  refine AWP.seq ?_
  refine AWP.region ?_
  refine AOps.allocB 901 801 (by decide) rfl rfl rfl rfl rfl rfl rfl ?_
  refine AOps.nil ?_
  refine AWP.seq ?_
  refine AWP.seq ?_
  refine AWP.region ?_
  refine AOps.step rfl rfl rfl (AOp.moveD rfl rfl) ?_
  refine AOps.step rfl rfl rfl (AOp.lenSl rfl et_22.ht rfl) ?_
  refine AOps.step rfl rfl rfl (AOp.moveD rfl rfl) ?_
  refine AOps.nil ?_
  refine AWP.block ?_
  refine AWP.loop (G := Nat) (fun k => Env.of [(10, .d (.v (.int .i64 (k : Int)))), (8, .d (.sl (l.map Man.ds))), (9, .d (.v (.int .i64 ((l.map Man.ds).length : Int)))), (3, .ptr 901 0)]) (fun k => (Bld 901 801 (textL l k))) (fun k => k ≤ l.length) (fun k => l.length - k) 0 (Nat.zero_le _) (Sub.less ⟨(SLe.of_eq rfl), SLe.refl _, SLe.refl _, SLe.refl _, trivial⟩ (bld_same rfl)) ?_
  intro k hk
  refine AWP.seq ?_
  refine AWP.region ?_
  refine AOps.step rfl rfl rfl (AOp.lss rfl rfl rfl) ?_
  refine AOps.nil ?_
  refine AWP.seq ?_
  refine AWP.cond rfl (fun h1 => ?_) (fun h1 => ?_)
  · replace h1 := of_decide_eq_true h1
    rw [List.length_map] at h1
    have hlt : k < l.length := by omega
    have hmk := hok _ (List.getElem_mem hlt)
    obtain ⟨hi1, ⟨hi2, hi3⟩, ⟨hi4, hi5⟩, hi6⟩ := hmk
    have hsu := (ho _ (List.getElem_mem hlt)).2
    have iz1 := itoa_sz (n := l[k].size) ⟨by omega, by omega⟩
    have iz2 := itoa_sz (n := l[k].block) ⟨by omega, by omega⟩
    have hTl := textL_len hok k
    have hml := mLine_size (hok _ (List.getElem_mem hlt))
    have hmp := mLine_pos l[k]
    have HN := textL_next hlt
    refine AWP.skip ?_
    refine AWP.seq ?_
    refine AWP.block ?_
    refine AWP.seq ?_
    refine AWP.region ?_
    refine AOps.step rfl rfl rfl (AOp.indexAddr rfl et_22 rfl rfl k rfl (at_lst hlt) rfl) ?_
    refine AOps.step rfl rfl rfl (AOp.loadAgg rfl ag_40 rfl rfl) ?_
    refine AOps.alloc 101 rfl rfl rfl rfl zt_40 rfl rfl rfl ?_
    refine AOps.store rfl rfl rfl sz_40 rfl (.head _) rfl rfl rfl (Nat.le_of_ble_eq_true rfl) ?_
    refine AOps.freezeCells 5 (ds := l[k].ds) rfl (.head _) ?_
    refine AOps.nil ?_
    refine AWP.seq ?_
    refine AWP.obsEq _ (obs_fix _) ?_
    refine AWP.drawTailK 19 (by kernel_rfl) (by kernel_rfl) (by kernel_rfl) ?_
    refine KRun.step rfl rfl rfl (AOp.toK (AOp.fieldAddr rfl fo_40_0 rfl)) ?_
    refine KRun.step rfl rfl rfl (AOp.toK (AOp.load rfl sc_9 rfl)) ?_
    refine KRun.step rfl rfl rfl (AOp.toK (AOp.cat rfl rfl rfl (by (try simp only [ByteArray.size_append, hexB_size, strL_size, szMk, List.size_toArray, List.length_cons, List.length_nil]); omega))) ?_
    refine KRun.step rfl rfl rfl (AOp.toK (AOp.fieldAddr rfl fo_40_1 rfl)) ?_
    refine KRun.step rfl rfl rfl (AOp.toK (AOp.load rfl sc_3 rfl)) ?_
    refine KRun.step rfl rfl rfl (AOpK.callT tabI_at.stays rfl hT rfl (.cons (ArgOk.rfl' rfl) .nil) (c_itoa l[k].size (by omega) (by omega))) ?_
    refine KRun.step rfl rfl rfl (AOp.toK (AOp.cat rfl rfl rfl (by (try simp only [ByteArray.size_append, hexB_size, strL_size, szMk, List.size_toArray, List.length_cons, List.length_nil]); omega))) ?_
    refine KRun.step rfl rfl rfl (AOp.toK (AOp.cat rfl rfl rfl (by (try simp only [ByteArray.size_append, hexB_size, strL_size, szMk, List.size_toArray, List.length_cons, List.length_nil]); omega))) ?_
    refine KRun.step rfl rfl rfl (AOp.toK (AOp.fieldAddr rfl fo_40_2 rfl)) ?_
    refine KRun.step rfl rfl rfl (AOp.toK (AOp.load rfl sc_3 rfl)) ?_
    refine KRun.step rfl rfl rfl (AOpK.callT tabI_at.stays rfl hT rfl (.cons (ArgOk.rfl' rfl) .nil) (c_itoa l[k].block (by omega) (by omega))) ?_
    refine KRun.step rfl rfl rfl (AOp.toK (AOp.cat rfl rfl rfl (by (try simp only [ByteArray.size_append, hexB_size, strL_size, szMk, List.size_toArray, List.length_cons, List.length_nil]); omega))) ?_
    refine KRun.step rfl rfl rfl (AOp.toK (AOp.cat rfl rfl rfl (by (try simp only [ByteArray.size_append, hexB_size, strL_size, szMk, List.size_toArray, List.length_cons, List.length_nil]); omega))) ?_
    refine KRun.step rfl rfl rfl (AOp.toK (AOp.fieldAddr rfl fo_40_3 rfl)) ?_
    refine KRun.step rfl rfl rfl (AOp.toK (AOp.load rfl sc_38 rfl)) ?_
    refine KRun.step rfl rfl rfl (AOp.toK (AOp.call rfl (.cons (ArgOk.rfl' rfl) .nil) (c_pRoot l[k].sums hsu (by omega)))) ?_
    refine KRun.step rfl rfl rfl (AOp.toK (AOp.call rfl (.cons (ArgOk.rfl' rfl) (.cons (ArgOk.rfl' rfl) .nil)) (c_hex (rootN l[k].sums) 16 (rootN_lt _) (by decide)))) ?_
    refine KRun.step rfl rfl rfl (AOp.toK (AOp.cat rfl rfl rfl (by (try simp only [ByteArray.size_append, hexB_size, strL_size, szMk, List.size_toArray, List.length_cons, List.length_nil]); omega))) ?_
    refine KRun.step rfl rfl rfl (AOp.toK (AOp.cat rfl rfl rfl (by (try simp only [ByteArray.size_append, hexB_size, strL_size, szMk, List.size_toArray, List.length_cons, List.length_nil]); omega))) ?_
    refine KRun.nil ?_
    -- writes 901 801
    refine AOps.callX rfl rfl rfl (.cons (SLe.refl _) (.cons (SLe.refl _) .nil)) (c_ws 901 801 (by decide) (textL l k) (mLine l[k]) hmp (by omega)) ⟨(.head _), (.tail _ (.head _)), trivial⟩ rfl rfl (fun _ h => rfl) ?_
    refine AOps.nil ?_
    refine AWP.seq ?_
    refine AWP.region ?_
    refine AOps.step rfl rfl rfl (AOp.fieldAddr rfl fo_40_3 rfl) ?_
    refine AOps.step rfl rfl rfl (AOp.load rfl sc_38 rfl) ?_
    refine AOps.step rfl rfl rfl (AOp.lenSl rfl et_38.ht rfl) ?_
    refine AOps.step rfl rfl rfl (AOp.moveD rfl rfl) ?_
    refine AOps.nil ?_
    refine AWP.block ?_
    refine AWP.loop (G := Nat) (fun i => Env.of [(37, .d (.v (.int .i64 (i : Int)))), (35, .d (.sl (l[k].sums.map u32D))), (36, .d (.v (.int .i64 ((l[k].sums.map u32D).length : Int)))), (10, .d (.v (.int .i64 (k : Int)))), (8, .d (.sl (l.map Man.ds))), (9, .d (.v (.int .i64 ((l.map Man.ds).length : Int)))), (3, .ptr 901 0), (5, .d (.fp l[k].ds))]) (fun i => (Bld 901 801 ((textL l k ++ (mLine l[k]).data.toList) ++ sumsL l[k].sums i))) (fun i => i ≤ l[k].sums.length) (fun i => l[k].sums.length - i) 0 (Nat.zero_le _) (Sub.less ⟨(SLe.of_eq rfl), SLe.refl _, SLe.refl _, SLe.refl _, SLe.refl _, SLe.refl _, SLe.refl _, SLe.refl _, trivial⟩ (bld_same (by simp [sumsL]))) ?_
    intro i hi
    refine AWP.seq ?_
    refine AWP.region ?_
    refine AOps.step rfl rfl rfl (AOp.lss rfl rfl rfl) ?_
    refine AOps.nil ?_
    refine AWP.seq ?_
    refine AWP.cond rfl (fun h2 => ?_) (fun h2 => ?_)
    · replace h2 := of_decide_eq_true h2
      rw [List.length_map] at h2
      have hil : i < l[k].sums.length := by omega
      have hsl := sumsL_len l[k].sums i
      have hmz : (mLine l[k]).data.toList.length = (mLine l[k]).size := (Lib.size_eq _).symm
      have hg32 := sums_get hsu i
      have hmp2 : (l[k].sums.map u32D).length = l[k].sums.length := List.length_map _
      have hpz : (sp1 ++ hexB (l[k].sums.getD i 0) 8).data.toList.length = 9 := by rw [← Lib.size_eq, ByteArray.size_append, hexB_size]; rfl
      refine AWP.skip ?_
      refine AWP.seq ?_
      refine AWP.block ?_
      refine AWP.seq ?_
      refine AWP.region ?_
      refine AOps.step rfl rfl rfl (AOp.moveD rfl rfl) ?_
      refine AOps.step rfl rfl rfl (AOp.indexAddr rfl et_38 rfl rfl i rfl (at_sums hil) rfl) ?_
      refine AOps.step rfl rfl rfl (AOp.load rfl sc_53 rfl) ?_
      refine AOps.step rfl rfl rfl (AOp.assignD rfl rfl) ?_
      refine AOps.step rfl rfl rfl (AOp.assignD rfl rfl) ?_
      refine AOps.nil ?_
      refine AWP.seq ?_
      refine AWP.seq ?_
      refine AWP.region ?_
      refine AOps.step rfl rfl rfl (AOp.moveD rfl rfl) ?_
      refine AOps.step rfl rfl rfl (AOp.rem64 rfl rfl rfl (by omega) (by omega)) ?_
      refine AOps.step rfl rfl rfl (AOp.eql rfl rfl rfl) ?_
      refine AOps.nil ?_
      refine AWP.cond rfl (fun h3 => ?_) (fun h3 => ?_)
      · replace h3 := of_decide_eq_true h3
        have e1 : i % 8 = 0 := by omega
        refine AWP.region ?_
        -- writes 901 801
        refine AOps.callX rfl rfl rfl (.cons (SLe.refl _) (.cons (SLe.refl _) .nil)) (c_ws 901 801 (by decide) _ _ (by decide) (by simp only [List.length_append, ByteArray.size_append, hexB_size, szMk, List.size_toArray, List.length_cons, List.length_nil]; omega)) ⟨(.head _), (.tail _ (.head _)), trivial⟩ rfl rfl (fun _ h => rfl) ?_
        refine AOps.nil ?_
        refine AWP.seq ?_
        refine AWP.region ?_
        refine AOps.step rfl rfl rfl (AOp.moveD rfl rfl) ?_
        refine AOps.step rfl rfl rfl (AOp.convSame rfl cvU rfl (wrapU64 (by omega) (by omega))) ?_
        refine AOps.step rfl rfl rfl (AOp.call rfl (.cons (ArgOk.rfl' rfl) (.cons (ArgOk.rfl' rfl) .nil)) (c_hex (l[k].sums.getD i 0) 8 (by omega) (by decide))) ?_
        refine AOps.step rfl rfl rfl (AOp.cat rfl rfl rfl (by (try simp only [ByteArray.size_append, hexB_size, strL_size, szMk, List.size_toArray, List.length_cons, List.length_nil]); omega)) ?_
        -- writes 901 801
        refine AOps.callX rfl rfl rfl (.cons (SLe.refl _) (.cons (SLe.refl _) .nil)) (c_ws 901 801 (by decide) _ (sp1 ++ hexB (l[k].sums.getD i 0) 8) (by rw [ByteArray.size_append]; show 0 < 1 + _; omega) (by simp only [List.length_append, ByteArray.size_append, hexB_size, szMk, List.size_toArray, List.length_cons, List.length_nil]; omega)) ⟨(.head _), (.tail _ (.head _)), trivial⟩ rfl rfl (fun _ h => rfl) ?_
        refine AOps.nil ?_
        refine AWP.seq ?_
        refine AWP.region ?_
        refine AOps.step rfl rfl rfl (AOp.moveD rfl rfl) ?_
        refine AOps.step rfl rfl rfl (AOp.rem64 rfl rfl rfl (by omega) (by omega)) ?_
        refine AOps.step rfl rfl rfl (AOp.eql rfl rfl rfl) ?_
        refine AOps.step rfl rfl rfl (AOp.moveD rfl rfl) ?_
        refine AOps.split 54 rfl (fun g4 => ?_) (fun g4 => ?_)
        · replace g4 := of_decide_eq_true g4
          have e2 : i % 8 = 7 ∨ i + 1 = l[k].sums.length := .inl (by omega)
          refine AOps.pass ⟨54, rfl, .inl ⟨_, rfl, rfl⟩⟩ rfl rfl ?_
          refine AOps.pass ⟨54, rfl, .inl ⟨_, rfl, rfl⟩⟩ rfl rfl ?_
          refine AOps.pass ⟨54, rfl, .inl ⟨_, rfl, rfl⟩⟩ rfl rfl ?_
          refine AOps.pass ⟨54, rfl, .inl ⟨_, rfl, rfl⟩⟩ rfl rfl ?_
          refine AOps.pass ⟨54, rfl, .inl ⟨_, rfl, rfl⟩⟩ rfl rfl ?_
          refine AOps.pass ⟨54, rfl, .inl ⟨_, rfl, rfl⟩⟩ rfl rfl ?_
          refine AOps.step rfl rfl rfl (AOp.pickT rfl rfl rfl) ?_
          refine AOps.nil ?_
          refine AWP.cond rfl (fun _ => ?_) (fun h => nomatch h)
          refine AWP.region ?_
          -- writes 901 801
          refine AOps.callX rfl rfl rfl (.cons (SLe.refl _) (.cons (SLe.refl _) .nil)) (c_ws 901 801 (by decide) _ _ (by decide) (by simp only [List.length_append, ByteArray.size_append, hexB_size, szMk, List.size_toArray, List.length_cons, List.length_nil]; omega)) ⟨(.head _), (.tail _ (.head _)), trivial⟩ rfl rfl (fun _ h => rfl) ?_
          refine AOps.nil ?_
          refine AWP.region ?_
          refine AOps.step rfl rfl rfl (AOp.add64 rfl rfl rfl (by omega) (by omega)) ?_
          refine AOps.step rfl rfl rfl (AOp.moveD rfl rfl) ?_
          refine AOps.nil ?_
          refine ⟨i + 1, (by omega), (by dsimp only; omega), Sub.less ⟨(SLe.of_eq rfl), SLe.refl _, SLe.refl _, SLe.refl _, SLe.refl _, SLe.refl _, SLe.refl _, SLe.refl _, trivial⟩ (bld_same (by rw [sumsL_next]; unfold sumP; (first | rw [if_pos e1] | rw [if_neg e1]); (first | rw [if_pos e2] | rw [if_neg e2]); (try simp only [List.append_assoc, List.nil_append, List.append_nil]); first | done | rfl))⟩
        · replace g4 := of_decide_eq_false g4
          have e7 : ¬ i % 8 = 7 := by omega
          refine AOps.step ⟨54, rfl, .inl ⟨_, rfl, rfl⟩⟩ rfl rfl (AOp.moveD rfl rfl) ?_
          refine AOps.step ⟨54, rfl, .inl ⟨_, rfl, rfl⟩⟩ rfl rfl (AOp.fieldAddr rfl fo_40_3 rfl) ?_
          refine AOps.step ⟨54, rfl, .inl ⟨_, rfl, rfl⟩⟩ rfl rfl (AOp.load rfl sc_38 rfl) ?_
          refine AOps.step ⟨54, rfl, .inl ⟨_, rfl, rfl⟩⟩ rfl rfl (AOp.lenSl rfl et_38.ht rfl) ?_
          refine AOps.step ⟨54, rfl, .inl ⟨_, rfl, rfl⟩⟩ rfl rfl (AOp.sub64 rfl rfl rfl (by omega) (by omega)) ?_
          refine AOps.step ⟨54, rfl, .inl ⟨_, rfl, rfl⟩⟩ rfl rfl (AOp.eql rfl rfl rfl) ?_
          refine AOps.step rfl rfl rfl (AOp.pickF rfl rfl rfl) ?_
          refine AOps.nil ?_
          refine AWP.cond rfl (fun h5 => ?_) (fun h5 => ?_)
          · replace h5 := of_decide_eq_true h5
            have e2 : i % 8 = 7 ∨ i + 1 = l[k].sums.length := by first | (exact .inl (by omega)) | (refine .inr ?_; rw [List.length_map] at h5; omega)
            refine AWP.region ?_
            -- writes 901 801
            refine AOps.callX rfl rfl rfl (.cons (SLe.refl _) (.cons (SLe.refl _) .nil)) (c_ws 901 801 (by decide) _ _ (by decide) (by simp only [List.length_append, ByteArray.size_append, hexB_size, szMk, List.size_toArray, List.length_cons, List.length_nil]; omega)) ⟨(.head _), (.tail _ (.head _)), trivial⟩ rfl rfl (fun _ h => rfl) ?_
            refine AOps.nil ?_
            refine AWP.region ?_
            refine AOps.step rfl rfl rfl (AOp.add64 rfl rfl rfl (by omega) (by omega)) ?_
            refine AOps.step rfl rfl rfl (AOp.moveD rfl rfl) ?_
            refine AOps.nil ?_
            refine ⟨i + 1, (by omega), (by dsimp only; omega), Sub.less ⟨(SLe.of_eq rfl), SLe.refl _, SLe.refl _, SLe.refl _, SLe.refl _, SLe.refl _, SLe.refl _, SLe.refl _, trivial⟩ (bld_same (by rw [sumsL_next]; unfold sumP; (first | rw [if_pos e1] | rw [if_neg e1]); (first | rw [if_pos e2] | rw [if_neg e2]); (try simp only [List.append_assoc, List.nil_append, List.append_nil]); first | done | rfl))⟩
          · replace h5 := of_decide_eq_false h5
            have e2 : ¬ (i % 8 = 7 ∨ i + 1 = l[k].sums.length) := by rw [List.length_map] at h5; omega
            refine AWP.skip ?_
            refine AWP.region ?_
            refine AOps.step rfl rfl rfl (AOp.add64 rfl rfl rfl (by omega) (by omega)) ?_
            refine AOps.step rfl rfl rfl (AOp.moveD rfl rfl) ?_
            refine AOps.nil ?_
            refine ⟨i + 1, (by omega), (by dsimp only; omega), Sub.less ⟨(SLe.of_eq rfl), SLe.refl _, SLe.refl _, SLe.refl _, SLe.refl _, SLe.refl _, SLe.refl _, SLe.refl _, trivial⟩ (bld_same (by rw [sumsL_next]; unfold sumP; (first | rw [if_pos e1] | rw [if_neg e1]); (first | rw [if_pos e2] | rw [if_neg e2]); (try simp only [List.append_assoc, List.nil_append, List.append_nil]); first | done | rfl))⟩
      · replace h3 := of_decide_eq_false h3
        have e1 : ¬ i % 8 = 0 := by omega
        refine AWP.skip ?_
        refine AWP.seq ?_
        refine AWP.region ?_
        refine AOps.step rfl rfl rfl (AOp.moveD rfl rfl) ?_
        refine AOps.step rfl rfl rfl (AOp.convSame rfl cvU rfl (wrapU64 (by omega) (by omega))) ?_
        refine AOps.step rfl rfl rfl (AOp.call rfl (.cons (ArgOk.rfl' rfl) (.cons (ArgOk.rfl' rfl) .nil)) (c_hex (l[k].sums.getD i 0) 8 (by omega) (by decide))) ?_
        refine AOps.step rfl rfl rfl (AOp.cat rfl rfl rfl (by (try simp only [ByteArray.size_append, hexB_size, strL_size, szMk, List.size_toArray, List.length_cons, List.length_nil]); omega)) ?_
        -- writes 901 801
        refine AOps.callX rfl rfl rfl (.cons (SLe.refl _) (.cons (SLe.refl _) .nil)) (c_ws 901 801 (by decide) _ (sp1 ++ hexB (l[k].sums.getD i 0) 8) (by rw [ByteArray.size_append]; show 0 < 1 + _; omega) (by simp only [List.length_append, ByteArray.size_append, hexB_size, szMk, List.size_toArray, List.length_cons, List.length_nil]; omega)) ⟨(.head _), (.tail _ (.head _)), trivial⟩ rfl rfl (fun _ h => rfl) ?_
        refine AOps.nil ?_
        refine AWP.seq ?_
        refine AWP.region ?_
        refine AOps.step rfl rfl rfl (AOp.moveD rfl rfl) ?_
        refine AOps.step rfl rfl rfl (AOp.rem64 rfl rfl rfl (by omega) (by omega)) ?_
        refine AOps.step rfl rfl rfl (AOp.eql rfl rfl rfl) ?_
        refine AOps.step rfl rfl rfl (AOp.moveD rfl rfl) ?_
        refine AOps.split 54 rfl (fun g6 => ?_) (fun g6 => ?_)
        · replace g6 := of_decide_eq_true g6
          have e2 : i % 8 = 7 ∨ i + 1 = l[k].sums.length := .inl (by omega)
          refine AOps.pass ⟨54, rfl, .inl ⟨_, rfl, rfl⟩⟩ rfl rfl ?_
          refine AOps.pass ⟨54, rfl, .inl ⟨_, rfl, rfl⟩⟩ rfl rfl ?_
          refine AOps.pass ⟨54, rfl, .inl ⟨_, rfl, rfl⟩⟩ rfl rfl ?_
          refine AOps.pass ⟨54, rfl, .inl ⟨_, rfl, rfl⟩⟩ rfl rfl ?_
          refine AOps.pass ⟨54, rfl, .inl ⟨_, rfl, rfl⟩⟩ rfl rfl ?_
          refine AOps.pass ⟨54, rfl, .inl ⟨_, rfl, rfl⟩⟩ rfl rfl ?_
          refine AOps.step rfl rfl rfl (AOp.pickT rfl rfl rfl) ?_
          refine AOps.nil ?_
          refine AWP.cond rfl (fun _ => ?_) (fun h => nomatch h)
          refine AWP.region ?_
          -- writes 901 801
          refine AOps.callX rfl rfl rfl (.cons (SLe.refl _) (.cons (SLe.refl _) .nil)) (c_ws 901 801 (by decide) _ _ (by decide) (by simp only [List.length_append, ByteArray.size_append, hexB_size, szMk, List.size_toArray, List.length_cons, List.length_nil]; omega)) ⟨(.head _), (.tail _ (.head _)), trivial⟩ rfl rfl (fun _ h => rfl) ?_
          refine AOps.nil ?_
          refine AWP.region ?_
          refine AOps.step rfl rfl rfl (AOp.add64 rfl rfl rfl (by omega) (by omega)) ?_
          refine AOps.step rfl rfl rfl (AOp.moveD rfl rfl) ?_
          refine AOps.nil ?_
          refine ⟨i + 1, (by omega), (by dsimp only; omega), Sub.less ⟨(SLe.of_eq rfl), SLe.refl _, SLe.refl _, SLe.refl _, SLe.refl _, SLe.refl _, SLe.refl _, SLe.refl _, trivial⟩ (bld_same (by rw [sumsL_next]; unfold sumP; (first | rw [if_pos e1] | rw [if_neg e1]); (first | rw [if_pos e2] | rw [if_neg e2]); (try simp only [List.append_assoc, List.nil_append, List.append_nil]); first | done | rfl))⟩
        · replace g6 := of_decide_eq_false g6
          have e7 : ¬ i % 8 = 7 := by omega
          refine AOps.step ⟨54, rfl, .inl ⟨_, rfl, rfl⟩⟩ rfl rfl (AOp.moveD rfl rfl) ?_
          refine AOps.step ⟨54, rfl, .inl ⟨_, rfl, rfl⟩⟩ rfl rfl (AOp.fieldAddr rfl fo_40_3 rfl) ?_
          refine AOps.step ⟨54, rfl, .inl ⟨_, rfl, rfl⟩⟩ rfl rfl (AOp.load rfl sc_38 rfl) ?_
          refine AOps.step ⟨54, rfl, .inl ⟨_, rfl, rfl⟩⟩ rfl rfl (AOp.lenSl rfl et_38.ht rfl) ?_
          refine AOps.step ⟨54, rfl, .inl ⟨_, rfl, rfl⟩⟩ rfl rfl (AOp.sub64 rfl rfl rfl (by omega) (by omega)) ?_
          refine AOps.step ⟨54, rfl, .inl ⟨_, rfl, rfl⟩⟩ rfl rfl (AOp.eql rfl rfl rfl) ?_
          refine AOps.step rfl rfl rfl (AOp.pickF rfl rfl rfl) ?_
          refine AOps.nil ?_
          refine AWP.cond rfl (fun h7 => ?_) (fun h7 => ?_)
          · replace h7 := of_decide_eq_true h7
            have e2 : i % 8 = 7 ∨ i + 1 = l[k].sums.length := by first | (exact .inl (by omega)) | (refine .inr ?_; rw [List.length_map] at h7; omega)
            refine AWP.region ?_
            -- writes 901 801
            refine AOps.callX rfl rfl rfl (.cons (SLe.refl _) (.cons (SLe.refl _) .nil)) (c_ws 901 801 (by decide) _ _ (by decide) (by simp only [List.length_append, ByteArray.size_append, hexB_size, szMk, List.size_toArray, List.length_cons, List.length_nil]; omega)) ⟨(.head _), (.tail _ (.head _)), trivial⟩ rfl rfl (fun _ h => rfl) ?_
            refine AOps.nil ?_
            refine AWP.region ?_
            refine AOps.step rfl rfl rfl (AOp.add64 rfl rfl rfl (by omega) (by omega)) ?_
            refine AOps.step rfl rfl rfl (AOp.moveD rfl rfl) ?_
            refine AOps.nil ?_
            refine ⟨i + 1, (by omega), (by dsimp only; omega), Sub.less ⟨(SLe.of_eq rfl), SLe.refl _, SLe.refl _, SLe.refl _, SLe.refl _, SLe.refl _, SLe.refl _, SLe.refl _, trivial⟩ (bld_same (by rw [sumsL_next]; unfold sumP; (first | rw [if_pos e1] | rw [if_neg e1]); (first | rw [if_pos e2] | rw [if_neg e2]); (try simp only [List.append_assoc, List.nil_append, List.append_nil]); first | done | rfl))⟩
          · replace h7 := of_decide_eq_false h7
            have e2 : ¬ (i % 8 = 7 ∨ i + 1 = l[k].sums.length) := by rw [List.length_map] at h7; omega
            refine AWP.skip ?_
            refine AWP.region ?_
            refine AOps.step rfl rfl rfl (AOp.add64 rfl rfl rfl (by omega) (by omega)) ?_
            refine AOps.step rfl rfl rfl (AOp.moveD rfl rfl) ?_
            refine AOps.nil ?_
            refine ⟨i + 1, (by omega), (by dsimp only; omega), Sub.less ⟨(SLe.of_eq rfl), SLe.refl _, SLe.refl _, SLe.refl _, SLe.refl _, SLe.refl _, SLe.refl _, SLe.refl _, trivial⟩ (bld_same (by rw [sumsL_next]; unfold sumP; (first | rw [if_pos e1] | rw [if_neg e1]); (first | rw [if_pos e2] | rw [if_neg e2]); (try simp only [List.append_assoc, List.nil_append, List.append_nil]); first | done | rfl))⟩
    · replace h2 := of_decide_eq_false h2
      rw [List.length_map] at h2
      obtain rfl : i = l[k].sums.length := by omega
      refine AWP.exit ?_
      refine AWP.region ?_
      refine AOps.step rfl rfl rfl (AOp.add64 rfl rfl rfl (by omega) (by omega)) ?_
      refine AOps.step rfl rfl rfl (AOp.moveD rfl rfl) ?_
      refine AOps.nil ?_
      refine ⟨k + 1, (by omega), (by dsimp only; omega), Sub.less ⟨(SLe.of_eq rfl), SLe.refl _, SLe.refl _, SLe.refl _, trivial⟩ (bld_same (by rw [HN]; unfold manL; rw [List.append_assoc]))⟩
  · replace h1 := of_decide_eq_false h1
    rw [List.length_map] at h1
    obtain rfl : k = l.length := by omega
    refine AWP.exit ?_
    refine AWP.seq ?_
    refine AWP.region ?_
    -- writes 901 801
    refine AOps.callX rfl rfl rfl (.cons (SLe.refl _) .nil) (c_bstrA 901 801 (by decide) _) ⟨(.head _), (.tail _ (.head _)), trivial⟩ rfl rfl (fun _ h => nomatch h) ?_
    refine AOps.step rfl rfl rfl (AOp.assignD rfl rfl) ?_
    refine AOps.nil ?_
    refine AWP.ret ?_
    refine ⟨RetD.eq rfl ?_, trivial⟩
    all_goals (rfl)

set_option maxRecDepth 100000 in
set_option maxHeartbeats 1000000 in
theorem c_pText (l : List Man) (ho : ∀ m ∈ l, okMan m) : ACallT Tryz.prog TabI 8 [.sl (l.map Man.ds)] (.tup [.v (.string (textS l)), .v (.int .i64 (textF l))]) := by
  refine acall_ofT (n := 17) (ds' := [.v (.string (textS l)), .v (.int .i64 (textF l))]) Tryz.func8 rfl (by kernel_rfl) rfl [2, 3] rfl rfl ?_
  intro B w0 F0 hT
  refine AWP.seq ?_
  refine AWP.region ?_
  refine AOps.step rfl rfl rfl (AOp.assignD rfl rfl) ?_
  refine AOps.step rfl rfl rfl (AOp.assignD rfl rfl) ?_
  refine AOps.nil ?_
  refine AWP.seq ?_
  refine AWP.seq ?_
  refine AWP.region ?_
  refine AOps.step rfl rfl rfl (AOp.moveD rfl rfl) ?_
  refine AOps.step rfl rfl rfl (AOp.call rfl (.cons (ArgOk.rfl' rfl) .nil) (c_pChk l ho)) ?_
  refine AOps.step rfl rfl rfl (AOp.assignD rfl rfl) ?_
  refine AOps.nil ?_
  refine AWP.seq ?_
  refine AWP.region ?_
  refine AOps.step rfl rfl rfl (AOp.moveD rfl rfl) ?_
  refine AOps.step rfl rfl rfl (AOp.neq rfl rfl rfl) ?_
  refine AOps.nil ?_
  refine AWP.cond rfl (fun h1 => ?_) (fun h1 => ?_)
  · replace h1 := of_decide_eq_true h1
    obtain ⟨HF, HS⟩ := text_bad rfl h1
    rw [HF, HS]
    refine AWP.seq ?_
    refine AWP.region ?_
    refine AOps.step rfl rfl rfl (AOp.moveD rfl rfl) ?_
    refine AOps.step rfl rfl rfl (AOp.assignD rfl rfl) ?_
    refine AOps.step rfl rfl rfl (AOp.assignD rfl rfl) ?_
    refine AOps.nil ?_
    refine AWP.ret ?_
    refine ⟨RetD.eq rfl ?_, RetD.eq rfl ?_, trivial⟩
    all_goals (rfl)
  · replace h1 := of_decide_eq_false h1
    have h0 : mansF l = 0 := by omega
    refine AWP.skip ?_
    refine AWP.seq ?_
    refine AWP.region ?_
    refine AOps.step rfl rfl rfl (AOp.moveD rfl rfl) ?_
    -- wants the world
    refine AOps.callT rfl rfl rfl hT tabI_at.stays rfl (.cons (ArgOk.rfl' rfl) .nil) (c_write l ho h0) ?_
    refine AOps.step rfl rfl rfl (AOp.assignD rfl rfl) ?_
    refine AOps.nil ?_
    refine AWP.seq ?_
    refine AWP.seq ?_
    refine AWP.region ?_
    refine AOps.step rfl rfl rfl (AOp.moveD rfl rfl) ?_
    refine AOps.step rfl rfl rfl (AOp.lenStr rfl st_9 rfl) ?_
    refine AOps.step rfl rfl rfl (AOp.gtr rfl rfl rfl) ?_
    refine AOps.nil ?_
    refine AWP.cond rfl (fun h2 => ?_) (fun h2 => ?_)
    · replace h2 := of_decide_eq_true h2
      rw [strL_size] at h2
      obtain ⟨HF, HS⟩ := text_long h0 (by omega)
      rw [HF, HS]
      refine AWP.seq ?_
      refine AWP.region ?_
      refine AOps.step rfl rfl rfl (AOp.assignD rfl rfl) ?_
      refine AOps.step rfl rfl rfl (AOp.assignD rfl rfl) ?_
      refine AOps.nil ?_
      refine AWP.ret ?_
      refine ⟨RetD.eq rfl ?_, RetD.eq rfl ?_, trivial⟩
      all_goals (rfl)
    · replace h2 := of_decide_eq_false h2
      rw [strL_size] at h2
      obtain ⟨HF, HS⟩ := text_good h0 (by omega)
      rw [HF, HS]
      refine AWP.skip ?_
      refine AWP.seq ?_
      refine AWP.region ?_
      refine AOps.step rfl rfl rfl (AOp.moveD rfl rfl) ?_
      refine AOps.step rfl rfl rfl (AOp.assignD rfl rfl) ?_
      refine AOps.step rfl rfl rfl (AOp.assignD rfl rfl) ?_
      refine AOps.nil ?_
      refine AWP.ret ?_
      refine ⟨RetD.eq rfl ?_, RetD.eq rfl ?_, trivial⟩
      all_goals (rfl)

end Go.Proofs.YtnapkooefpkicaaGreatDoor


namespace Go.Proofs.YtnapkooefpkicaaGreatDoor
open Go.RowKit
set_option linter.unusedVariables false

/-! Types. -/
namespace TyVD
theorem ag_40 : AggT Tryz.prog 40 4 := .of (by kernel_rfl)
theorem et_22 : ElemTy Tryz.prog 22 40 4 56 (.agg #[(.string ⟨#[]⟩), (.int .i64 0), (.int .i64 0), (.slice none 0 0)]) := ⟨by kernel_rfl, by kernel_rfl, by kernel_rfl, by decide⟩
theorem et_38 : ElemTy Tryz.prog 38 53 1 4 (.int .u32 0) := ⟨by kernel_rfl, by kernel_rfl, by kernel_rfl, by decide⟩
theorem fo_40_0 : fieldOff Tryz.prog 40 0 = some 0 := by kernel_rfl
theorem fo_40_1 : fieldOff Tryz.prog 40 1 = some 1 := by kernel_rfl
theorem fo_40_2 : fieldOff Tryz.prog 40 2 = some 2 := by kernel_rfl
theorem fo_40_3 : fieldOff Tryz.prog 40 3 = some 3 := by kernel_rfl
theorem sc_3 : Scal Tryz.prog 3 := .of (by kernel_rfl)
theorem sc_38 : Scal Tryz.prog 38 := .of (by kernel_rfl)
theorem sc_53 : Scal Tryz.prog 53 := .of (by kernel_rfl)
theorem sc_9 : Scal Tryz.prog 9 := .of (by kernel_rfl)
theorem st_9 : Tryz.prog.underlying 9 = some .string := by kernel_rfl
theorem sz_40 : ∀ w, (sizeOf 40).run Tryz.prog w = .ok 4 w := SizeT.of (by kernel_rfl)
theorem zt_40 : (Tryz.prog.info? 40).bind (·.zero) = some (.agg #[(.string ⟨#[]⟩), (.int .i64 0), (.int .i64 0), (.slice none 0 0)]) := by kernel_rfl
end TyVD
open TyVD


open Go.Lib
set_option linter.unusedSimpArgs false
theorem pre_ok {l : List Man} {k : Nat} (hk : k ≤ l.length) (h : ffst (manF l) k = 0) : ∀ m ∈ l.take k, ManOk m := fun m hm => by
  obtain ⟨j, hj, rfl⟩ := List.mem_iff_getElem.1 hm
  rw [List.length_take] at hj
  rw [List.getElem_take]
  have := ffst_all _ h j (by omega)
  unfold manF at this
  rw [dif_pos (by omega)] at this
  by_cases h2 : manFault (l[j]'(by omega)) ≠ 0
  · rw [if_pos h2] at this; exact absurd this h2
  · exact man_ok (Decidable.not_not.1 h2)
theorem textL_lenW {l : List Man} {k : Nat} (h : ∀ m ∈ l.take k, ManOk m) (hl : ¬ 100 < l.length) : (textL l k).length ≤ 1120000 := by
  have h1 := fm_len (f := manL) (b := 11200) (l := l.take k) fun m hm => manL_len (h m hm)
  have h2 : 11200 * (l.take k).length ≤ 11200 * 100 := Nat.mul_le_mul_left _ (by rw [List.length_take]; omega)
  unfold textL; omega
theorem text_lg {l : List Man} (h : 100 < l.length) : mansF l = 2 := if_pos h
theorem str_app {a : List UInt8} (b : ByteArray) : (strL a ++ b).data.toList = a ++ b.data.toList := by rw [ba_app, strL_list]


set_option maxRecDepth 100000 in
set_option maxHeartbeats 8000000 in
theorem c_rText (l : List Man) (ho : ∀ m ∈ l, okMan m) : ACallT Tryz.prog TabI 20 [.sl (l.map Man.ds)] (.tup [.v (.string (textS l)), .v (.int .i64 (textF l))]) := by
  refine acall_ofT (n := 97) (ds' := [.v (.string (textS l)), .v (.int .i64 (textF l))]) Tryz.func20 rfl (by kernel_rfl) rfl [2, 3] rfl rfl ?_
  intro B w0 F0 hT
  have ml1 : (⟨#[32]⟩ : ByteArray).size = 1 := rfl
  have ml2 : sp1.size = 1 := rfl
  have ml3 : nl1.size = 1 := rfl
  refine AWP.seq ?_
  refine AWP.region ?_
  refine AOps.step rfl rfl rfl (AOp.assignD rfl rfl) ?_
  refine AOps.step rfl rfl rfl (AOp.assignD rfl rfl) ?_
  refine AOps.nil ?_
  refine AWP.seq ?_
  refine AWP.seq ?_
  refine AWP.region ?_
  refine AOps.step rfl rfl rfl (AOp.moveD rfl rfl) ?_
  refine AOps.step rfl rfl rfl (AOp.lenSl rfl et_22.ht rfl) ?_
  refine AOps.step rfl rfl rfl (AOp.gtr rfl rfl rfl) ?_
  refine AOps.nil ?_
  refine AWP.cond rfl (fun h1 => ?_) (fun h1 => ?_)
  · replace h1 := of_decide_eq_true h1
    rw [List.length_map] at h1
    obtain ⟨HF, HS⟩ := text_bad (text_lg (l := l) (by omega)) (by decide)
    rw [HF, HS]
    refine AWP.seq ?_
    refine AWP.region ?_
    refine AOps.step rfl rfl rfl (AOp.assignD rfl rfl) ?_
    refine AOps.step rfl rfl rfl (AOp.assignD rfl rfl) ?_
    refine AOps.nil ?_
    refine AWP.ret ?_
    refine ⟨RetD.eq rfl ?_, RetD.eq rfl ?_, trivial⟩
    all_goals (rfl)
  · replace h1 := of_decide_eq_false h1
    rw [List.length_map] at h1
    have n0 : ¬ 100 < l.length := by omega
    refine AWP.skip ?_
    refine AWP.seq ?_
    refine AWP.region ?_
    refine AOps.step rfl rfl rfl (AOp.assignD rfl rfl) ?_
    refine AOps.nil ?_
    refine AWP.seq ?_
    refine AWP.seq ?_
    refine AWP.region ?_
    refine AOps.step rfl rfl rfl (AOp.moveD rfl rfl) ?_
    refine AOps.step rfl rfl rfl (AOp.lenSl rfl et_22.ht rfl) ?_
    refine AOps.step rfl rfl rfl (AOp.moveD rfl rfl) ?_
    refine AOps.nil ?_
    refine AWP.block ?_
    refine AWP.loop (G := Nat) (fun k => Env.of [(15, .d (.v (.int .i64 (k : Int)))), (13, .d (.sl (l.map Man.ds))), (14, .d (.v (.int .i64 ((l.map Man.ds).length : Int)))), (0, .d (.sl (l.map Man.ds))), (4, .d (.v (.string (strL (textL l k)))))]) (fun k => []) (fun k => k ≤ l.length ∧ ffst (manF l) k = 0) (fun k => l.length - k) 0 ⟨Nat.zero_le _, rfl⟩ (Sub.less ⟨(SLe.of_eq rfl), SLe.refl _, SLe.refl _, SLe.refl _, (sEq rfl), trivial⟩ (fun _ h => h)) ?_
    intro k hk
    refine AWP.seq ?_
    refine AWP.region ?_
    refine AOps.step rfl rfl rfl (AOp.lss rfl rfl rfl) ?_
    refine AOps.nil ?_
    refine AWP.seq ?_
    refine AWP.cond rfl (fun h2 => ?_) (fun h2 => ?_)
    · replace h2 := of_decide_eq_true h2
      rw [List.length_map] at h2
      have hlt : k < l.length := by omega
      have hTl := textL_lenW (pre_ok hk.1 hk.2) n0
      have HT := textL_next hlt
      refine AWP.skip ?_
      refine AWP.seq ?_
      refine AWP.block ?_
      refine AWP.seq ?_
      refine AWP.region ?_
      refine AOps.step rfl rfl rfl (AOp.moveD rfl rfl) ?_
      refine AOps.step rfl rfl rfl (AOp.indexAddr rfl et_22 rfl rfl k rfl (at_lst hlt) rfl) ?_
      refine AOps.step rfl rfl rfl (AOp.loadAgg rfl ag_40 rfl rfl) ?_
      refine AOps.alloc 101 rfl rfl rfl rfl zt_40 rfl rfl rfl ?_
      refine AOps.step rfl rfl rfl (AOp.assignD rfl rfl) ?_
      refine AOps.store rfl rfl rfl sz_40 rfl (.head _) rfl rfl rfl (Nat.le_of_ble_eq_true rfl) ?_
      refine AOps.freezeCells 6 (ds := l[k].ds) rfl (.head _) ?_
      refine AOps.nil ?_
      refine AWP.seq ?_
      refine AWP.seq ?_
      refine AWP.region ?_
      refine AOps.step rfl rfl rfl (AOp.loadAgg rfl ag_40 rfl rfl) ?_
      refine AOps.step rfl rfl rfl (AOp.call rfl (.cons (ArgOk.rfl' rfl) .nil) (c_rMan l[k] (ho _ (List.getElem_mem hlt)).1)) ?_
      refine AOps.step rfl rfl rfl (AOp.assignD rfl rfl) ?_
      refine AOps.nil ?_
      refine AWP.seq ?_
      refine AWP.region ?_
      refine AOps.step rfl rfl rfl (AOp.moveD rfl rfl) ?_
      refine AOps.step rfl rfl rfl (AOp.neq rfl rfl rfl) ?_
      refine AOps.nil ?_
      refine AWP.cond rfl (fun h3 => ?_) (fun h3 => ?_)
      · replace h3 := of_decide_eq_true h3
        obtain ⟨HF, HS⟩ := text_bad (mans_hit n0 hk.2 hlt (man_f hlt h3) h3) (h3)
        rw [HF, HS]
        refine AWP.seq ?_
        refine AWP.region ?_
        refine AOps.step rfl rfl rfl (AOp.moveD rfl rfl) ?_
        refine AOps.step rfl rfl rfl (AOp.assignD rfl rfl) ?_
        refine AOps.step rfl rfl rfl (AOp.assignD rfl rfl) ?_
        refine AOps.nil ?_
        refine AWP.ret ?_
        refine ⟨RetD.eq rfl ?_, RetD.eq rfl ?_, trivial⟩
        all_goals (rfl)
      · replace h3 := of_decide_eq_false h3
        have h0 : manFault l[k] = 0 := by omega
        obtain ⟨hi1, ⟨hi2, hi3⟩, ⟨hi4, hi5⟩, hi6⟩ := man_ok h0
        have hsu := (ho _ (List.getElem_mem hlt)).2
        have iz1 := itoa_sz (n := l[k].size) ⟨by omega, by omega⟩
        have iz2 := itoa_sz (n := l[k].block) ⟨by omega, by omega⟩
        have hml := mLine_size (man_ok h0)
        have hmz : (mLine l[k]).data.toList.length = (mLine l[k]).size := (Lib.size_eq _).symm
        refine AWP.skip ?_
        refine AWP.seq ?_
        refine AWP.seq ?_
        refine AWP.draw (by kernel_rfl) (by kernel_rfl) ?_
        refine DRun.step rfl rfl rfl (AOp.moveD rfl rfl) ?_
        refine DRun.step rfl rfl rfl (AOp.gtr rfl rfl rfl) ?_
        refine DRun.step rfl rfl rfl (AOp.moveD rfl rfl) ?_
        refine DRun.split 27 rfl (fun g4 => ?_) (fun g4 => ?_)
        · replace g4 := of_decide_eq_true g4
          have hk0 : 0 < k := by omega
          refine DRun.step ⟨27, rfl, .inl ⟨_, rfl, rfl⟩⟩ rfl rfl (AOp.fieldAddr rfl fo_40_0 rfl) ?_
          refine DRun.step ⟨27, rfl, .inl ⟨_, rfl, rfl⟩⟩ rfl rfl (AOp.load rfl sc_9 rfl) ?_
          refine DRun.step ⟨27, rfl, .inl ⟨_, rfl, rfl⟩⟩ rfl rfl (AOp.moveD rfl rfl) ?_
          refine DRun.step ⟨27, rfl, .inl ⟨_, rfl, rfl⟩⟩ rfl rfl (AOp.moveD rfl rfl) ?_
          refine DRun.step ⟨27, rfl, .inl ⟨_, rfl, rfl⟩⟩ rfl rfl (AOp.sub64 rfl rfl rfl (by omega) (by omega)) ?_
          refine DRun.step ⟨27, rfl, .inl ⟨_, rfl, rfl⟩⟩ rfl rfl (AOp.indexAddr rfl et_22 rfl rfl (k - 1) (by omega) (at_lst (by omega)) rfl) ?_
          refine DRun.step ⟨27, rfl, .inl ⟨_, rfl, rfl⟩⟩ rfl rfl (AOp.fieldAddr rfl fo_40_0 rfl) ?_
          refine DRun.step ⟨27, rfl, .inl ⟨_, rfl, rfl⟩⟩ rfl rfl (AOp.load rfl sc_9 rfl) ?_
          refine DRun.step ⟨27, rfl, .inl ⟨_, rfl, rfl⟩⟩ rfl rfl (AOp.sleq rfl rfl rfl) ?_
          refine DRun.step rfl rfl rfl (AOp.pickT rfl rfl rfl) ?_
          refine DRun.nil ?_
          refine AWP.cond rfl (fun h5 => ?_) (fun h5 => ?_)
          · skip
            obtain ⟨HF, HS⟩ := text_bad (mans_hit n0 hk.2 hlt (man_8 hlt h0 hk0 h5) (by decide)) (by decide)
            rw [HF, HS]
            refine AWP.seq ?_
            refine AWP.region ?_
            refine AOps.step rfl rfl rfl (AOp.assignD rfl rfl) ?_
            refine AOps.step rfl rfl rfl (AOp.assignD rfl rfl) ?_
            refine AOps.nil ?_
            refine AWP.ret ?_
            refine ⟨RetD.eq rfl ?_, RetD.eq rfl ?_, trivial⟩
            all_goals (rfl)
          · skip
            have HN := man_idx hlt h0 (fun _ => h5)
            refine AWP.skip ?_
            refine AWP.seq ?_
            refine AWP.drawK (by kernel_rfl) (by kernel_rfl) ?_
            refine KRun.step rfl rfl rfl (AOp.toK (AOp.moveD rfl rfl)) ?_
            refine KRun.step rfl rfl rfl (AOp.toK (AOp.fieldAddr rfl fo_40_0 rfl)) ?_
            refine KRun.step rfl rfl rfl (AOp.toK (AOp.load rfl sc_9 rfl)) ?_
            refine KRun.step rfl rfl rfl (AOp.toK (AOp.cat rfl rfl rfl (by (try simp only [ByteArray.size_append, hexB_size, strL_size, szMk, List.size_toArray, List.length_cons, List.length_nil, List.length_append]); omega))) ?_
            refine KRun.step rfl rfl rfl (AOp.toK (AOp.fieldAddr rfl fo_40_1 rfl)) ?_
            refine KRun.step rfl rfl rfl (AOp.toK (AOp.load rfl sc_3 rfl)) ?_
            refine KRun.step rfl rfl rfl (AOpK.callT tabI_at.stays rfl hT rfl (.cons (ArgOk.rfl' rfl) .nil) (c_itoa l[k].size (by omega) (by omega))) ?_
            refine KRun.step rfl rfl rfl (AOp.toK (AOp.cat rfl rfl rfl (by (try simp only [ByteArray.size_append, hexB_size, strL_size, szMk, List.size_toArray, List.length_cons, List.length_nil, List.length_append]); omega))) ?_
            refine KRun.step rfl rfl rfl (AOp.toK (AOp.cat rfl rfl rfl (by (try simp only [ByteArray.size_append, hexB_size, strL_size, szMk, List.size_toArray, List.length_cons, List.length_nil, List.length_append]); omega))) ?_
            refine KRun.step rfl rfl rfl (AOp.toK (AOp.fieldAddr rfl fo_40_2 rfl)) ?_
            refine KRun.step rfl rfl rfl (AOp.toK (AOp.load rfl sc_3 rfl)) ?_
            refine KRun.step rfl rfl rfl (AOpK.callT tabI_at.stays rfl hT rfl (.cons (ArgOk.rfl' rfl) .nil) (c_itoa l[k].block (by omega) (by omega))) ?_
            refine KRun.step rfl rfl rfl (AOp.toK (AOp.cat rfl rfl rfl (by (try simp only [ByteArray.size_append, hexB_size, strL_size, szMk, List.size_toArray, List.length_cons, List.length_nil, List.length_append]); omega))) ?_
            refine KRun.step rfl rfl rfl (AOp.toK (AOp.cat rfl rfl rfl (by (try simp only [ByteArray.size_append, hexB_size, strL_size, szMk, List.size_toArray, List.length_cons, List.length_nil, List.length_append]); omega))) ?_
            refine KRun.step rfl rfl rfl (AOp.toK (AOp.fieldAddr rfl fo_40_3 rfl)) ?_
            refine KRun.step rfl rfl rfl (AOp.toK (AOp.load rfl sc_38 rfl)) ?_
            refine KRun.step rfl rfl rfl (AOp.toK (AOp.call rfl (.cons (ArgOk.rfl' rfl) .nil) (c_rRoot l[k].sums hsu (by omega)))) ?_
            refine KRun.step rfl rfl rfl (AOp.toK (AOp.call rfl (.cons (ArgOk.rfl' rfl) (.cons (ArgOk.rfl' rfl) .nil)) (c_digits (rootN l[k].sums) 16 (rootN_lt _) (by decide)))) ?_
            refine KRun.step rfl rfl rfl (AOp.toK (AOp.cat rfl rfl rfl (by (try simp only [ByteArray.size_append, hexB_size, strL_size, szMk, List.size_toArray, List.length_cons, List.length_nil, List.length_append]); omega))) ?_
            refine KRun.step rfl rfl rfl (AOp.toK (AOp.cat rfl rfl rfl (by (try simp only [ByteArray.size_append, hexB_size, strL_size, szMk, List.size_toArray, List.length_cons, List.length_nil, List.length_append]); omega))) ?_
            refine KRun.step rfl rfl rfl (AOp.toK (AOp.cat rfl rfl rfl (by (try simp only [ByteArray.size_append, hexB_size, strL_size, szMk, List.size_toArray, List.length_cons, List.length_nil, List.length_append]); omega))) ?_
            refine KRun.step rfl rfl rfl (AOp.toK (AOp.assignD rfl rfl)) ?_
            refine KRun.nil ?_
            refine AWP.seq ?_
            refine AWP.region ?_
            refine AOps.step rfl rfl rfl (AOp.fieldAddr rfl fo_40_3 rfl) ?_
            refine AOps.step rfl rfl rfl (AOp.load rfl sc_38 rfl) ?_
            refine AOps.step rfl rfl rfl (AOp.lenSl rfl et_38.ht rfl) ?_
            refine AOps.step rfl rfl rfl (AOp.moveD rfl rfl) ?_
            refine AOps.nil ?_
            refine AWP.block ?_
            refine AWP.loop (G := Nat) (fun i => Env.of [(62, .d (.v (.int .i64 (i : Int)))), (60, .d (.sl (l[k].sums.map u32D))), (61, .d (.v (.int .i64 ((l[k].sums.map u32D).length : Int)))), (15, .d (.v (.int .i64 (k : Int)))), (13, .d (.sl (l.map Man.ds))), (14, .d (.v (.int .i64 ((l.map Man.ds).length : Int)))), (0, .d (.sl (l.map Man.ds))), (6, .d (.fp l[k].ds)), (4, .d (.v (.string (strL ((textL l k ++ (mLine l[k]).data.toList) ++ sumsL l[k].sums i)))))]) (fun i => []) (fun i => i ≤ l[k].sums.length) (fun i => l[k].sums.length - i) 0 (Nat.zero_le _) (Sub.less ⟨(SLe.of_eq rfl), SLe.refl _, SLe.refl _, SLe.refl _, SLe.refl _, SLe.refl _, SLe.refl _, SLe.refl _, (sEq (by rw [str_app]; show textL l k ++ (mLine l[k]).data.toList = textL l k ++ (mLine l[k]).data.toList ++ []; rw [List.append_nil])), trivial⟩ (fun _ h => h)) ?_
            intro i hi
            refine AWP.seq ?_
            refine AWP.region ?_
            refine AOps.step rfl rfl rfl (AOp.lss rfl rfl rfl) ?_
            refine AOps.nil ?_
            refine AWP.seq ?_
            refine AWP.cond rfl (fun h6 => ?_) (fun h6 => ?_)
            · replace h6 := of_decide_eq_true h6
              rw [List.length_map] at h6
              have hil : i < l[k].sums.length := by omega
              have hsl := sumsL_len l[k].sums i
              have hg32 := sums_get hsu i
              have hmp2 : (l[k].sums.map u32D).length = l[k].sums.length := List.length_map _
              have hpz : (sp1 ++ hexB (l[k].sums.getD i 0) 8).data.toList.length = 9 := by rw [← Lib.size_eq, ByteArray.size_append, hexB_size]; rfl
              refine AWP.skip ?_
              refine AWP.seq ?_
              refine AWP.block ?_
              refine AWP.seq ?_
              refine AWP.region ?_
              refine AOps.step rfl rfl rfl (AOp.moveD rfl rfl) ?_
              refine AOps.step rfl rfl rfl (AOp.indexAddr rfl et_38 rfl rfl i rfl (at_sums hil) rfl) ?_
              refine AOps.step rfl rfl rfl (AOp.load rfl sc_53 rfl) ?_
              refine AOps.step rfl rfl rfl (AOp.assignD rfl rfl) ?_
              refine AOps.step rfl rfl rfl (AOp.assignD rfl rfl) ?_
              refine AOps.nil ?_
              refine AWP.seq ?_
              refine AWP.seq ?_
              refine AWP.region ?_
              refine AOps.step rfl rfl rfl (AOp.moveD rfl rfl) ?_
              refine AOps.step rfl rfl rfl (AOp.rem64 rfl rfl rfl (by omega) (by omega)) ?_
              refine AOps.step rfl rfl rfl (AOp.eql rfl rfl rfl) ?_
              refine AOps.nil ?_
              refine AWP.cond rfl (fun h7 => ?_) (fun h7 => ?_)
              · replace h7 := of_decide_eq_true h7
                have e1 : i % 8 = 0 := by omega
                refine AWP.region ?_
                refine AOps.step rfl rfl rfl (AOp.moveD rfl rfl) ?_
                refine AOps.step rfl rfl rfl (AOp.cat rfl rfl rfl (by (try simp only [ByteArray.size_append, hexB_size, strL_size, szMk, List.size_toArray, List.length_cons, List.length_nil, List.length_append]); omega)) ?_
                refine AOps.step rfl rfl rfl (AOp.assignD rfl rfl) ?_
                refine AOps.nil ?_
                refine AWP.seq ?_
                refine AWP.region ?_
                refine AOps.step rfl rfl rfl (AOp.moveD rfl rfl) ?_
                refine AOps.step rfl rfl rfl (AOp.moveD rfl rfl) ?_
                refine AOps.step rfl rfl rfl (AOp.convSame rfl cvU rfl (wrapU64 (by omega) (by omega))) ?_
                refine AOps.step rfl rfl rfl (AOp.call rfl (.cons (ArgOk.rfl' rfl) (.cons (ArgOk.rfl' rfl) .nil)) (c_digits (l[k].sums.getD i 0) 8 (by omega) (by decide))) ?_
                refine AOps.step rfl rfl rfl (AOp.cat rfl rfl rfl (by (try simp only [ByteArray.size_append, hexB_size, strL_size, szMk, List.size_toArray, List.length_cons, List.length_nil, List.length_append]); omega)) ?_
                refine AOps.step rfl rfl rfl (AOp.cat rfl rfl rfl (by (try simp only [ByteArray.size_append, hexB_size, strL_size, szMk, List.size_toArray, List.length_cons, List.length_nil, List.length_append]); omega)) ?_
                refine AOps.step rfl rfl rfl (AOp.assignD rfl rfl) ?_
                refine AOps.nil ?_
                refine AWP.seq ?_
                refine AWP.region ?_
                refine AOps.step rfl rfl rfl (AOp.moveD rfl rfl) ?_
                refine AOps.step rfl rfl rfl (AOp.rem64 rfl rfl rfl (by omega) (by omega)) ?_
                refine AOps.step rfl rfl rfl (AOp.eql rfl rfl rfl) ?_
                refine AOps.step rfl rfl rfl (AOp.moveD rfl rfl) ?_
                refine AOps.split 81 rfl (fun g8 => ?_) (fun g8 => ?_)
                · replace g8 := of_decide_eq_true g8
                  have e2 : i % 8 = 7 ∨ i + 1 = l[k].sums.length := .inl (by omega)
                  refine AOps.pass ⟨81, rfl, .inl ⟨_, rfl, rfl⟩⟩ rfl rfl ?_
                  refine AOps.pass ⟨81, rfl, .inl ⟨_, rfl, rfl⟩⟩ rfl rfl ?_
                  refine AOps.pass ⟨81, rfl, .inl ⟨_, rfl, rfl⟩⟩ rfl rfl ?_
                  refine AOps.pass ⟨81, rfl, .inl ⟨_, rfl, rfl⟩⟩ rfl rfl ?_
                  refine AOps.pass ⟨81, rfl, .inl ⟨_, rfl, rfl⟩⟩ rfl rfl ?_
                  refine AOps.pass ⟨81, rfl, .inl ⟨_, rfl, rfl⟩⟩ rfl rfl ?_
                  refine AOps.step rfl rfl rfl (AOp.pickT rfl rfl rfl) ?_
                  refine AOps.nil ?_
                  refine AWP.cond rfl (fun _ => ?_) (fun h => nomatch h)
                  refine AWP.region ?_
                  refine AOps.step rfl rfl rfl (AOp.moveD rfl rfl) ?_
                  refine AOps.step rfl rfl rfl (AOp.cat rfl rfl rfl (by (try simp only [ByteArray.size_append, hexB_size, strL_size, szMk, List.size_toArray, List.length_cons, List.length_nil, List.length_append]); omega)) ?_
                  refine AOps.step rfl rfl rfl (AOp.assignD rfl rfl) ?_
                  refine AOps.nil ?_
                  refine AWP.region ?_
                  refine AOps.step rfl rfl rfl (AOp.add64 rfl rfl rfl (by omega) (by omega)) ?_
                  refine AOps.step rfl rfl rfl (AOp.moveD rfl rfl) ?_
                  refine AOps.nil ?_
                  refine ⟨i + 1, (by omega), (by dsimp only; omega), Sub.less ⟨(SLe.of_eq rfl), SLe.refl _, SLe.refl _, SLe.refl _, SLe.refl _, SLe.refl _, SLe.refl _, SLe.refl _, (sEq (by (try rw [str_app]); (try rw [str_app]); (try rw [ba_app]); (try rw [ba_app]); (try rw [ba_app]); (try rw [strL_list]); rw [sumsL_next]; unfold sumP; (first | rw [if_pos e1] | rw [if_neg e1]); (first | rw [if_pos e2] | rw [if_neg e2]); (try simp only [List.append_assoc, List.nil_append, List.append_nil]); first | done | rfl)), trivial⟩ (fun _ h => h)⟩
                · replace g8 := of_decide_eq_false g8
                  have e7 : ¬ i % 8 = 7 := by omega
                  refine AOps.step ⟨81, rfl, .inl ⟨_, rfl, rfl⟩⟩ rfl rfl (AOp.moveD rfl rfl) ?_
                  refine AOps.step ⟨81, rfl, .inl ⟨_, rfl, rfl⟩⟩ rfl rfl (AOp.add64 rfl rfl rfl (by omega) (by omega)) ?_
                  refine AOps.step ⟨81, rfl, .inl ⟨_, rfl, rfl⟩⟩ rfl rfl (AOp.fieldAddr rfl fo_40_3 rfl) ?_
                  refine AOps.step ⟨81, rfl, .inl ⟨_, rfl, rfl⟩⟩ rfl rfl (AOp.load rfl sc_38 rfl) ?_
                  refine AOps.step ⟨81, rfl, .inl ⟨_, rfl, rfl⟩⟩ rfl rfl (AOp.lenSl rfl et_38.ht rfl) ?_
                  refine AOps.step ⟨81, rfl, .inl ⟨_, rfl, rfl⟩⟩ rfl rfl (AOp.eql rfl rfl rfl) ?_
                  refine AOps.step rfl rfl rfl (AOp.pickF rfl rfl rfl) ?_
                  refine AOps.nil ?_
                  refine AWP.cond rfl (fun h9 => ?_) (fun h9 => ?_)
                  · replace h9 := of_decide_eq_true h9
                    have e2 : i % 8 = 7 ∨ i + 1 = l[k].sums.length := by first | (exact .inl (by omega)) | (refine .inr ?_; rw [List.length_map] at h9; omega)
                    refine AWP.region ?_
                    refine AOps.step rfl rfl rfl (AOp.moveD rfl rfl) ?_
                    refine AOps.step rfl rfl rfl (AOp.cat rfl rfl rfl (by (try simp only [ByteArray.size_append, hexB_size, strL_size, szMk, List.size_toArray, List.length_cons, List.length_nil, List.length_append]); omega)) ?_
                    refine AOps.step rfl rfl rfl (AOp.assignD rfl rfl) ?_
                    refine AOps.nil ?_
                    refine AWP.region ?_
                    refine AOps.step rfl rfl rfl (AOp.add64 rfl rfl rfl (by omega) (by omega)) ?_
                    refine AOps.step rfl rfl rfl (AOp.moveD rfl rfl) ?_
                    refine AOps.nil ?_
                    refine ⟨i + 1, (by omega), (by dsimp only; omega), Sub.less ⟨(SLe.of_eq rfl), SLe.refl _, SLe.refl _, SLe.refl _, SLe.refl _, SLe.refl _, SLe.refl _, SLe.refl _, (sEq (by (try rw [str_app]); (try rw [str_app]); (try rw [ba_app]); (try rw [ba_app]); (try rw [ba_app]); (try rw [strL_list]); rw [sumsL_next]; unfold sumP; (first | rw [if_pos e1] | rw [if_neg e1]); (first | rw [if_pos e2] | rw [if_neg e2]); (try simp only [List.append_assoc, List.nil_append, List.append_nil]); first | done | rfl)), trivial⟩ (fun _ h => h)⟩
                  · replace h9 := of_decide_eq_false h9
                    have e2 : ¬ (i % 8 = 7 ∨ i + 1 = l[k].sums.length) := by rw [List.length_map] at h9; omega
                    refine AWP.skip ?_
                    refine AWP.region ?_
                    refine AOps.step rfl rfl rfl (AOp.add64 rfl rfl rfl (by omega) (by omega)) ?_
                    refine AOps.step rfl rfl rfl (AOp.moveD rfl rfl) ?_
                    refine AOps.nil ?_
                    refine ⟨i + 1, (by omega), (by dsimp only; omega), Sub.less ⟨(SLe.of_eq rfl), SLe.refl _, SLe.refl _, SLe.refl _, SLe.refl _, SLe.refl _, SLe.refl _, SLe.refl _, (sEq (by (try rw [str_app]); (try rw [str_app]); (try rw [ba_app]); (try rw [ba_app]); (try rw [ba_app]); (try rw [strL_list]); rw [sumsL_next]; unfold sumP; (first | rw [if_pos e1] | rw [if_neg e1]); (first | rw [if_pos e2] | rw [if_neg e2]); (try simp only [List.append_assoc, List.nil_append, List.append_nil]); first | done | rfl)), trivial⟩ (fun _ h => h)⟩
              · replace h7 := of_decide_eq_false h7
                have e1 : ¬ i % 8 = 0 := by omega
                refine AWP.skip ?_
                refine AWP.seq ?_
                refine AWP.region ?_
                refine AOps.step rfl rfl rfl (AOp.moveD rfl rfl) ?_
                refine AOps.step rfl rfl rfl (AOp.moveD rfl rfl) ?_
                refine AOps.step rfl rfl rfl (AOp.convSame rfl cvU rfl (wrapU64 (by omega) (by omega))) ?_
                refine AOps.step rfl rfl rfl (AOp.call rfl (.cons (ArgOk.rfl' rfl) (.cons (ArgOk.rfl' rfl) .nil)) (c_digits (l[k].sums.getD i 0) 8 (by omega) (by decide))) ?_
                refine AOps.step rfl rfl rfl (AOp.cat rfl rfl rfl (by (try simp only [ByteArray.size_append, hexB_size, strL_size, szMk, List.size_toArray, List.length_cons, List.length_nil, List.length_append]); omega)) ?_
                refine AOps.step rfl rfl rfl (AOp.cat rfl rfl rfl (by (try simp only [ByteArray.size_append, hexB_size, strL_size, szMk, List.size_toArray, List.length_cons, List.length_nil, List.length_append]); omega)) ?_
                refine AOps.step rfl rfl rfl (AOp.assignD rfl rfl) ?_
                refine AOps.nil ?_
                refine AWP.seq ?_
                refine AWP.region ?_
                refine AOps.step rfl rfl rfl (AOp.moveD rfl rfl) ?_
                refine AOps.step rfl rfl rfl (AOp.rem64 rfl rfl rfl (by omega) (by omega)) ?_
                refine AOps.step rfl rfl rfl (AOp.eql rfl rfl rfl) ?_
                refine AOps.step rfl rfl rfl (AOp.moveD rfl rfl) ?_
                refine AOps.split 81 rfl (fun g10 => ?_) (fun g10 => ?_)
                · replace g10 := of_decide_eq_true g10
                  have e2 : i % 8 = 7 ∨ i + 1 = l[k].sums.length := .inl (by omega)
                  refine AOps.pass ⟨81, rfl, .inl ⟨_, rfl, rfl⟩⟩ rfl rfl ?_
                  refine AOps.pass ⟨81, rfl, .inl ⟨_, rfl, rfl⟩⟩ rfl rfl ?_
                  refine AOps.pass ⟨81, rfl, .inl ⟨_, rfl, rfl⟩⟩ rfl rfl ?_
                  refine AOps.pass ⟨81, rfl, .inl ⟨_, rfl, rfl⟩⟩ rfl rfl ?_
                  refine AOps.pass ⟨81, rfl, .inl ⟨_, rfl, rfl⟩⟩ rfl rfl ?_
                  refine AOps.pass ⟨81, rfl, .inl ⟨_, rfl, rfl⟩⟩ rfl rfl ?_
                  refine AOps.step rfl rfl rfl (AOp.pickT rfl rfl rfl) ?_
                  refine AOps.nil ?_
                  refine AWP.cond rfl (fun _ => ?_) (fun h => nomatch h)
                  refine AWP.region ?_
                  refine AOps.step rfl rfl rfl (AOp.moveD rfl rfl) ?_
                  refine AOps.step rfl rfl rfl (AOp.cat rfl rfl rfl (by (try simp only [ByteArray.size_append, hexB_size, strL_size, szMk, List.size_toArray, List.length_cons, List.length_nil, List.length_append]); omega)) ?_
                  refine AOps.step rfl rfl rfl (AOp.assignD rfl rfl) ?_
                  refine AOps.nil ?_
                  refine AWP.region ?_
                  refine AOps.step rfl rfl rfl (AOp.add64 rfl rfl rfl (by omega) (by omega)) ?_
                  refine AOps.step rfl rfl rfl (AOp.moveD rfl rfl) ?_
                  refine AOps.nil ?_
                  refine ⟨i + 1, (by omega), (by dsimp only; omega), Sub.less ⟨(SLe.of_eq rfl), SLe.refl _, SLe.refl _, SLe.refl _, SLe.refl _, SLe.refl _, SLe.refl _, SLe.refl _, (sEq (by (try rw [str_app]); (try rw [str_app]); (try rw [ba_app]); (try rw [ba_app]); (try rw [ba_app]); (try rw [strL_list]); rw [sumsL_next]; unfold sumP; (first | rw [if_pos e1] | rw [if_neg e1]); (first | rw [if_pos e2] | rw [if_neg e2]); (try simp only [List.append_assoc, List.nil_append, List.append_nil]); first | done | rfl)), trivial⟩ (fun _ h => h)⟩
                · replace g10 := of_decide_eq_false g10
                  have e7 : ¬ i % 8 = 7 := by omega
                  refine AOps.step ⟨81, rfl, .inl ⟨_, rfl, rfl⟩⟩ rfl rfl (AOp.moveD rfl rfl) ?_
                  refine AOps.step ⟨81, rfl, .inl ⟨_, rfl, rfl⟩⟩ rfl rfl (AOp.add64 rfl rfl rfl (by omega) (by omega)) ?_
                  refine AOps.step ⟨81, rfl, .inl ⟨_, rfl, rfl⟩⟩ rfl rfl (AOp.fieldAddr rfl fo_40_3 rfl) ?_
                  refine AOps.step ⟨81, rfl, .inl ⟨_, rfl, rfl⟩⟩ rfl rfl (AOp.load rfl sc_38 rfl) ?_
                  refine AOps.step ⟨81, rfl, .inl ⟨_, rfl, rfl⟩⟩ rfl rfl (AOp.lenSl rfl et_38.ht rfl) ?_
                  refine AOps.step ⟨81, rfl, .inl ⟨_, rfl, rfl⟩⟩ rfl rfl (AOp.eql rfl rfl rfl) ?_
                  refine AOps.step rfl rfl rfl (AOp.pickF rfl rfl rfl) ?_
                  refine AOps.nil ?_
                  refine AWP.cond rfl (fun h11 => ?_) (fun h11 => ?_)
                  · replace h11 := of_decide_eq_true h11
                    have e2 : i % 8 = 7 ∨ i + 1 = l[k].sums.length := by first | (exact .inl (by omega)) | (refine .inr ?_; rw [List.length_map] at h11; omega)
                    refine AWP.region ?_
                    refine AOps.step rfl rfl rfl (AOp.moveD rfl rfl) ?_
                    refine AOps.step rfl rfl rfl (AOp.cat rfl rfl rfl (by (try simp only [ByteArray.size_append, hexB_size, strL_size, szMk, List.size_toArray, List.length_cons, List.length_nil, List.length_append]); omega)) ?_
                    refine AOps.step rfl rfl rfl (AOp.assignD rfl rfl) ?_
                    refine AOps.nil ?_
                    refine AWP.region ?_
                    refine AOps.step rfl rfl rfl (AOp.add64 rfl rfl rfl (by omega) (by omega)) ?_
                    refine AOps.step rfl rfl rfl (AOp.moveD rfl rfl) ?_
                    refine AOps.nil ?_
                    refine ⟨i + 1, (by omega), (by dsimp only; omega), Sub.less ⟨(SLe.of_eq rfl), SLe.refl _, SLe.refl _, SLe.refl _, SLe.refl _, SLe.refl _, SLe.refl _, SLe.refl _, (sEq (by (try rw [str_app]); (try rw [str_app]); (try rw [ba_app]); (try rw [ba_app]); (try rw [ba_app]); (try rw [strL_list]); rw [sumsL_next]; unfold sumP; (first | rw [if_pos e1] | rw [if_neg e1]); (first | rw [if_pos e2] | rw [if_neg e2]); (try simp only [List.append_assoc, List.nil_append, List.append_nil]); first | done | rfl)), trivial⟩ (fun _ h => h)⟩
                  · replace h11 := of_decide_eq_false h11
                    have e2 : ¬ (i % 8 = 7 ∨ i + 1 = l[k].sums.length) := by rw [List.length_map] at h11; omega
                    refine AWP.skip ?_
                    refine AWP.region ?_
                    refine AOps.step rfl rfl rfl (AOp.add64 rfl rfl rfl (by omega) (by omega)) ?_
                    refine AOps.step rfl rfl rfl (AOp.moveD rfl rfl) ?_
                    refine AOps.nil ?_
                    refine ⟨i + 1, (by omega), (by dsimp only; omega), Sub.less ⟨(SLe.of_eq rfl), SLe.refl _, SLe.refl _, SLe.refl _, SLe.refl _, SLe.refl _, SLe.refl _, SLe.refl _, (sEq (by (try rw [str_app]); (try rw [str_app]); (try rw [ba_app]); (try rw [ba_app]); (try rw [ba_app]); (try rw [strL_list]); rw [sumsL_next]; unfold sumP; (first | rw [if_pos e1] | rw [if_neg e1]); (first | rw [if_pos e2] | rw [if_neg e2]); (try simp only [List.append_assoc, List.nil_append, List.append_nil]); first | done | rfl)), trivial⟩ (fun _ h => h)⟩
            · replace h6 := of_decide_eq_false h6
              rw [List.length_map] at h6
              obtain rfl : i = l[k].sums.length := by omega
              refine AWP.exit ?_
              refine AWP.region ?_
              refine AOps.step rfl rfl rfl (AOp.add64 rfl rfl rfl (by omega) (by omega)) ?_
              refine AOps.step rfl rfl rfl (AOp.moveD rfl rfl) ?_
              refine AOps.nil ?_
              refine ⟨k + 1, ⟨by omega, ffst_next hk.2 HN⟩, (by dsimp only; omega), Sub.less ⟨(SLe.of_eq rfl), SLe.refl _, SLe.refl _, SLe.refl _, (sEq (by rw [strL_list, HT]; unfold manL; rw [List.append_assoc])), trivial⟩ (fun _ h => h)⟩
        · replace g4 := of_decide_eq_false g4
          have HN := man_idx hlt h0 (fun hh => absurd hh (by omega))
          refine DRun.pass ⟨27, rfl, .inl ⟨_, rfl, rfl⟩⟩ rfl rfl ?_
          refine DRun.pass ⟨27, rfl, .inl ⟨_, rfl, rfl⟩⟩ rfl rfl ?_
          refine DRun.pass ⟨27, rfl, .inl ⟨_, rfl, rfl⟩⟩ rfl rfl ?_
          refine DRun.pass ⟨27, rfl, .inl ⟨_, rfl, rfl⟩⟩ rfl rfl ?_
          refine DRun.pass ⟨27, rfl, .inl ⟨_, rfl, rfl⟩⟩ rfl rfl ?_
          refine DRun.pass ⟨27, rfl, .inl ⟨_, rfl, rfl⟩⟩ rfl rfl ?_
          refine DRun.pass ⟨27, rfl, .inl ⟨_, rfl, rfl⟩⟩ rfl rfl ?_
          refine DRun.pass ⟨27, rfl, .inl ⟨_, rfl, rfl⟩⟩ rfl rfl ?_
          refine DRun.pass ⟨27, rfl, .inl ⟨_, rfl, rfl⟩⟩ rfl rfl ?_
          refine DRun.step rfl rfl rfl (AOp.pickF rfl rfl rfl) ?_
          refine DRun.nil ?_
          refine AWP.cond rfl (fun h => nomatch h) (fun _ => ?_)
          refine AWP.skip ?_
          refine AWP.seq ?_
          refine AWP.drawK (by kernel_rfl) (by kernel_rfl) ?_
          refine KRun.step rfl rfl rfl (AOp.toK (AOp.moveD rfl rfl)) ?_
          refine KRun.step rfl rfl rfl (AOp.toK (AOp.fieldAddr rfl fo_40_0 rfl)) ?_
          refine KRun.step rfl rfl rfl (AOp.toK (AOp.load rfl sc_9 rfl)) ?_
          refine KRun.step rfl rfl rfl (AOp.toK (AOp.cat rfl rfl rfl (by (try simp only [ByteArray.size_append, hexB_size, strL_size, szMk, List.size_toArray, List.length_cons, List.length_nil, List.length_append]); omega))) ?_
          refine KRun.step rfl rfl rfl (AOp.toK (AOp.fieldAddr rfl fo_40_1 rfl)) ?_
          refine KRun.step rfl rfl rfl (AOp.toK (AOp.load rfl sc_3 rfl)) ?_
          refine KRun.step rfl rfl rfl (AOpK.callT tabI_at.stays rfl hT rfl (.cons (ArgOk.rfl' rfl) .nil) (c_itoa l[k].size (by omega) (by omega))) ?_
          refine KRun.step rfl rfl rfl (AOp.toK (AOp.cat rfl rfl rfl (by (try simp only [ByteArray.size_append, hexB_size, strL_size, szMk, List.size_toArray, List.length_cons, List.length_nil, List.length_append]); omega))) ?_
          refine KRun.step rfl rfl rfl (AOp.toK (AOp.cat rfl rfl rfl (by (try simp only [ByteArray.size_append, hexB_size, strL_size, szMk, List.size_toArray, List.length_cons, List.length_nil, List.length_append]); omega))) ?_
          refine KRun.step rfl rfl rfl (AOp.toK (AOp.fieldAddr rfl fo_40_2 rfl)) ?_
          refine KRun.step rfl rfl rfl (AOp.toK (AOp.load rfl sc_3 rfl)) ?_
          refine KRun.step rfl rfl rfl (AOpK.callT tabI_at.stays rfl hT rfl (.cons (ArgOk.rfl' rfl) .nil) (c_itoa l[k].block (by omega) (by omega))) ?_
          refine KRun.step rfl rfl rfl (AOp.toK (AOp.cat rfl rfl rfl (by (try simp only [ByteArray.size_append, hexB_size, strL_size, szMk, List.size_toArray, List.length_cons, List.length_nil, List.length_append]); omega))) ?_
          refine KRun.step rfl rfl rfl (AOp.toK (AOp.cat rfl rfl rfl (by (try simp only [ByteArray.size_append, hexB_size, strL_size, szMk, List.size_toArray, List.length_cons, List.length_nil, List.length_append]); omega))) ?_
          refine KRun.step rfl rfl rfl (AOp.toK (AOp.fieldAddr rfl fo_40_3 rfl)) ?_
          refine KRun.step rfl rfl rfl (AOp.toK (AOp.load rfl sc_38 rfl)) ?_
          refine KRun.step rfl rfl rfl (AOp.toK (AOp.call rfl (.cons (ArgOk.rfl' rfl) .nil) (c_rRoot l[k].sums hsu (by omega)))) ?_
          refine KRun.step rfl rfl rfl (AOp.toK (AOp.call rfl (.cons (ArgOk.rfl' rfl) (.cons (ArgOk.rfl' rfl) .nil)) (c_digits (rootN l[k].sums) 16 (rootN_lt _) (by decide)))) ?_
          refine KRun.step rfl rfl rfl (AOp.toK (AOp.cat rfl rfl rfl (by (try simp only [ByteArray.size_append, hexB_size, strL_size, szMk, List.size_toArray, List.length_cons, List.length_nil, List.length_append]); omega))) ?_
          refine KRun.step rfl rfl rfl (AOp.toK (AOp.cat rfl rfl rfl (by (try simp only [ByteArray.size_append, hexB_size, strL_size, szMk, List.size_toArray, List.length_cons, List.length_nil, List.length_append]); omega))) ?_
          refine KRun.step rfl rfl rfl (AOp.toK (AOp.cat rfl rfl rfl (by (try simp only [ByteArray.size_append, hexB_size, strL_size, szMk, List.size_toArray, List.length_cons, List.length_nil, List.length_append]); omega))) ?_
          refine KRun.step rfl rfl rfl (AOp.toK (AOp.assignD rfl rfl)) ?_
          refine KRun.nil ?_
          refine AWP.seq ?_
          refine AWP.region ?_
          refine AOps.step rfl rfl rfl (AOp.fieldAddr rfl fo_40_3 rfl) ?_
          refine AOps.step rfl rfl rfl (AOp.load rfl sc_38 rfl) ?_
          refine AOps.step rfl rfl rfl (AOp.lenSl rfl et_38.ht rfl) ?_
          refine AOps.step rfl rfl rfl (AOp.moveD rfl rfl) ?_
          refine AOps.nil ?_
          refine AWP.block ?_
          refine AWP.loop (G := Nat) (fun i => Env.of [(62, .d (.v (.int .i64 (i : Int)))), (60, .d (.sl (l[k].sums.map u32D))), (61, .d (.v (.int .i64 ((l[k].sums.map u32D).length : Int)))), (15, .d (.v (.int .i64 (k : Int)))), (13, .d (.sl (l.map Man.ds))), (14, .d (.v (.int .i64 ((l.map Man.ds).length : Int)))), (0, .d (.sl (l.map Man.ds))), (6, .d (.fp l[k].ds)), (4, .d (.v (.string (strL ((textL l k ++ (mLine l[k]).data.toList) ++ sumsL l[k].sums i)))))]) (fun i => []) (fun i => i ≤ l[k].sums.length) (fun i => l[k].sums.length - i) 0 (Nat.zero_le _) (Sub.less ⟨(SLe.of_eq rfl), SLe.refl _, SLe.refl _, SLe.refl _, SLe.refl _, SLe.refl _, SLe.refl _, SLe.refl _, (sEq (by rw [str_app]; show textL l k ++ (mLine l[k]).data.toList = textL l k ++ (mLine l[k]).data.toList ++ []; rw [List.append_nil])), trivial⟩ (fun _ h => h)) ?_
          intro i hi
          refine AWP.seq ?_
          refine AWP.region ?_
          refine AOps.step rfl rfl rfl (AOp.lss rfl rfl rfl) ?_
          refine AOps.nil ?_
          refine AWP.seq ?_
          refine AWP.cond rfl (fun h12 => ?_) (fun h12 => ?_)
          · replace h12 := of_decide_eq_true h12
            rw [List.length_map] at h12
            have hil : i < l[k].sums.length := by omega
            have hsl := sumsL_len l[k].sums i
            have hg32 := sums_get hsu i
            have hmp2 : (l[k].sums.map u32D).length = l[k].sums.length := List.length_map _
            have hpz : (sp1 ++ hexB (l[k].sums.getD i 0) 8).data.toList.length = 9 := by rw [← Lib.size_eq, ByteArray.size_append, hexB_size]; rfl
            refine AWP.skip ?_
            refine AWP.seq ?_
            refine AWP.block ?_
            refine AWP.seq ?_
            refine AWP.region ?_
            refine AOps.step rfl rfl rfl (AOp.moveD rfl rfl) ?_
            refine AOps.step rfl rfl rfl (AOp.indexAddr rfl et_38 rfl rfl i rfl (at_sums hil) rfl) ?_
            refine AOps.step rfl rfl rfl (AOp.load rfl sc_53 rfl) ?_
            refine AOps.step rfl rfl rfl (AOp.assignD rfl rfl) ?_
            refine AOps.step rfl rfl rfl (AOp.assignD rfl rfl) ?_
            refine AOps.nil ?_
            refine AWP.seq ?_
            refine AWP.seq ?_
            refine AWP.region ?_
            refine AOps.step rfl rfl rfl (AOp.moveD rfl rfl) ?_
            refine AOps.step rfl rfl rfl (AOp.rem64 rfl rfl rfl (by omega) (by omega)) ?_
            refine AOps.step rfl rfl rfl (AOp.eql rfl rfl rfl) ?_
            refine AOps.nil ?_
            refine AWP.cond rfl (fun h13 => ?_) (fun h13 => ?_)
            · replace h13 := of_decide_eq_true h13
              have e1 : i % 8 = 0 := by omega
              refine AWP.region ?_
              refine AOps.step rfl rfl rfl (AOp.moveD rfl rfl) ?_
              refine AOps.step rfl rfl rfl (AOp.cat rfl rfl rfl (by (try simp only [ByteArray.size_append, hexB_size, strL_size, szMk, List.size_toArray, List.length_cons, List.length_nil, List.length_append]); omega)) ?_
              refine AOps.step rfl rfl rfl (AOp.assignD rfl rfl) ?_
              refine AOps.nil ?_
              refine AWP.seq ?_
              refine AWP.region ?_
              refine AOps.step rfl rfl rfl (AOp.moveD rfl rfl) ?_
              refine AOps.step rfl rfl rfl (AOp.moveD rfl rfl) ?_
              refine AOps.step rfl rfl rfl (AOp.convSame rfl cvU rfl (wrapU64 (by omega) (by omega))) ?_
              refine AOps.step rfl rfl rfl (AOp.call rfl (.cons (ArgOk.rfl' rfl) (.cons (ArgOk.rfl' rfl) .nil)) (c_digits (l[k].sums.getD i 0) 8 (by omega) (by decide))) ?_
              refine AOps.step rfl rfl rfl (AOp.cat rfl rfl rfl (by (try simp only [ByteArray.size_append, hexB_size, strL_size, szMk, List.size_toArray, List.length_cons, List.length_nil, List.length_append]); omega)) ?_
              refine AOps.step rfl rfl rfl (AOp.cat rfl rfl rfl (by (try simp only [ByteArray.size_append, hexB_size, strL_size, szMk, List.size_toArray, List.length_cons, List.length_nil, List.length_append]); omega)) ?_
              refine AOps.step rfl rfl rfl (AOp.assignD rfl rfl) ?_
              refine AOps.nil ?_
              refine AWP.seq ?_
              refine AWP.region ?_
              refine AOps.step rfl rfl rfl (AOp.moveD rfl rfl) ?_
              refine AOps.step rfl rfl rfl (AOp.rem64 rfl rfl rfl (by omega) (by omega)) ?_
              refine AOps.step rfl rfl rfl (AOp.eql rfl rfl rfl) ?_
              refine AOps.step rfl rfl rfl (AOp.moveD rfl rfl) ?_
              refine AOps.split 81 rfl (fun g14 => ?_) (fun g14 => ?_)
              · replace g14 := of_decide_eq_true g14
                have e2 : i % 8 = 7 ∨ i + 1 = l[k].sums.length := .inl (by omega)
                refine AOps.pass ⟨81, rfl, .inl ⟨_, rfl, rfl⟩⟩ rfl rfl ?_
                refine AOps.pass ⟨81, rfl, .inl ⟨_, rfl, rfl⟩⟩ rfl rfl ?_
                refine AOps.pass ⟨81, rfl, .inl ⟨_, rfl, rfl⟩⟩ rfl rfl ?_
                refine AOps.pass ⟨81, rfl, .inl ⟨_, rfl, rfl⟩⟩ rfl rfl ?_
                refine AOps.pass ⟨81, rfl, .inl ⟨_, rfl, rfl⟩⟩ rfl rfl ?_
                refine AOps.pass ⟨81, rfl, .inl ⟨_, rfl, rfl⟩⟩ rfl rfl ?_
                refine AOps.step rfl rfl rfl (AOp.pickT rfl rfl rfl) ?_
                refine AOps.nil ?_
                refine AWP.cond rfl (fun _ => ?_) (fun h => nomatch h)
                refine AWP.region ?_
                refine AOps.step rfl rfl rfl (AOp.moveD rfl rfl) ?_
                refine AOps.step rfl rfl rfl (AOp.cat rfl rfl rfl (by (try simp only [ByteArray.size_append, hexB_size, strL_size, szMk, List.size_toArray, List.length_cons, List.length_nil, List.length_append]); omega)) ?_
                refine AOps.step rfl rfl rfl (AOp.assignD rfl rfl) ?_
                refine AOps.nil ?_
                refine AWP.region ?_
                refine AOps.step rfl rfl rfl (AOp.add64 rfl rfl rfl (by omega) (by omega)) ?_
                refine AOps.step rfl rfl rfl (AOp.moveD rfl rfl) ?_
                refine AOps.nil ?_
                refine ⟨i + 1, (by omega), (by dsimp only; omega), Sub.less ⟨(SLe.of_eq rfl), SLe.refl _, SLe.refl _, SLe.refl _, SLe.refl _, SLe.refl _, SLe.refl _, SLe.refl _, (sEq (by (try rw [str_app]); (try rw [str_app]); (try rw [ba_app]); (try rw [ba_app]); (try rw [ba_app]); (try rw [strL_list]); rw [sumsL_next]; unfold sumP; (first | rw [if_pos e1] | rw [if_neg e1]); (first | rw [if_pos e2] | rw [if_neg e2]); (try simp only [List.append_assoc, List.nil_append, List.append_nil]); first | done | rfl)), trivial⟩ (fun _ h => h)⟩
              · replace g14 := of_decide_eq_false g14
                have e7 : ¬ i % 8 = 7 := by omega
                refine AOps.step ⟨81, rfl, .inl ⟨_, rfl, rfl⟩⟩ rfl rfl (AOp.moveD rfl rfl) ?_
                refine AOps.step ⟨81, rfl, .inl ⟨_, rfl, rfl⟩⟩ rfl rfl (AOp.add64 rfl rfl rfl (by omega) (by omega)) ?_
                refine AOps.step ⟨81, rfl, .inl ⟨_, rfl, rfl⟩⟩ rfl rfl (AOp.fieldAddr rfl fo_40_3 rfl) ?_
                refine AOps.step ⟨81, rfl, .inl ⟨_, rfl, rfl⟩⟩ rfl rfl (AOp.load rfl sc_38 rfl) ?_
                refine AOps.step ⟨81, rfl, .inl ⟨_, rfl, rfl⟩⟩ rfl rfl (AOp.lenSl rfl et_38.ht rfl) ?_
                refine AOps.step ⟨81, rfl, .inl ⟨_, rfl, rfl⟩⟩ rfl rfl (AOp.eql rfl rfl rfl) ?_
                refine AOps.step rfl rfl rfl (AOp.pickF rfl rfl rfl) ?_
                refine AOps.nil ?_
                refine AWP.cond rfl (fun h15 => ?_) (fun h15 => ?_)
                · replace h15 := of_decide_eq_true h15
                  have e2 : i % 8 = 7 ∨ i + 1 = l[k].sums.length := by first | (exact .inl (by omega)) | (refine .inr ?_; rw [List.length_map] at h15; omega)
                  refine AWP.region ?_
                  refine AOps.step rfl rfl rfl (AOp.moveD rfl rfl) ?_
                  refine AOps.step rfl rfl rfl (AOp.cat rfl rfl rfl (by (try simp only [ByteArray.size_append, hexB_size, strL_size, szMk, List.size_toArray, List.length_cons, List.length_nil, List.length_append]); omega)) ?_
                  refine AOps.step rfl rfl rfl (AOp.assignD rfl rfl) ?_
                  refine AOps.nil ?_
                  refine AWP.region ?_
                  refine AOps.step rfl rfl rfl (AOp.add64 rfl rfl rfl (by omega) (by omega)) ?_
                  refine AOps.step rfl rfl rfl (AOp.moveD rfl rfl) ?_
                  refine AOps.nil ?_
                  refine ⟨i + 1, (by omega), (by dsimp only; omega), Sub.less ⟨(SLe.of_eq rfl), SLe.refl _, SLe.refl _, SLe.refl _, SLe.refl _, SLe.refl _, SLe.refl _, SLe.refl _, (sEq (by (try rw [str_app]); (try rw [str_app]); (try rw [ba_app]); (try rw [ba_app]); (try rw [ba_app]); (try rw [strL_list]); rw [sumsL_next]; unfold sumP; (first | rw [if_pos e1] | rw [if_neg e1]); (first | rw [if_pos e2] | rw [if_neg e2]); (try simp only [List.append_assoc, List.nil_append, List.append_nil]); first | done | rfl)), trivial⟩ (fun _ h => h)⟩
                · replace h15 := of_decide_eq_false h15
                  have e2 : ¬ (i % 8 = 7 ∨ i + 1 = l[k].sums.length) := by rw [List.length_map] at h15; omega
                  refine AWP.skip ?_
                  refine AWP.region ?_
                  refine AOps.step rfl rfl rfl (AOp.add64 rfl rfl rfl (by omega) (by omega)) ?_
                  refine AOps.step rfl rfl rfl (AOp.moveD rfl rfl) ?_
                  refine AOps.nil ?_
                  refine ⟨i + 1, (by omega), (by dsimp only; omega), Sub.less ⟨(SLe.of_eq rfl), SLe.refl _, SLe.refl _, SLe.refl _, SLe.refl _, SLe.refl _, SLe.refl _, SLe.refl _, (sEq (by (try rw [str_app]); (try rw [str_app]); (try rw [ba_app]); (try rw [ba_app]); (try rw [ba_app]); (try rw [strL_list]); rw [sumsL_next]; unfold sumP; (first | rw [if_pos e1] | rw [if_neg e1]); (first | rw [if_pos e2] | rw [if_neg e2]); (try simp only [List.append_assoc, List.nil_append, List.append_nil]); first | done | rfl)), trivial⟩ (fun _ h => h)⟩
            · replace h13 := of_decide_eq_false h13
              have e1 : ¬ i % 8 = 0 := by omega
              refine AWP.skip ?_
              refine AWP.seq ?_
              refine AWP.region ?_
              refine AOps.step rfl rfl rfl (AOp.moveD rfl rfl) ?_
              refine AOps.step rfl rfl rfl (AOp.moveD rfl rfl) ?_
              refine AOps.step rfl rfl rfl (AOp.convSame rfl cvU rfl (wrapU64 (by omega) (by omega))) ?_
              refine AOps.step rfl rfl rfl (AOp.call rfl (.cons (ArgOk.rfl' rfl) (.cons (ArgOk.rfl' rfl) .nil)) (c_digits (l[k].sums.getD i 0) 8 (by omega) (by decide))) ?_
              refine AOps.step rfl rfl rfl (AOp.cat rfl rfl rfl (by (try simp only [ByteArray.size_append, hexB_size, strL_size, szMk, List.size_toArray, List.length_cons, List.length_nil, List.length_append]); omega)) ?_
              refine AOps.step rfl rfl rfl (AOp.cat rfl rfl rfl (by (try simp only [ByteArray.size_append, hexB_size, strL_size, szMk, List.size_toArray, List.length_cons, List.length_nil, List.length_append]); omega)) ?_
              refine AOps.step rfl rfl rfl (AOp.assignD rfl rfl) ?_
              refine AOps.nil ?_
              refine AWP.seq ?_
              refine AWP.region ?_
              refine AOps.step rfl rfl rfl (AOp.moveD rfl rfl) ?_
              refine AOps.step rfl rfl rfl (AOp.rem64 rfl rfl rfl (by omega) (by omega)) ?_
              refine AOps.step rfl rfl rfl (AOp.eql rfl rfl rfl) ?_
              refine AOps.step rfl rfl rfl (AOp.moveD rfl rfl) ?_
              refine AOps.split 81 rfl (fun g16 => ?_) (fun g16 => ?_)
              · replace g16 := of_decide_eq_true g16
                have e2 : i % 8 = 7 ∨ i + 1 = l[k].sums.length := .inl (by omega)
                refine AOps.pass ⟨81, rfl, .inl ⟨_, rfl, rfl⟩⟩ rfl rfl ?_
                refine AOps.pass ⟨81, rfl, .inl ⟨_, rfl, rfl⟩⟩ rfl rfl ?_
                refine AOps.pass ⟨81, rfl, .inl ⟨_, rfl, rfl⟩⟩ rfl rfl ?_
                refine AOps.pass ⟨81, rfl, .inl ⟨_, rfl, rfl⟩⟩ rfl rfl ?_
                refine AOps.pass ⟨81, rfl, .inl ⟨_, rfl, rfl⟩⟩ rfl rfl ?_
                refine AOps.pass ⟨81, rfl, .inl ⟨_, rfl, rfl⟩⟩ rfl rfl ?_
                refine AOps.step rfl rfl rfl (AOp.pickT rfl rfl rfl) ?_
                refine AOps.nil ?_
                refine AWP.cond rfl (fun _ => ?_) (fun h => nomatch h)
                refine AWP.region ?_
                refine AOps.step rfl rfl rfl (AOp.moveD rfl rfl) ?_
                refine AOps.step rfl rfl rfl (AOp.cat rfl rfl rfl (by (try simp only [ByteArray.size_append, hexB_size, strL_size, szMk, List.size_toArray, List.length_cons, List.length_nil, List.length_append]); omega)) ?_
                refine AOps.step rfl rfl rfl (AOp.assignD rfl rfl) ?_
                refine AOps.nil ?_
                refine AWP.region ?_
                refine AOps.step rfl rfl rfl (AOp.add64 rfl rfl rfl (by omega) (by omega)) ?_
                refine AOps.step rfl rfl rfl (AOp.moveD rfl rfl) ?_
                refine AOps.nil ?_
                refine ⟨i + 1, (by omega), (by dsimp only; omega), Sub.less ⟨(SLe.of_eq rfl), SLe.refl _, SLe.refl _, SLe.refl _, SLe.refl _, SLe.refl _, SLe.refl _, SLe.refl _, (sEq (by (try rw [str_app]); (try rw [str_app]); (try rw [ba_app]); (try rw [ba_app]); (try rw [ba_app]); (try rw [strL_list]); rw [sumsL_next]; unfold sumP; (first | rw [if_pos e1] | rw [if_neg e1]); (first | rw [if_pos e2] | rw [if_neg e2]); (try simp only [List.append_assoc, List.nil_append, List.append_nil]); first | done | rfl)), trivial⟩ (fun _ h => h)⟩
              · replace g16 := of_decide_eq_false g16
                have e7 : ¬ i % 8 = 7 := by omega
                refine AOps.step ⟨81, rfl, .inl ⟨_, rfl, rfl⟩⟩ rfl rfl (AOp.moveD rfl rfl) ?_
                refine AOps.step ⟨81, rfl, .inl ⟨_, rfl, rfl⟩⟩ rfl rfl (AOp.add64 rfl rfl rfl (by omega) (by omega)) ?_
                refine AOps.step ⟨81, rfl, .inl ⟨_, rfl, rfl⟩⟩ rfl rfl (AOp.fieldAddr rfl fo_40_3 rfl) ?_
                refine AOps.step ⟨81, rfl, .inl ⟨_, rfl, rfl⟩⟩ rfl rfl (AOp.load rfl sc_38 rfl) ?_
                refine AOps.step ⟨81, rfl, .inl ⟨_, rfl, rfl⟩⟩ rfl rfl (AOp.lenSl rfl et_38.ht rfl) ?_
                refine AOps.step ⟨81, rfl, .inl ⟨_, rfl, rfl⟩⟩ rfl rfl (AOp.eql rfl rfl rfl) ?_
                refine AOps.step rfl rfl rfl (AOp.pickF rfl rfl rfl) ?_
                refine AOps.nil ?_
                refine AWP.cond rfl (fun h17 => ?_) (fun h17 => ?_)
                · replace h17 := of_decide_eq_true h17
                  have e2 : i % 8 = 7 ∨ i + 1 = l[k].sums.length := by first | (exact .inl (by omega)) | (refine .inr ?_; rw [List.length_map] at h17; omega)
                  refine AWP.region ?_
                  refine AOps.step rfl rfl rfl (AOp.moveD rfl rfl) ?_
                  refine AOps.step rfl rfl rfl (AOp.cat rfl rfl rfl (by (try simp only [ByteArray.size_append, hexB_size, strL_size, szMk, List.size_toArray, List.length_cons, List.length_nil, List.length_append]); omega)) ?_
                  refine AOps.step rfl rfl rfl (AOp.assignD rfl rfl) ?_
                  refine AOps.nil ?_
                  refine AWP.region ?_
                  refine AOps.step rfl rfl rfl (AOp.add64 rfl rfl rfl (by omega) (by omega)) ?_
                  refine AOps.step rfl rfl rfl (AOp.moveD rfl rfl) ?_
                  refine AOps.nil ?_
                  refine ⟨i + 1, (by omega), (by dsimp only; omega), Sub.less ⟨(SLe.of_eq rfl), SLe.refl _, SLe.refl _, SLe.refl _, SLe.refl _, SLe.refl _, SLe.refl _, SLe.refl _, (sEq (by (try rw [str_app]); (try rw [str_app]); (try rw [ba_app]); (try rw [ba_app]); (try rw [ba_app]); (try rw [strL_list]); rw [sumsL_next]; unfold sumP; (first | rw [if_pos e1] | rw [if_neg e1]); (first | rw [if_pos e2] | rw [if_neg e2]); (try simp only [List.append_assoc, List.nil_append, List.append_nil]); first | done | rfl)), trivial⟩ (fun _ h => h)⟩
                · replace h17 := of_decide_eq_false h17
                  have e2 : ¬ (i % 8 = 7 ∨ i + 1 = l[k].sums.length) := by rw [List.length_map] at h17; omega
                  refine AWP.skip ?_
                  refine AWP.region ?_
                  refine AOps.step rfl rfl rfl (AOp.add64 rfl rfl rfl (by omega) (by omega)) ?_
                  refine AOps.step rfl rfl rfl (AOp.moveD rfl rfl) ?_
                  refine AOps.nil ?_
                  refine ⟨i + 1, (by omega), (by dsimp only; omega), Sub.less ⟨(SLe.of_eq rfl), SLe.refl _, SLe.refl _, SLe.refl _, SLe.refl _, SLe.refl _, SLe.refl _, SLe.refl _, (sEq (by (try rw [str_app]); (try rw [str_app]); (try rw [ba_app]); (try rw [ba_app]); (try rw [ba_app]); (try rw [strL_list]); rw [sumsL_next]; unfold sumP; (first | rw [if_pos e1] | rw [if_neg e1]); (first | rw [if_pos e2] | rw [if_neg e2]); (try simp only [List.append_assoc, List.nil_append, List.append_nil]); first | done | rfl)), trivial⟩ (fun _ h => h)⟩
          · replace h12 := of_decide_eq_false h12
            rw [List.length_map] at h12
            obtain rfl : i = l[k].sums.length := by omega
            refine AWP.exit ?_
            refine AWP.region ?_
            refine AOps.step rfl rfl rfl (AOp.add64 rfl rfl rfl (by omega) (by omega)) ?_
            refine AOps.step rfl rfl rfl (AOp.moveD rfl rfl) ?_
            refine AOps.nil ?_
            refine ⟨k + 1, ⟨by omega, ffst_next hk.2 HN⟩, (by dsimp only; omega), Sub.less ⟨(SLe.of_eq rfl), SLe.refl _, SLe.refl _, SLe.refl _, (sEq (by rw [strL_list, HT]; unfold manL; rw [List.append_assoc])), trivial⟩ (fun _ h => h)⟩
    · replace h2 := of_decide_eq_false h2
      rw [List.length_map] at h2
      obtain rfl : k = l.length := by omega
      have h0 := mans_all n0 hk.2
      refine AWP.exit ?_
      refine AWP.seq ?_
      refine AWP.seq ?_
      refine AWP.region ?_
      refine AOps.step rfl rfl rfl (AOp.moveD rfl rfl) ?_
      refine AOps.step rfl rfl rfl (AOp.lenStr rfl st_9 rfl) ?_
      refine AOps.step rfl rfl rfl (AOp.gtr rfl rfl rfl) ?_
      refine AOps.nil ?_
      refine AWP.cond rfl (fun h18 => ?_) (fun h18 => ?_)
      · replace h18 := of_decide_eq_true h18
        rw [strL_size] at h18
        obtain ⟨HF, HS⟩ := text_long h0 (by omega)
        rw [HF, HS]
        refine AWP.seq ?_
        refine AWP.region ?_
        refine AOps.step rfl rfl rfl (AOp.assignD rfl rfl) ?_
        refine AOps.step rfl rfl rfl (AOp.assignD rfl rfl) ?_
        refine AOps.nil ?_
        refine AWP.ret ?_
        refine ⟨RetD.eq rfl ?_, RetD.eq rfl ?_, trivial⟩
        all_goals (rfl)
      · replace h18 := of_decide_eq_false h18
        rw [strL_size] at h18
        obtain ⟨HF, HS⟩ := text_good h0 (by omega)
        rw [HF, HS]
        refine AWP.skip ?_
        refine AWP.seq ?_
        refine AWP.region ?_
        refine AOps.step rfl rfl rfl (AOp.moveD rfl rfl) ?_
        refine AOps.step rfl rfl rfl (AOp.assignD rfl rfl) ?_
        refine AOps.step rfl rfl rfl (AOp.assignD rfl rfl) ?_
        refine AOps.nil ?_
        refine AWP.ret ?_
        refine ⟨RetD.eq rfl ?_, RetD.eq rfl ?_, trivial⟩
        all_goals (rfl)

end Go.Proofs.YtnapkooefpkicaaGreatDoor


namespace Go.Proofs
open Go.Shelf
def Tryz.l103_ren : Go.Shelf.Ren := ⟨fun | 103 => 34 | 210 => 53 | 206 => 78 | n => n, fun | 9 => 9 | 4 => 4 | 24 => 67 | 3 => 3 | n => n, fun | n => n⟩
theorem Tryz.l103 : Go.Proofs.Lays.n103 Tryz.prog Tryz.l103_ren := {
  mixed := by kernel_rfl
  f103 := Tryz.func34.trans (congrArg some (by kernel_rfl))
  f206 := Tryz.func78.trans (congrArg some (by kernel_rfl))
  f210 := Tryz.func53.trans (congrArg some (by kernel_rfl))
  t3 := Tryz.underlying3
  a3 := Tryz.isAgg3
  z3 := Tryz.sizeOf3
  v3 := Tryz.zeroValue3
  t4 := Tryz.underlying4
  a4 := Tryz.isAgg4
  z4 := Tryz.sizeOf4
  v4 := Tryz.zeroValue4
  t9 := Tryz.underlying9
  a9 := Tryz.isAgg9
  z9 := Tryz.sizeOf9
  v9 := Tryz.zeroValue9
  t24 := Tryz.underlying67
  a24 := Tryz.isAgg67
  z24 := Tryz.sizeOf67
  v24 := Tryz.zeroValue67 }
def Tryz.l137_ren : Go.Shelf.Ren := ⟨fun | 137 => 49 | 217 => 60 | 266 => 83 | n => n, fun | 9 => 9 | 5 => 5 | 3 => 3 | n => n, fun | n => n⟩
theorem Tryz.l137 : Go.Proofs.Lays.n137 Tryz.prog Tryz.l137_ren := {
  mixed := by kernel_rfl
  f137 := Tryz.func49.trans (congrArg some (by kernel_rfl))
  f217 := Tryz.func60.trans (congrArg some (by kernel_rfl))
  f266 := Tryz.func83.trans (congrArg some (by kernel_rfl))
  t3 := Tryz.underlying3
  a3 := Tryz.isAgg3
  z3 := Tryz.sizeOf3
  v3 := Tryz.zeroValue3
  t5 := Tryz.underlying5
  a5 := Tryz.isAgg5
  z5 := Tryz.sizeOf5
  v5 := Tryz.zeroValue5
  t9 := Tryz.underlying9
  a9 := Tryz.isAgg9
  z9 := Tryz.sizeOf9
  v9 := Tryz.zeroValue9 }
def Tryz.l145_ren : Go.Shelf.Ren := ⟨fun | 145 => 11 | 220 => 24 | 219 => 45 | 217 => 60 | 225 => 61 | 224 => 62 | 267 => 63 | 266 => 83 | 314 => 84 | n => n, fun | 9 => 9 | 4 => 4 | 59 => 36 | 3 => 3 | 5 => 5 | 46 => 88 | 146 => 111 | 51 => 53 | n => n, fun | 1 => 0 | n => n⟩
theorem Tryz.l145 : Go.Proofs.Lays.n145 Tryz.prog Tryz.l145_ren := {
  mixed := by kernel_rfl
  f145 := Tryz.func11.trans (congrArg some (by kernel_rfl))
  f217 := Tryz.func60.trans (congrArg some (by kernel_rfl))
  f219 := Tryz.func45.trans (congrArg some (by kernel_rfl))
  f220 := Tryz.func24.trans (congrArg some (by kernel_rfl))
  f224 := Tryz.func62.trans (congrArg some (by kernel_rfl))
  f225 := Tryz.func61.trans (congrArg some (by kernel_rfl))
  f266 := Tryz.func83.trans (congrArg some (by kernel_rfl))
  f267 := Tryz.func63.trans (congrArg some (by kernel_rfl))
  f314 := Tryz.func84.trans (congrArg some (by kernel_rfl))
  t3 := Tryz.underlying3
  a3 := Tryz.isAgg3
  z3 := Tryz.sizeOf3
  v3 := Tryz.zeroValue3
  t4 := Tryz.underlying4
  a4 := Tryz.isAgg4
  z4 := Tryz.sizeOf4
  v4 := Tryz.zeroValue4
  t5 := Tryz.underlying5
  a5 := Tryz.isAgg5
  z5 := Tryz.sizeOf5
  v5 := Tryz.zeroValue5
  t9 := Tryz.underlying9
  a9 := Tryz.isAgg9
  z9 := Tryz.sizeOf9
  v9 := Tryz.zeroValue9
  t46 := Tryz.underlying88
  a46 := Tryz.isAgg88
  z46 := Tryz.sizeOf88
  v46 := Tryz.zeroValue88
  t51 := Tryz.underlying53
  a51 := Tryz.isAgg53
  z51 := Tryz.sizeOf53
  v51 := Tryz.zeroValue53
  t59 := Tryz.underlying36
  a59 := Tryz.isAgg36
  z59 := Tryz.sizeOf36
  v59 := Tryz.zeroValue36
  t146 := Tryz.underlying111
  a146 := Tryz.isAgg111
  z146 := Tryz.sizeOf111
  v146 := Tryz.zeroValue111
  g1 := by kernel_rfl }
def Tryz.l146_ren : Go.Shelf.Ren := ⟨fun | 146 => 26 | 221 => 46 | 268 => 64 | 138 => 65 | 143 => 66 | 195 => 85 | 197 => 86 | 218 => 87 | 219 => 45 | 260 => 101 | 217 => 60 | 225 => 61 | 224 => 62 | 267 => 63 | 266 => 83 | 314 => 84 | n => n, fun | 9 => 9 | 31 => 43 | 3 => 3 | 4 => 4 | 0 => 0 | 105 => 114 | 21 => 21 | 5 => 5 | 46 => 88 | 119 => 144 | 139 => 147 | 138 => 146 | 146 => 111 | 51 => 53 | n => n, fun | 1 => 0 | 3 => 4 | 4 => 5 | n => n⟩
theorem Tryz.l146 : Go.Proofs.Lays.n146 Tryz.prog Tryz.l146_ren := {
  mixed := by kernel_rfl
  f138 := Tryz.func65.trans (congrArg some (by kernel_rfl))
  f143 := Tryz.func66.trans (congrArg some (by kernel_rfl))
  f146 := Tryz.func26.trans (congrArg some (by kernel_rfl))
  f195 := Tryz.func85.trans (congrArg some (by kernel_rfl))
  f197 := Tryz.func86.trans (congrArg some (by kernel_rfl))
  f217 := Tryz.func60.trans (congrArg some (by kernel_rfl))
  f218 := Tryz.func87.trans (congrArg some (by kernel_rfl))
  f219 := Tryz.func45.trans (congrArg some (by kernel_rfl))
  f221 := Tryz.func46.trans (congrArg some (by kernel_rfl))
  f224 := Tryz.func62.trans (congrArg some (by kernel_rfl))
  f225 := Tryz.func61.trans (congrArg some (by kernel_rfl))
  f260 := Tryz.func101.trans (congrArg some (by kernel_rfl))
  f266 := Tryz.func83.trans (congrArg some (by kernel_rfl))
  f267 := Tryz.func63.trans (congrArg some (by kernel_rfl))
  f268 := Tryz.func64.trans (congrArg some (by kernel_rfl))
  f314 := Tryz.func84.trans (congrArg some (by kernel_rfl))
  t0 := Tryz.underlying0
  a0 := Tryz.isAgg0
  z0 := Tryz.sizeOf0
  v0 := Tryz.zeroValue0
  t3 := Tryz.underlying3
  a3 := Tryz.isAgg3
  z3 := Tryz.sizeOf3
  v3 := Tryz.zeroValue3
  t4 := Tryz.underlying4
  a4 := Tryz.isAgg4
  z4 := Tryz.sizeOf4
  v4 := Tryz.zeroValue4
  t5 := Tryz.underlying5
  a5 := Tryz.isAgg5
  z5 := Tryz.sizeOf5
  v5 := Tryz.zeroValue5
  t9 := Tryz.underlying9
  a9 := Tryz.isAgg9
  z9 := Tryz.sizeOf9
  v9 := Tryz.zeroValue9
  t21 := Tryz.underlying21
  a21 := Tryz.isAgg21
  z21 := Tryz.sizeOf21
  v21 := Tryz.zeroValue21
  t31 := Tryz.underlying43
  a31 := Tryz.isAgg43
  z31 := Tryz.sizeOf43
  v31 := Tryz.zeroValue43
  t46 := Tryz.underlying88
  a46 := Tryz.isAgg88
  z46 := Tryz.sizeOf88
  v46 := Tryz.zeroValue88
  t51 := Tryz.underlying53
  a51 := Tryz.isAgg53
  z51 := Tryz.sizeOf53
  v51 := Tryz.zeroValue53
  t105 := Tryz.underlying114
  a105 := Tryz.isAgg114
  z105 := Tryz.sizeOf114
  v105 := Tryz.zeroValue114
  t119 := Tryz.underlying144
  a119 := Tryz.isAgg144
  z119 := Tryz.sizeOf144
  t138 := Tryz.underlying146
  a138 := Tryz.isAgg146
  z138 := Tryz.sizeOf146
  v138 := Tryz.zeroValue146
  t139 := Tryz.underlying147
  a139 := Tryz.isAgg147
  z139 := Tryz.sizeOf147
  v139 := Tryz.zeroValue147
  t146 := Tryz.underlying111
  a146 := Tryz.isAgg111
  z146 := Tryz.sizeOf111
  v146 := Tryz.zeroValue111
  g1 := by kernel_rfl
  g3 := by kernel_rfl
  g4 := by kernel_rfl }
def Tryz.l172_ren : Go.Shelf.Ren := ⟨fun | 172 => 48 | 244 => 74 | 245 => 75 | 247 => 91 | 279 => 92 | 280 => 93 | 281 => 94 | 282 => 95 | 287 => 104 | 316 => 105 | 171 => 40 | 205 => 106 | 321 => 113 | 322 => 114 | 243 => 58 | 246 => 81 | 283 => 97 | 284 => 98 | 285 => 99 | 286 => 100 | 129 => 108 | 317 => 107 | 318 => 109 | 319 => 110 | 320 => 111 | 337 => 115 | 338 => 116 | n => n, fun | 9 => 9 | 3 => 3 | 75 => 80 | 76 => 81 | 4 => 4 | 5 => 5 | 167 => 118 | 37 => 76 | 0 => 0 | 85 => 119 | 2 => 2 | 168 => 121 | 53 => 41 | 175 => 133 | 46 => 88 | 210 => 137 | 127 => 92 | 145 => 152 | 143 => 150 | 21 => 21 | 171 => 127 | 173 => 130 | 212 => 140 | 51 => 53 | 20 => 20 | 213 => 141 | 232 => 154 | 233 => 155 | 80 => 83 | n => n, fun | 15 => 1 | 16 => 2 | 17 => 3 | 18 => 6 | 19 => 7 | n => n⟩
theorem Tryz.l172 : Go.Proofs.Lays.n172 Tryz.prog Tryz.l172_ren := {
  mixed := by kernel_rfl
  f129 := Tryz.func108.trans (congrArg some (by kernel_rfl))
  f171 := Tryz.func40.trans (congrArg some (by kernel_rfl))
  f172 := Tryz.func48.trans (congrArg some (by kernel_rfl))
  f205 := Tryz.func106.trans (congrArg some (by kernel_rfl))
  f243 := Tryz.func58.trans (congrArg some (by kernel_rfl))
  f244 := Tryz.func74.trans (congrArg some (by kernel_rfl))
  f245 := Tryz.func75.trans (congrArg some (by kernel_rfl))
  f246 := Tryz.func81.trans (congrArg some (by kernel_rfl))
  f247 := Tryz.func91.trans (congrArg some (by kernel_rfl))
  f279 := Tryz.func92.trans (congrArg some (by kernel_rfl))
  f280 := Tryz.func93.trans (congrArg some (by kernel_rfl))
  f281 := Tryz.func94.trans (congrArg some (by kernel_rfl))
  f282 := Tryz.func95.trans (congrArg some (by kernel_rfl))
  f283 := Tryz.func97.trans (congrArg some (by kernel_rfl))
  f284 := Tryz.func98.trans (congrArg some (by kernel_rfl))
  f285 := Tryz.func99.trans (congrArg some (by kernel_rfl))
  f286 := Tryz.func100.trans (congrArg some (by kernel_rfl))
  f287 := Tryz.func104.trans (congrArg some (by kernel_rfl))
  f316 := Tryz.func105.trans (congrArg some (by kernel_rfl))
  f317 := Tryz.func107.trans (congrArg some (by kernel_rfl))
  f318 := Tryz.func109.trans (congrArg some (by kernel_rfl))
  f319 := Tryz.func110.trans (congrArg some (by kernel_rfl))
  f320 := Tryz.func111.trans (congrArg some (by kernel_rfl))
  f321 := Tryz.func113.trans (congrArg some (by kernel_rfl))
  f322 := Tryz.func114.trans (congrArg some (by kernel_rfl))
  f337 := Tryz.func115.trans (congrArg some (by kernel_rfl))
  f338 := Tryz.func116.trans (congrArg some (by kernel_rfl))
  t0 := Tryz.underlying0
  a0 := Tryz.isAgg0
  z0 := Tryz.sizeOf0
  v0 := Tryz.zeroValue0
  t2 := Tryz.underlying2
  a2 := Tryz.isAgg2
  z2 := Tryz.sizeOf2
  v2 := Tryz.zeroValue2
  t3 := Tryz.underlying3
  a3 := Tryz.isAgg3
  z3 := Tryz.sizeOf3
  v3 := Tryz.zeroValue3
  t4 := Tryz.underlying4
  a4 := Tryz.isAgg4
  z4 := Tryz.sizeOf4
  v4 := Tryz.zeroValue4
  t5 := Tryz.underlying5
  a5 := Tryz.isAgg5
  z5 := Tryz.sizeOf5
  v5 := Tryz.zeroValue5
  t9 := Tryz.underlying9
  a9 := Tryz.isAgg9
  z9 := Tryz.sizeOf9
  v9 := Tryz.zeroValue9
  t20 := Tryz.underlying20
  a20 := Tryz.isAgg20
  z20 := Tryz.sizeOf20
  v20 := Tryz.zeroValue20
  t21 := Tryz.underlying21
  a21 := Tryz.isAgg21
  z21 := Tryz.sizeOf21
  v21 := Tryz.zeroValue21
  t37 := Tryz.underlying76
  a37 := Tryz.isAgg76
  z37 := Tryz.sizeOf76
  v37 := Tryz.zeroValue76
  t46 := Tryz.underlying88
  a46 := Tryz.isAgg88
  z46 := Tryz.sizeOf88
  v46 := Tryz.zeroValue88
  t51 := Tryz.underlying53
  a51 := Tryz.isAgg53
  z51 := Tryz.sizeOf53
  v51 := Tryz.zeroValue53
  t53 := Tryz.underlying41
  a53 := Tryz.isAgg41
  z53 := Tryz.sizeOf41
  v53 := Tryz.zeroValue41
  t75 := Tryz.underlying80
  a75 := Tryz.isAgg80
  z75 := Tryz.sizeOf80
  v75 := Tryz.zeroValue80
  t76 := Tryz.underlying81
  a76 := Tryz.isAgg81
  z76 := Tryz.sizeOf81
  v76 := Tryz.zeroValue81
  t85 := Tryz.underlying119
  a85 := Tryz.isAgg119
  z85 := Tryz.sizeOf119
  v85 := Tryz.zeroValue119
  t127 := Tryz.underlying92
  a127 := Tryz.isAgg92
  z127 := Tryz.sizeOf92
  v127 := Tryz.zeroValue92
  t143 := Tryz.underlying150
  a143 := Tryz.isAgg150
  z143 := Tryz.sizeOf150
  v143 := Tryz.zeroValue150
  t145 := Tryz.underlying152
  a145 := Tryz.isAgg152
  z145 := Tryz.sizeOf152
  v145 := Tryz.zeroValue152
  t167 := Tryz.underlying118
  a167 := Tryz.isAgg118
  z167 := Tryz.sizeOf118
  v167 := Tryz.zeroValue118
  t168 := Tryz.underlying121
  a168 := Tryz.isAgg121
  z168 := Tryz.sizeOf121
  v168 := Tryz.zeroValue121
  t171 := Tryz.underlying127
  a171 := Tryz.isAgg127
  z171 := Tryz.sizeOf127
  v171 := Tryz.zeroValue127
  t173 := Tryz.underlying130
  a173 := Tryz.isAgg130
  z173 := Tryz.sizeOf130
  v173 := Tryz.zeroValue130
  t175 := Tryz.underlying133
  a175 := Tryz.isAgg133
  z175 := Tryz.sizeOf133
  v175 := Tryz.zeroValue133
  t210 := Tryz.underlying137
  a210 := Tryz.isAgg137
  z210 := Tryz.sizeOf137
  v210 := Tryz.zeroValue137
  t212 := Tryz.underlying140
  a212 := Tryz.isAgg140
  z212 := Tryz.sizeOf140
  v212 := Tryz.zeroValue140
  t213 := Tryz.underlying141
  a213 := Tryz.isAgg141
  z213 := Tryz.sizeOf141
  t232 := Tryz.underlying154
  a232 := Tryz.isAgg154
  z232 := Tryz.sizeOf154
  v232 := Tryz.zeroValue154
  t233 := Tryz.underlying155
  a233 := Tryz.isAgg155
  z233 := Tryz.sizeOf155
  v233 := Tryz.zeroValue155
  g15 := by kernel_rfl
  g16 := by kernel_rfl
  g17 := by kernel_rfl
  g18 := by kernel_rfl
  g19 := by kernel_rfl }
end Go.Proofs
