/- Abstract values: results that lie in cells; stores into own rows; own slices stored into cells; own rows handed to calls that answer a plain value. No statement of the seat. -/
import Derived.Test.YtajghehicmlajaaDoorA10
namespace Go.Proofs.YtajghehicmlajaaDoor
open Go.RowKit

theorem SizeT.of {P : Program} {t : TypeId} {size : Nat} (h : (P.info? t).map (·.size) = some size) : ∀ w, (sizeOf t).run P w = .ok size w := by
  intro w
  obtain ⟨i, hi, hz⟩ := Option.map_eq_some_iff.1 h
  simp [sizeOf, typeInfo, hi, hz]
def CellD (σ : Obs) (s : S) (d : D) : Prop := (∃ d0, s = .d d0 ∧ Le d0 d) ∨ ∃ id ee size els, s = .own id ∧ (id, Ob.row ee size els) ∈ σ ∧ d = .sl els
theorem CellD.d {σ : Obs} {d : D} : CellD σ (.d d) d := .inl ⟨d, rfl, Le.refl d⟩
theorem CellD.eq {σ : Obs} {d d' : D} (h : d = d') : CellD σ (.d d) d' := .inl ⟨d, rfl, Le.of_eq h⟩
theorem CellD.nil {σ : Obs} : CellD σ (.d (.v (.slice none 0 0))) (.sl []) := .inl ⟨_, rfl, Le.nil⟩
theorem CellD.own {σ : Obs} {id ee size : Nat} {els els' : List (List D)} (hm : (id, Ob.row ee size els) ∈ σ) (h : els = els') : CellD σ (.own id) (.sl els') := .inr ⟨id, ee, size, els, rfl, hm, by rw [h]⟩
def CellsD (σ : Obs) : List S → List D → Prop
  | [], [] => True
  | s :: ss, d :: ds => CellD σ s d ∧ CellsD σ ss ds
  | _, _ => False
theorem CellsD.nil {σ : Obs} : CellsD σ [] [] := trivial
theorem CellsD.cons {σ : Obs} {s : S} {d : D} {ss : List S} {ds : List D} (h : CellD σ s d) (k : CellsD σ ss ds) : CellsD σ (s :: ss) (d :: ds) := ⟨h, k⟩

theorem CellD.rep {cx : Cx} {F : Nat → Prop} {ρ : Nat → Value} {e : Env} {σ : Obs} {a : Act} {w : World} (h : R0 cx F ρ e σ a w) {s : S} {d : D} {x : Value} (hx : RepS F ρ w x s) (hd : CellD σ s d) : Rep (endF F ρ σ) w x d := by
  rcases hd with ⟨d0, rfl, h2⟩ | ⟨id, ee, size, els, rfl, h2, rfl⟩
  · exact h2 _ _ _ ((repS_d hx).mono (fun b hb => .inl hb) fun _ _ => rfl)
  · cases hx
    exact h.rep_row h2 (fun b hb => .inl hb) (fun g hg => .inr ⟨_, h2, hg⟩)
theorem CellsD.len {σ : Obs} : ∀ {ss : List S} {ds : List D}, CellsD σ ss ds → ss.length = ds.length
  | [], [], _ => rfl
  | _ :: _, _ :: _, h => by simp [CellsD.len h.2]
  | [], _ :: _, h => h.elim
  | _ :: _, [], h => h.elim
theorem CellsD.at {σ : Obs} : ∀ {ss : List S} {ds : List D}, CellsD σ ss ds → ∀ i (h : i < ss.length) (h' : i < ds.length), CellD σ ss[i] ds[i]
  | s :: ss, d :: ds, h, i, h1, h2 => by
    cases i with
    | zero => exact h.1
    | succ i => exact CellsD.at h.2 i (by simpa using h1) (by simpa using h2)
  | [], _, _, i, h, _ => absurd h (by simp)
  | _ :: _, [], h, _, _, _ => h.elim

def RetR (P : Program) (e : Env) (σ : Obs) : ResultVar → D → Prop
  | .tmp t, d => RetD e σ t d
  | .cell a t, d => (∃ id ss ds n, e a = .ptr id 0 ∧ (id, Ob.cells ss) ∈ σ ∧ AggT P t n ∧ ss.length = n ∧ d = .agg ds ∧ CellsD σ ss ds) ∨ (∃ id s, e a = .ptr id 0 ∧ (id, Ob.cells [s]) ∈ σ ∧ Scal P t ∧ CellD σ s d)
theorem RetR.agg {P : Program} {e : Env} {σ : Obs} {a t id n : Nat} {ss : List S} {ds : List D} (h : e a = .ptr id 0) (hm : (id, Ob.cells ss) ∈ σ) (hT : AggT P t n) (hl : ss.length = n) (k : CellsD σ ss ds) : RetR P e σ (.cell a t) (.agg ds) := .inl ⟨id, ss, ds, n, h, hm, hT, hl, rfl, k⟩
def RetRs (P : Program) (e : Env) (σ : Obs) : List ResultVar → List D → Prop
  | [], [] => True
  | r :: rs, d :: ds => RetR P e σ r d ∧ RetRs P e σ rs ds
  | _, _ => False
def RetQR (P : Program) (rs : List ResultVar) (ds : List D) : Post := fun ex e σ => match ex with
  | .ret => RetRs P e σ rs ds
  | .normal => RetRs P e σ rs ds
  | _ => False

def resSem (tmps : Array Value) (r : ResultVar) : Sem Value := match r with
  | .tmp t => pure (tmps.getD t undef)
  | .cell b t => do loadVar t (← asAddr (tmps.getD b undef))

theorem RetR.rep {cx : Cx} {F : Nat → Prop} {ρ : Nat → Value} {e : Env} {σ : Obs} {a : Act} {w : World} (h : R0 cx F ρ e σ a w) {r : ResultVar} {d : D} (hd : RetR cx.P e σ r d) :
    ∃ v, (resSem a.tmps r).run cx.P w = .ok v w ∧ Rep (endF F ρ σ) w v d := by
  cases r with
  | tmp t => exact ⟨_, rfl, RetD.rep h hd⟩
  | cell b t =>
    rcases hd with ⟨id, ss, ds, n, h1, h2, h3, h4, rfl, h5⟩ | ⟨id, s, h1, h2, h3, h4⟩
    · obtain ⟨g, ty, cs, k1, k2, k3, k4, k5, k6⟩ := h.obs.ok _ h2
      dsimp only at k1
      have hv : a.tmps.getD b undef = .pointer (some ⟨g, 0, none⟩) := by
        have := h.env b
        rw [h1] at this
        exact ptr_at this (by rw [k1]; rfl)
      have hcells : (loadCells ⟨g, 0, none⟩ cs.length).run cx.P w = .ok cs.toArray w := run_loadCells_list w _ cs (fun j v hj => by
        rw [addr_add, cell_of_row w g (0 + j) cs.toArray ty (0, 0) k4]
        simpa using hj)
      have hn : cs.length = n := by omega
      rw [hn] at hcells
      have hl := h5.len
      refine ⟨.agg cs.toArray, ?_, .agg cs ds (by omega) (fun i hi => (k6 i hi (by omega)).1) (fun i hi hi' => CellD.rep h (k6 i hi (by omega)).2 (h5.at i (by omega) hi'))⟩
      simp only [resSem, hv, asAddr, Sem.run_bind, Sem.run_pure, Result.andThen_ok, loadVar, h3.agg w, if_true, h3.size w, hcells]
    · obtain ⟨g, ty, cs, k1, k2, k3, k4, k5, k6⟩ := h.obs.ok _ h2
      dsimp only at k1
      have hv : a.tmps.getD b undef = .pointer (some ⟨g, 0, none⟩) := by
        have := h.env b
        rw [h1] at this
        exact ptr_at this (by rw [k1]; rfl)
      simp only [List.length_cons, List.length_nil] at k5
      have hc : w.cell? ⟨g, 0, none⟩ = some (cs[0]'(by omega)) := by
        rw [cell_of_row w g 0 cs.toArray ty (0, 0) k4]; simp [show 0 < cs.length by omega]
      have h6 := (k6 0 (by omega) (by simp)).2
      refine ⟨cs[0]'(by omega), ?_, CellD.rep h h6 h4⟩
      simp only [resSem, hv, asAddr, Sem.run_bind, Sem.run_pure, Result.andThen_ok, loadVar, h3 w, Bool.false_eq_true, if_false, run_load, hc]

theorem RetRs.rep {cx : Cx} {F : Nat → Prop} {ρ : Nat → Value} {e : Env} {σ : Obs} {a : Act} {w : World} (h : R0 cx F ρ e σ a w) : ∀ {rs : List ResultVar} {ds : List D}, RetRs cx.P e σ rs ds →
    ∃ vs, (List.mapM (resSem a.tmps) rs : Sem (List Value)).run cx.P w = .ok vs w ∧ RepL (endF F ρ σ) w vs ds
  | [], [], _ => ⟨[], rfl, RepL.nil⟩
  | r :: rs, d :: ds, hd => by
    obtain ⟨v, h1, h2⟩ := hd.1.rep h
    obtain ⟨vs, h3, h4⟩ := RetRs.rep h hd.2
    refine ⟨v :: vs, ?_, RepL.cons h2 h4⟩
    rw [List.mapM_cons, Sem.run_bind, h1]
    simp only [Result.andThen_ok, Sem.run_bind, h3, Sem.run_pure]
  | [], _ :: _, hd => hd.elim
  | _ :: _, [], hd => hd.elim

theorem acall_ofR {P : Program} {f : FuncId} {fn : Func} {c : Code} {n : Nat} {ds ds' : List D} (hf : P.funcs[f]? = some fn) (hb : fn.body = some c) (hn : (fn.name == "runtime.NumGoroutine") = false) (hN : fn.ntmps = n)
    (rs : List ResultVar) (hr : fn.results = rs.toArray) (hle' : Nat.ble ds.length n = true) (h : ∀ B w0 F0 fr, AWP ⟨P, n, B, w0, F0, fr, fun _ => false, fun _ => undef⟩ c (Env.args 0 ds) [] (RetQR P rs ds')) : ACall P f ds (retOf ds') := by
  have hle : ds.length ≤ n := Nat.le_of_ble_eq_true hle'
  refine ⟨Enters.of hf hn (by rw [hb]; rfl), fun F w vs hF hv => ?_⟩
  refine calls_of_wp hf hb ?_
  have hR : R ⟨P, n, w.heap.size, w, F, (fun b => w.heap.size ≤ b), fun _ => false, fun _ => undef⟩ (Env.args 0 ds) [] { tmps := vs.toArray ++ Array.replicate (fn.ntmps - vs.toArray.size) undef, defers := [] } w := by
    refine ⟨F, fun _ => undef, ?_, rfl, hF, fun b hb => hb, fun b hb => .inl hb, Kept.refl _ _, Nat.le_refl _, fun t => ?_, ⟨fun p hp => by simp at hp, fun p hp => by simp at hp, fun p hp => by simp at hp⟩, fun b hb => hb, fun p hp => by simp at hp, fun i hi => by simp at hi⟩
    · simp [hN, hv.1]; omega
    · by_cases ht : t < ds.length
      · have := Env.args_get ds 0 t ht
        rw [Nat.zero_add] at this
        rw [this]
        have hvt : t < vs.length := by rw [hv.1]; exact ht
        have : (vs.toArray ++ Array.replicate (fn.ntmps - vs.toArray.size) undef).getD t undef = vs[t] := by
          rw [Array.getD_eq_getD_getElem?, Array.getElem?_append_left (by simpa using hvt)]
          simp [hvt]
        rw [this]
        exact .d (hv.2 t hvt ht)
      · have := Env.args_out ds 0 t (by omega)
        rw [Nat.zero_add] at this
        rw [this]
        exact .d (.any _)
  refine wp_mono (h _ _ _ _ _ _ hR) ?_
  rintro ex a w' ⟨e', σ', hq, F', ρ', hr'⟩
  have hends : RetRs P e' σ' rs ds' → bodyPost P fn (fun e w' => ∃ v F', e = .returned v ∧ Rep F' w' v (retOf ds') ∧ Ext F w F' w') .ret a w' := by
    intro hq
    obtain ⟨vs', hrun, hl⟩ := RetRs.rep hr' hq
    have hres : (results fn a.tmps).run P w' = .ok (match vs' with | [x] => x | l => .tuple l.toArray) w' := by
      unfold results
      rw [hr, Sem.run_bind]
      have h2 : (Array.mapM (fun r => match r with | ResultVar.tmp t => pure (a.tmps.getD t undef) | ResultVar.cell b t => do loadVar t (← asAddr (a.tmps.getD b undef))) rs.toArray : Sem (Array Value)).run P w' = .ok vs'.toArray w' := by
        rw [List.mapM_toArray, Sem.run_map]
        have h4 : (List.mapM (fun r => match r with | ResultVar.tmp t => pure (a.tmps.getD t undef) | ResultVar.cell b t => do loadVar t (← asAddr (a.tmps.getD b undef))) rs : Sem (List Value)).run P w' = .ok vs' w' := hrun
        rw [h4]
        rfl
      refine (congrArg (fun r => Result.andThen r _) h2).trans ?_
      simp only [Result.andThen_ok]
      rcases vs' with _ | ⟨t, _ | ⟨t2, ts⟩⟩ <;> rfl
    refine ⟨hr'.defers, _, hres, _, endF F' ρ' σ', rfl, ?_, endF_ext hr' (fun b hb => hb)⟩
    obtain ⟨h1, h2⟩ := hl
    rcases ds' with _ | ⟨d, _ | ⟨d2, ds'⟩⟩
    · have : vs' = [] := List.eq_nil_of_length_eq_zero h1
      subst this
      exact .tup [] [] rfl (fun i h1 => absurd h1 (by simp))
    · rcases vs' with _ | ⟨x, _ | ⟨y, vs'⟩⟩ <;> simp at h1
      exact h2 0 (by simp) (by simp)
    · rcases vs' with _ | ⟨x, _ | ⟨y, vs'⟩⟩
      · simp at h1
      · simp at h1
      · exact .tup _ _ h1 h2
  cases ex with
  | ret => exact hends hq
  | normal => exact hends hq
  | exit id => exact hq.elim
  | goto l => exact hq.elim
  | panic c => exact hq.elim
  | outgrown => exact hq.elim

section
variable {cx : Cx} {ops : Array Oper} {o : Oper} {rest : List Oper} {e : Env} {σ : Obs} {Q : Post}

/-- An own slice stored into an own cell. -/
theorem AOps.storeS {t id off i : Nat} {x y : Operand} {ss : List S} (hg : o.guard = none) (ht : o.dst = none) (ho : o.op = .store t x y) (hs : ∀ w, (sizeOf t).run cx.P w = .ok 1 w) (hx : e.ev x = .ptr id off) (hm : (id, Ob.cells ss) ∈ σ) (hy : e.ev y = .own i)
    {ee size : Nat} {els : List (List D)} (hmi : (i, Ob.row ee size els) ∈ σ) (hle : off < ss.length) (k : AOps cx ops rest e (Obs.upd id (.cells (ss.take off ++ [S.own i] ++ ss.drop (off + 1))) σ) Q) : AOps cx ops (o :: rest) e σ Q := by
  intro a w ⟨F, ρ, hr⟩
  obtain ⟨g, ty, cs, hv, hρ, hB, hF, hh, hcl, hcs⟩ := cells_of hr hx hm
  have h2 := ev_rep (e := e) (x := y) (a := a) (fun t _ => hr.env t)
  rw [hy] at h2
  obtain ⟨xs, hown, _⟩ := hr.obs.ok _ hmi
  dsimp only at hown
  have hvy : a.eval y = ρ i := by generalize a.eval y = v at h2; cases h2; rfl
  have hone : (ρ i).oneCell' = true := by rcases hown.2 with ⟨h3, _⟩ | ⟨g', cap, cur, h3, _⟩ <;> rw [h3] <;> rfl
  have hcell : (a.eval y).cells = #[ρ i] := by rw [hvy]; rcases hown.2 with ⟨h3, _⟩ | ⟨g', cap, cur, h3, _⟩ <;> rw [h3] <;> rfl
  obtain ⟨w', h5, h6, h7⟩ := storeVar_run (P := cx.P) (off := off) (v := a.eval y) (size := 1) hs (by rw [hcell]; rfl) hh (by omega) (by rw [hcell]; intro u hu; simp at hu; rw [hu]; exact hone)
  refine wpList_plain hg fun K hK => ?_
  unfold Oper.wp execOp
  simp only [ho, Instr.storeAt, hv, Instr.sureAddr, Sem.run_bind, Sem.run_pure, Result.andThen_ok, h5]
  refine hK _ _ (k _ _ ⟨F, ρ, ?_⟩)
  rw [ht]
  rw [hcell] at h7
  exact hr.write hρ hm hB hF h6 h7 (by simp; omega) (fun j hj hj' => by
    by_cases j1 : j < off
    · rw [List.getElem_append_left (by simp; omega), List.getElem_append_left (by simp; omega), List.getElem_append_left (by simp; omega), List.getElem_append_left (by simp; omega), List.getElem_take, List.getElem_take]
      exact hcs j (by omega) (by omega)
    · by_cases j2 : j < off + 1
      · have : j = off := by omega
        subst this
        rw [List.getElem_append_left (by simp; omega), List.getElem_append_right (by simp; omega), List.getElem_append_left (by simp; omega), List.getElem_append_right (by simp; omega)]
        have e1 : (List.take j cs).length = j := by simp; omega
        have e2 : (List.take j ss).length = j := by simp; omega
        simp only [e1, e2, Nat.sub_self, List.getElem_cons_zero]
        exact ⟨hone, .own i⟩
      · rw [List.getElem_append_right (by simp; omega), List.getElem_append_right (by simp; omega), List.getElem_drop, List.getElem_drop]
        have e1 : (List.take off cs ++ (#[ρ i] : Array Value).toList).length = off + 1 := by simp; omega
        have e2 : (List.take off ss ++ [S.own i]).length = off + 1 := by simp; omega
        simp only [e1, e2]
        exact hcs _ _ _)
end

/-- A slice that is read is no longer than an int. -/
theorem AWP.bound {cx : Cx} {c : Code} {e : Env} {σ : Obs} {Q : Post} (t : Nat) {els : List (List D)} (h : e t = .d (.sl els)) (k : els.length ≤ 9223372036854775807 → AWP cx c e σ Q) : AWP cx c e σ Q := by
  intro a w ⟨F, ρ, hr⟩
  have h1 := hr.env t
  rw [h] at h1
  refine k ?_ a w ⟨F, ρ, hr⟩
  rcases rep_sl_sl (repS_d h1) with ⟨_, h2⟩ | ⟨ad, cap, size, vs, _, h2, h3, _⟩
  · subst h2; simp
  · omega

/-- Own rows handed to a call that answers a plain value: they are read for its time. -/
def ArgV (e : Env) (σ : Obs) (x : Operand) (d : D) : Prop := ArgOk e x d ∨ ∃ id ee size els, e.ev x = .own id ∧ (id, Ob.row ee size els) ∈ σ ∧ d = .sl els
theorem ArgV.own {e : Env} {σ : Obs} {x : Operand} {id ee size : Nat} {els : List (List D)} (h : e.ev x = .own id) (hm : (id, Ob.row ee size els) ∈ σ) : ArgV e σ x (.sl els) := .inr ⟨id, ee, size, els, h, hm, rfl⟩
theorem ArgV.d {e : Env} {σ : Obs} {x : Operand} {d : D} (h : e.ev x = .d d) : ArgV e σ x d := .inl (.rfl' h)
def ArgsV (e : Env) (σ : Obs) : List Operand → List D → Prop
  | [], [] => True
  | x :: xs, d :: ds => ArgV e σ x d ∧ ArgsV e σ xs ds
  | _, _ => False
theorem ArgsV.nil {e : Env} {σ : Obs} : ArgsV e σ [] [] := trivial
theorem ArgsV.cons {e : Env} {σ : Obs} {x : Operand} {d : D} {xs : List Operand} {ds : List D} (h : ArgV e σ x d) (k : ArgsV e σ xs ds) : ArgsV e σ (x :: xs) (d :: ds) := ⟨h, k⟩

theorem ob_rep {B : Nat} {F : Nat → Prop} {ρ : Nat → Value} {w : World} {σ : Obs} (h : ObsOk B F ρ w σ) {id ee size : Nat} {els : List (List D)} (hm : (id, Ob.row ee size els) ∈ σ) : Rep (endF F ρ σ) w (ρ id) (.sl els) := by
  obtain ⟨xs, h1, h2, h3, _⟩ := h.ok _ hm
  dsimp only at h1
  have hb : ∀ g, blk (ρ id) = some g → endF F ρ σ g := fun g hg => .inr ⟨_, hm, hg⟩
  generalize ρ id = v at *
  rcases h1.2 with ⟨rfl, h4⟩ | ⟨g, cap, cur, rfl, hg, hh, hn, hmx, hcs, ht⟩
  · have : els = [] := List.eq_nil_of_length_eq_zero h4
    subst this
    exact .nil
  · refine .sl ⟨g, 0, none⟩ cap size els xs hn (by unfold maxLen at hmx; omega) (fun _ => hb g rfl) h2 ?_ (fun i j hi hj => (h3 i hi j (by rw [h2]; exact hj)).1) (fun i hi j hj => (h3 i hi j hj).2.mono (fun b hb => .inl hb) fun _ _ => rfl)
    intro i j hi hj
    exact World.ownsRow.cells h1 (g := g) rfl _ _ (flatten_get xs size els.length i j hi hj)

theorem ArgsV.rep {B : Nat} {e : Env} {σ : Obs} {F : Nat → Prop} {ρ : Nat → Value} {w : World} {a : Act} (h : ObsOk B F ρ w σ) : ∀ {xs : List Operand} {ds : List D}, ArgsV e σ xs ds → (∀ x ∈ xs, RepS F ρ w (a.eval x) (e.ev x)) → RepL (endF F ρ σ) w (xs.map a.eval) ds
  | [], [], _, _ => RepL.nil
  | x :: xs, d :: ds, hd, ha => by
    refine RepL.cons ?_ (ArgsV.rep h hd.2 fun y hy => ha y (List.mem_cons_of_mem _ hy))
    have h3 := ha x (by simp)
    rcases hd.1 with ⟨d0, h1, h2⟩ | ⟨id, ee, size, els, h1, h2, rfl⟩
    · rw [h1] at h3
      exact h2 _ _ _ ((repS_d h3).mono (fun b hb => .inl hb) fun _ _ => rfl)
    · rw [h1] at h3
      generalize a.eval x = v at h3
      cases h3
      exact ob_rep h h2
  | [], _ :: _, h, _ => h.elim
  | _ :: _, [], h, _ => h.elim

theorem AOp.callV {P : Program} {B : Nat} {ops : Array Oper} {o : Oper} {e : Env} {σ : Obs} {f : FuncId} {xs : List Operand} {ts : Array TypeId} {ds : List D} {y : Value}
    (ho : o.op = .call { callee := .value (.func f), args := xs.toArray, argTypes := ts }) (ha : ArgsV e σ xs ds) (h : ACall P f ds (.v y)) : AOp P B ops o e σ (.d (.v y)) := by
  intro F ρ w a hF hr hσ
  have hr' : ∀ y ∈ o.op.operands.toList, RepS F ρ w (a.eval y) (e.ev y) := fun y hy => ev_rep fun t ht => hr t (looks_op (by rw [← ht]; exact hy))
  have h1 := ha.rep (a := a) hσ fun x hx => hr' x (by rw [ho]; simp [Op.operands, Call.operands, hx])
  have hF2 : ∀ b, endF F ρ σ b → b < w.heap.size := by
    rintro b (hb | ⟨p, hp, hb⟩)
    · exact hF b hb
    · exact ((hσ.ok p hp).blk_lt hb).2
  have h2 := h.2 (endF F ρ σ) w _ hF2 h1
  have h3 := h.1 (xs.map a.eval).toArray w
  have hx : (execOp a.eval o).run P w = .ok (.enter f (xs.map a.eval).toArray) w := by
    unfold execOp
    simp only [ho, resolve, Deferred.ofValue, Act.eval, invoke, Sem.run_bind, Sem.run_pure, Result.andThen_ok]
    simpa using h3
  unfold Oper.wp
  rw [hx]
  refine h2.mono fun _ w' ⟨v, F', he, hv, hE⟩ => ?_
  subst he
  exact ⟨v, F, rfl, by rw [rep_v hv]; exact .d (.v _), Ext.of_below hF hE.below⟩
end Go.Proofs.YtajghehicmlajaaDoor
