/- Abstract values: operations that read memory or make frozen memory. No statement of the seat. -/
import Derived.Test.YtajghehicmlajaaDoorA3
namespace Go.Proofs.YtajghehicmlajaaDoor
open Go.RowKit

theorem rep_sl_sl {F : Nat → Prop} {w : World} {x : Value} {els : List (List D)} (h : Rep F w x (.sl els)) : (x = .slice none 0 0 ∧ els = []) ∨ ∃ (ad : Addr) (cap size : Nat) (vs : Nat → Nat → Value), x = .slice (some ad) els.length cap ∧ els.length ≤ cap ∧ cap ≤ 9223372036854775807 ∧ (0 < els.length → F ad.block) ∧
    (∀ i (h : i < els.length), els[i].length = size) ∧ (∀ i j, i < els.length → j < size → w.cell? (ad.add (i * size + j)) = some (vs i j)) ∧ (∀ i j, i < els.length → j < size → (vs i j).oneCell' = true) ∧
    (∀ i (h : i < els.length) j (h' : j < els[i].length), Rep F w (vs i j) els[i][j]) := by
  cases h with
  | nil => exact .inl ⟨rfl, rfl⟩
  | sl ad cap size els vs hc hm hF hs hcell hone hrep => exact .inr ⟨ad, cap, size, vs, rfl, hc, hm, hF, hs, hcell, hone, hrep⟩

/-- The type at hand is no struct and no array. -/
def Scal (P : Program) (t : TypeId) : Prop := ∀ w, (isAgg t).run P w = .ok false w
def scalB (P : Program) (t : TypeId) : Bool := match P.underlying t with | some (.struct _) => false | some (.array _ _) => false | some _ => true | none => false
theorem Scal.of {P : Program} {t : TypeId} (h : scalB P t = true) : Scal P t := by
  intro w
  unfold scalB at h
  unfold isAgg
  cases hu : P.underlying t with
  | none => rw [hu] at h; simp at h
  | some u => rw [hu] at h; rw [Sem.run_bind, run_underlying hu]; cases u <;> simp at h ⊢
/-- The type at hand is a struct or an array, of so many cells. -/
structure AggT (P : Program) (t : TypeId) (size : Nat) : Prop where
  agg : ∀ w, (isAgg t).run P w = .ok true w
  size : ∀ w, (sizeOf t).run P w = .ok size w
def aggB (P : Program) (t : TypeId) (size : Nat) : Bool := (match P.underlying t with | some (.struct _) => true | some (.array _ _) => true | _ => false) && (match P.info? t with | some i => i.size == size | none => false)
theorem AggT.of {P : Program} {t : TypeId} {size : Nat} (h : aggB P t size = true) : AggT P t size := by
  unfold aggB at h
  simp only [Bool.and_eq_true] at h
  obtain ⟨h1, h2⟩ := h
  refine ⟨fun w => ?_, fun w => ?_⟩
  · unfold isAgg
    cases hu : P.underlying t with
    | none => rw [hu] at h1; simp at h1
    | some u => rw [hu] at h1; rw [Sem.run_bind, run_underlying hu]; cases u <;> simp at h1 ⊢
  · cases hi : P.info? t with
    | none => rw [hi] at h2; simp at h2
    | some i => rw [hi] at h2; simp at h2; simp [sizeOf, typeInfo, hi, h2]
/-- Where a field lies. -/
def fieldOff (P : Program) (t : TypeId) (f : Nat) : Option Nat :=
  match P.underlying t with
  | some (.struct fs) => match fs[f]? with
    | some fl => match P.info? fl.type with
      | some i => if i.size = 0 then none else some fl.offset
      | none => none
    | none => none
  | _ => none
theorem fieldAt_run {P : Program} {t : TypeId} {f k : Nat} (h : fieldOff P t f = some k) (ad : Addr) (w : World) : (Instr.fieldAt t (.pointer (some ad)) f).run P w = .ok (.pointer (some (ad.add k))) w := by
  unfold fieldOff at h
  split at h <;> try (simp at h; done)
  rename_i fs hu
  split at h <;> try (simp at h; done)
  rename_i fl hf
  split at h <;> try (simp at h; done)
  rename_i i hi
  split at h <;> try (simp at h; done)
  rename_i h0
  simp at h
  simp [Instr.fieldAt, run_underlying hu, hf, Instr.sureAddr, fieldPlace, sizeOf, typeInfo, hi, h0, h]

section
variable {P : Program} {B : Nat} {ops : Array Oper} {o : Oper} {e : Env} {σ : Obs}

theorem AOp.lenSl {x : Operand} {t el : TypeId} {els : List (List D)} (ho : o.op = .call { callee := .builtin .len, args := #[x], argTypes := #[t] }) (ht : P.underlying t = some (.slice el)) (hx : e.ev x = .d (.sl els)) :
    AOp P B ops o e σ (.d (.v (.int .i64 els.length))) := .value fun F ρ w a hF hr _ => by
  have h1 := hr x (by rw [ho]; simp [Op.operands, Call.operands])
  rw [hx] at h1
  refine ⟨_, F, w, ?_, .d (.v _), Ext.refl hF⟩
  have h2 : (Builtin.len_ #[t] o.type #[a.eval x]).run P w = .ok (.int .i64 els.length) w := by
    rcases rep_sl_sl (repS_d h1) with ⟨h3, h4⟩ | ⟨ad, cap, size, vs, h3, _⟩
    · rw [h3, h4]; simp [Builtin.len_, run_underlying ht, goInt]
    · rw [h3]; simp [Builtin.len_, run_underlying ht, goInt]
  unfold execOp
  simp only [ho, resolve, invoke, builtin, Sem.run_bind, Sem.run_pure, Result.andThen_ok, List.map_toArray, List.map_cons, List.map_nil, h2]

theorem AOp.lenNil {x : Operand} {t el : TypeId} (ho : o.op = .call { callee := .builtin .len, args := #[x], argTypes := #[t] }) (ht : P.underlying t = some (.slice el)) (hx : e.ev x = .d (.v (.slice none 0 0))) :
    AOp P B ops o e σ (.d (.v (.int .i64 0))) := .value fun F ρ w a hF hr _ => by
  have h1 := hr x (by rw [ho]; simp [Op.operands, Call.operands])
  rw [hx] at h1
  refine ⟨_, F, w, ?_, .d (.v _), Ext.refl hF⟩
  have h2 : (Builtin.len_ #[t] o.type #[a.eval x]).run P w = .ok (.int .i64 0) w := by
    rw [repS_v h1]; simp [Builtin.len_, run_underlying ht, goInt]
  unfold execOp
  simp only [ho, resolve, invoke, builtin, Sem.run_bind, Sem.run_pure, Result.andThen_ok, List.map_toArray, List.map_cons, List.map_nil, h2]

theorem AOp.lenStr {x : Operand} {t : TypeId} {s : ByteArray} (ho : o.op = .call { callee := .builtin .len, args := #[x], argTypes := #[t] }) (ht : P.underlying t = some .string) (hx : e.ev x = .d (.v (.string s))) :
    AOp P B ops o e σ (.d (.v (.int .i64 s.size))) := .value fun F ρ w a hF hr _ => by
  have h1 := hr x (by rw [ho]; simp [Op.operands, Call.operands])
  rw [hx] at h1
  refine ⟨_, F, w, ?_, .d (.v _), Ext.refl hF⟩
  have h2 : (Builtin.len_ #[t] o.type #[a.eval x]).run P w = .ok (.int .i64 s.size) w := by
    rw [repS_v h1]; simp [Builtin.len_, run_underlying ht, goInt]
  unfold execOp
  simp only [ho, resolve, invoke, builtin, Sem.run_bind, Sem.run_pure, Result.andThen_ok, List.map_toArray, List.map_cons, List.map_nil, h2]

theorem AOp.lenOwn {x : Operand} {t el : TypeId} {id ee size : Nat} {els : List (List D)} (ho : o.op = .call { callee := .builtin .len, args := #[x], argTypes := #[t] }) (ht : P.underlying t = some (.slice el)) (hx : e.ev x = .own id)
    (hm : (id, Ob.row ee size els) ∈ σ) : AOp P B ops o e σ (.d (.v (.int .i64 els.length))) := .value fun F ρ w a hF hr hσ => by
  have h1 := hr x (by rw [ho]; simp [Op.operands, Call.operands])
  rw [hx] at h1
  refine ⟨_, F, w, ?_, .d (.v _), Ext.refl hF⟩
  have h2 : (Builtin.len_ #[t] o.type #[a.eval x]).run P w = .ok (.int .i64 els.length) w := by
    generalize a.eval x = v at h1
    cases h1
    obtain ⟨xs, h3, _⟩ := hσ.ok _ hm
    dsimp only at h3
    rcases h3.2 with ⟨h4, h5⟩ | ⟨g, cap, cur, h4, _⟩
    · rw [h4, h5]; simp [Builtin.len_, run_underlying ht, goInt]
    · rw [h4]; simp [Builtin.len_, run_underlying ht, goInt]
  unfold execOp
  simp only [ho, resolve, invoke, builtin, Sem.run_bind, Sem.run_pure, Result.andThen_ok, List.map_toArray, List.map_cons, List.map_nil, h2]

theorem fp_drop {F : Nat → Prop} {w : World} {ad : Addr} {ds : List D} (h : Rep F w (.pointer (some ad)) (.fp ds)) (k : Nat) : Rep F w (.pointer (some (ad.add k))) (.fp (ds.drop k)) := by
  cases h with
  | fp ad ds vs hF hcell hone hrep =>
    refine .fp _ _ (fun j => vs (k + j)) (by rw [addr_block]; exact hF) (fun j hj => ?_) (fun j hj => ?_) (fun j hj => ?_)
    · rw [addr_add_add]; exact hcell _ (by rw [List.length_drop] at hj; omega)
    · exact hone _ (by rw [List.length_drop] at hj; omega)
    · rw [List.getElem_drop]; exact hrep _ _

theorem rep_fp {F : Nat → Prop} {w : World} {x : Value} {ds : List D} (h : Rep F w x (.fp ds)) : ∃ ad, x = .pointer (some ad) := by cases h; exact ⟨_, rfl⟩

theorem AOp.fieldAddr {t : TypeId} {x : Operand} {f k : Nat} {ds : List D} (ho : o.op = .fieldAddr t x f) (hf : fieldOff P t f = some k) (hx : e.ev x = .d (.fp ds)) : AOp P B ops o e σ (.d (.fp (ds.drop k))) :=
  .value fun F ρ w a hF hr _ => by
  have h1 := hr x (by rw [ho]; simp [Op.operands])
  rw [hx] at h1
  have h2 := repS_d h1
  obtain ⟨ad, hv⟩ := rep_fp h2
  rw [hv] at h2
  refine ⟨.pointer (some (ad.add k)), F, w, ?_, .d (fp_drop h2 k), Ext.refl hF⟩
  unfold execOp
  simp only [ho, hv]
  rw [Sem.run_bind, fieldAt_run hf]
  rfl

theorem AOp.load {t : TypeId} {x : Operand} {d : D} {ds : List D} (ho : o.op = .load t x) (hT : Scal P t) (hx : e.ev x = .d (.fp (d :: ds))) : AOp P B ops o e σ (.d d) :=
  .value fun F ρ w a hF hr _ => by
  have h1 := hr x (by rw [ho]; simp [Op.operands])
  rw [hx] at h1
  have h2 := repS_d h1
  obtain ⟨ad, hv⟩ := rep_fp h2
  rw [hv] at h2
  cases h2 with
  | fp _ _ vs hF' hcell hone hrep =>
    have hc := hcell 0 (by simp)
    rw [addr_zero] at hc
    refine ⟨vs 0, F, w, ?_, .d (hrep 0 (by simp)), Ext.refl hF⟩
    unfold execOp
    simp only [ho, hv, Instr.loadAt, Instr.sureAddr, loadVar, Sem.run_bind, Sem.run_pure, Result.andThen_ok, hT w, Bool.false_eq_true, if_false, run_load, hc]

theorem AOp.loadAgg {t : TypeId} {x : Operand} {size : Nat} {ds : List D} (ho : o.op = .load t x) (hT : AggT P t size) (hx : e.ev x = .d (.fp ds)) (hl : ds.length = size) : AOp P B ops o e σ (.d (.agg ds)) :=
  .value fun F ρ w a hF hr _ => by
  have h1 := hr x (by rw [ho]; simp [Op.operands])
  rw [hx] at h1
  have h2 := repS_d h1
  obtain ⟨ad, hv⟩ := rep_fp h2
  rw [hv] at h2
  cases h2 with
  | fp _ _ vs hF' hcell hone hrep =>
    have hl' : (loadCells ad ((List.range ds.length).map vs).length).run P w = .ok ((List.range ds.length).map vs).toArray w := run_loadCells_list w ad _ (fun j v hj => by
      have hlt := (List.getElem?_eq_some_iff.1 hj).1
      simp at hlt
      rw [hcell j hlt, ← hj]
      simp [hlt])
    simp only [List.length_map, List.length_range, hl] at hl'
    refine ⟨.agg ((List.range ds.length).map vs).toArray, F, w, ?_, .d (.agg _ _ (by simp) (fun i h1 => ?_) (fun i h1 h2 => ?_)), Ext.refl hF⟩
    · unfold execOp
      simp only [ho, hv, Instr.loadAt, Instr.sureAddr, loadVar, Sem.run_bind, Sem.run_pure, Result.andThen_ok, hT.agg w, hT.size w, if_true, hl', hl]
    · simp at h1 ⊢; exact hone i h1
    · simp at h1 ⊢; exact hrep i h2

/-- The address of an element. -/
theorem AOp.indexAddr {t el : TypeId} {x ix : Operand} {size bytes : Nat} {z : Value} {n : Int} {els : List (List D)} {ds : List D} (ho : o.op = .indexAddr t x ix) (T : ElemTy P t el size bytes z) (hx : e.ev x = .d (.sl els)) (hi : e.ev ix = .d (.v (.int .i64 n)))
    (k : Nat) (hk : n = k) (hd : els[k]? = some ds) (hl : ds.length = size) : AOp P B ops o e σ (.d (.fp ds)) :=
  .value fun F ρ w a hF hr _ => by
  have h1 := hr x (by rw [ho]; simp [Op.operands])
  have h2 := hr ix (by rw [ho]; simp [Op.operands])
  rw [hx] at h1
  rw [hi] at h2
  have hv2 := repS_v h2
  have hlt : k < els.length := (List.getElem?_eq_some_iff.1 hd).1
  have hde : els[k] = ds := (List.getElem?_eq_some_iff.1 hd).2
  rcases rep_sl_sl (repS_d h1) with ⟨h3, h4⟩ | ⟨ad, cap, size', vs, h3, hc, hm, hF', hs, hcell, hone, hrep⟩
  · rw [h4] at hlt; simp at hlt
  have hsz : size' = size := by rw [← hs k hlt, hde, hl]
  subst hsz
  refine ⟨.pointer (some (ad.add (k * size'))), F, w, ?_, .d (.fp _ _ (vs k) (by rw [addr_block]; exact hF' (by omega)) (fun j hj => ?_) (fun j hj => hone k j hlt (by omega)) (fun j hj => ?_)), Ext.refl hF⟩
  · unfold execOp
    simp only [ho, h3, hv2, hk]
    have hp : 0 ≤ (k : Int) ∧ (k : Int) < (els.length : Int) := ⟨by omega, by omega⟩
    simp [Instr.indexAt, run_underlying T.ht, asIntOf, hlt, T.sizeOf]
  · rw [addr_add_add]; exact hcell k j hlt (by omega)
  · have h5 := hrep k hlt j (by rw [hde]; exact hj)
    simp only [hde] at h5
    exact h5

theorem AOp.extract {x : Operand} {i : Nat} {ds : List D} {d : D} (ho : o.op = .extract x i) (hx : e.ev x = .d (.tup ds)) (hd : ds[i]? = some d) : AOp P B ops o e σ (.d d) :=
  .value fun F ρ w a hF hr _ => by
  have h1 := hr x (by rw [ho]; simp [Op.operands])
  rw [hx] at h1
  have h2 := repS_d h1
  generalize hv : a.eval x = v at h2
  cases h2 with
  | tup cs _ hl h =>
    have hlt : i < ds.length := (List.getElem?_eq_some_iff.1 hd).1
    have hde : ds[i] = d := (List.getElem?_eq_some_iff.1 hd).2
    have hlt' : i < cs.length := by omega
    refine ⟨cs[i], F, w, ?_, .d (by rw [← hde]; exact h i hlt' hlt), Ext.refl hF⟩
    unfold execOp
    simp [ho, hv, Instr.extract, hlt']

theorem AOp.makeFunc {fn : Fn} {cs : List Operand} {caps : List D} (ho : o.op = .makeFunc fn #[] cs.toArray) (hc : ArgsOk e cs caps) : AOp P B ops o e σ (.d (.clo fn caps)) :=
  .value fun F ρ w a hF hr _ => by
  have h1 : RepL F w (cs.map a.eval) caps := by
    refine repL_ops hc fun x hx => hr x ?_
    rw [ho]; simp [Op.operands, hx]
  refine ⟨.func fn #[] (cs.map a.eval).toArray, F, w, ?_, .d (.clo fn _ _ h1.1 h1.2), Ext.refl hF⟩
  unfold execOp
  simp [ho, Instr.makeFunc]

theorem AOp.callClo {x : Operand} {f : FuncId} {xs : List Operand} {ts : Array TypeId} {ds caps : List D} {d : D}
    (ho : o.op = .call { callee := .value x, args := xs.toArray, argTypes := ts }) (hx : e.ev x = .d (.clo (.func f) caps)) (ha : ArgsOk e xs ds) (h : ACall P f (ds ++ caps) d) : AOp P B ops o e σ (.d d) := by
  intro F ρ w a hF hr _
  have hr' : ∀ y ∈ o.op.operands.toList, RepS F ρ w (a.eval y) (e.ev y) := fun y hy => ev_rep fun t ht => hr t (looks_op (by rw [← ht]; exact hy))
  have h1 : RepL F w (xs.map a.eval) ds := repL_ops ha fun y hy => hr' y (by rw [ho]; simp [Op.operands, Call.operands, hy])
  have hc := hr' x (by rw [ho]; simp [Op.operands, Call.operands])
  rw [hx] at hc
  have hc2 := repS_d hc
  generalize hv : a.eval x = v at hc2
  cases hc2 with
  | clo _ cs _ hl hcs =>
    have h2 := h.2 F w (xs.map a.eval ++ cs) hF (RepL.append h1 ⟨hl, hcs⟩)
    have h3 := h.1 (xs.map a.eval ++ cs).toArray w
    have hrun : (execOp a.eval o).run P w = .ok (.enter f (xs.map a.eval ++ cs).toArray) w := by
      unfold execOp
      simp only [ho, resolve, Deferred.ofValue, hv, invoke, Sem.run_bind, Sem.run_pure, Result.andThen_ok]
      simpa using h3
    unfold Oper.wp
    rw [hrun]
    exact h2.mono fun _ w' ⟨v, F', he, hv, hE⟩ => by subst he; exact ⟨v, F', rfl, .d hv, hE⟩
end
end Go.Proofs.YtajghehicmlajaaDoor
