/- Abstract values: entering and leaving a function; the operations. No statement of the seat. -/
import Derived.Test.YtajghehicmlajaaDoorA2
namespace Go.Proofs.YtajghehicmlajaaDoor
open Go.RowKit

/-! ## Entering and leaving -/
def Env.args : Nat → List D → Env
  | _, [] => fun _ => .d .any
  | k, d :: ds => fun u => match Nat.beq u k with | true => .d d | false => Env.args (k + 1) ds u

theorem Env.args_get : ∀ (ds : List D) (k t : Nat), (h : t < ds.length) → Env.args k ds (k + t) = .d ds[t]
  | [], _, _, h => absurd h (by simp)
  | d :: ds, k, t, h => by
    cases t with
    | zero => simp [Env.args]
    | succ t =>
      have hb : Nat.beq (k + (t + 1)) k = false := by rw [Bool.eq_false_iff]; intro hh; have := Nat.eq_of_beq_eq_true hh; omega
      simp only [Env.args, hb]
      have := Env.args_get ds (k + 1) t (by simpa using h)
      rw [show k + (t + 1) = k + 1 + t by omega, this]
      simp
theorem Env.args_out : ∀ (ds : List D) (k t : Nat), (h : ds.length ≤ t) → Env.args k ds (k + t) = .d .any
  | [], _, _, _ => rfl
  | d :: ds, k, t, h => by
    have hb : Nat.beq (k + t) k = false := by rw [Bool.eq_false_iff]; intro hh; have := Nat.eq_of_beq_eq_true hh; simp at h; omega
    simp only [Env.args, hb]
    have := Env.args_out ds (k + 1) (t - 1) (by simp at h; omega)
    rw [show k + t = k + 1 + (t - 1) by simp at h; omega, this]

def RetD (e : Env) (σ : Obs) (t : Nat) (d : D) : Prop := (∃ d0, e t = .d d0 ∧ Le d0 d) ∨ ∃ id ee size els, e t = .own id ∧ (id, Ob.row ee size els) ∈ σ ∧ d = .sl els
theorem RetD.rfl' {e : Env} {σ : Obs} {t : Nat} {d : D} (h : e t = .d d) : RetD e σ t d := .inl ⟨d, h, Le.refl d⟩
theorem RetD.eq {e : Env} {σ : Obs} {t : Nat} {d d' : D} (h : e t = .d d) (hd : d = d') : RetD e σ t d' := .inl ⟨d, h, Le.of_eq hd⟩
theorem RetD.nil {e : Env} {σ : Obs} {t : Nat} (h : e t = .d (.v (.slice none 0 0))) : RetD e σ t (.sl []) := .inl ⟨_, h, Le.nil⟩
theorem RetD.own {e : Env} {σ : Obs} {t id ee size : Nat} {els els' : List (List D)} (h : e t = .own id) (hm : (id, Ob.row ee size els) ∈ σ) (hd : els = els') : RetD e σ t (.sl els') := .inr ⟨id, ee, size, els, h, hm, by rw [hd]⟩

def RetL (e : Env) (σ : Obs) : List Nat → List D → Prop
  | [], [] => True
  | t :: ts, d :: ds => RetD e σ t d ∧ RetL e σ ts ds
  | _, _ => False
def RetQ (ts : List Nat) (ds : List D) : Post := fun ex e σ => match ex with
  | .ret => RetL e σ ts ds
  | .normal => RetL e σ ts ds
  | _ => False

/-- The frozen blocks at a function's end: all the own ones too. -/
def endF (F : Nat → Prop) (ρ : Nat → Value) (σ : Obs) : Nat → Prop := fun b => F b ∨ ∃ p ∈ σ, blk (ρ p.1) = some b

theorem RetD.rep {cx : Cx} {F : Nat → Prop} {ρ : Nat → Value} {e : Env} {σ : Obs} {a : Act} {w : World} (h : R0 cx F ρ e σ a w) {t : Nat} {d : D} (hd : RetD e σ t d) : Rep (endF F ρ σ) w (a.tmps.getD t undef) d := by
  have hx := h.env t
  rcases hd with ⟨d0, h1, h2⟩ | ⟨id, ee, size, els, h1, h2, rfl⟩
  · rw [h1] at hx
    exact h2 _ _ _ ((repS_d hx).mono (fun b hb => .inl hb) fun _ _ => rfl)
  · rw [h1] at hx
    generalize a.tmps.getD t undef = x at hx
    cases hx
    exact h.rep_row h2 (fun b hb => .inl hb) (fun g hg => .inr ⟨_, h2, hg⟩)

theorem RetL.rep {cx : Cx} {F : Nat → Prop} {ρ : Nat → Value} {e : Env} {σ : Obs} {a : Act} {w : World} (h : R0 cx F ρ e σ a w) : ∀ {ts : List Nat} {ds : List D}, RetL e σ ts ds → RepL (endF F ρ σ) w (ts.map fun t => a.tmps.getD t undef) ds
  | [], [], _ => RepL.nil
  | _ :: _, _ :: _, hd => RepL.cons (hd.1.rep h) (RetL.rep h hd.2)
  | [], _ :: _, hd => hd.elim
  | _ :: _, [], hd => hd.elim

theorem endF_ext {cx : Cx} {F : Nat → Prop} {ρ : Nat → Value} {e : Env} {σ : Obs} {a : Act} {w : World} (h : R0 cx F ρ e σ a w) (hB : ∀ b, cx.fr b → cx.w0.heap.size ≤ b) : Ext cx.F0 cx.w0 (endF F ρ σ) w := by
  refine ⟨fun b hb => .inl (h.base b hb), ?_, ?_, ⟨h.below.os, h.below.tape, h.below.output, h.below.size, fun k hk => h.below.block k hk (fun hf => by have := hB k hf; omega)⟩⟩
  · rintro b (hb | ⟨p, hp, hb⟩)
    · exact (h.new b hb).imp id (hB b)
    · exact .inr (hB b (h.kown p hp b hb))
  · rintro b (hb | ⟨p, hp, hb⟩)
    · exact h.lt b hb
    · exact ((h.obs.ok p hp).blk_lt hb).2

/-- What the results come to, as one value. -/
def retOf : List D → D
  | [d] => d
  | ds => .tup ds

theorem acall_of {P : Program} {f : FuncId} {fn : Func} {c : Code} {n : Nat} {ds ds' : List D} (hf : P.funcs[f]? = some fn) (hb : fn.body = some c) (hn : (fn.name == "runtime.NumGoroutine") = false) (hN : fn.ntmps = n)
    (ts : List Nat) (hr : fn.results = (ts.map ResultVar.tmp).toArray) (hle' : Nat.ble ds.length n = true) (h : ∀ B w0 F0 fr, AWP ⟨P, n, B, w0, F0, fr, fun _ => false, fun _ => undef⟩ c (Env.args 0 ds) [] (RetQ ts ds')) : ACall P f ds (retOf ds') := by
  have hle : ds.length ≤ n := Nat.le_of_ble_eq_true hle'
  refine ⟨Enters.of hf hn (by rw [hb]; rfl), fun F w vs hF hv => ?_⟩
  refine calls_of_wp hf hb ?_
  have hR : R ⟨P, n, w.heap.size, w, F, (fun b => w.heap.size ≤ b), fun _ => false, fun _ => undef⟩ (Env.args 0 ds) [] { tmps := vs.toArray ++ Array.replicate (fn.ntmps - vs.toArray.size) undef, defers := [] } w := by
    refine ⟨F, fun _ => undef, ?_, rfl, hF, fun b hb => hb, fun b hb => .inl hb, Kept.refl _ _, Nat.le_refl _, fun t => ?_, ⟨fun p hp => by simp at hp, fun p hp => by simp at hp, fun p hp => by simp at hp⟩, fun b hb => hb, fun p hp => by simp at hp, fun i hi => by simp at hi⟩
    · simp [hN, hv.1]; omega
    · by_cases ht : t < ds.length
      · have := Env.args_get ds 0 t ht
        rw [Nat.zero_add] at this
        rw [this]
        have hvt : t < vs.length := by rw [hv.1]; exact ht
        have : (vs.toArray ++ Array.replicate (fn.ntmps - vs.toArray.size) undef).getD t undef = vs[t] := by
          rw [Array.getD_eq_getD_getElem?, Array.getElem?_append_left (by simpa using hvt)]
          simp [hvt]
        rw [this]
        exact .d (hv.2 t hvt ht)
      · have := Env.args_out ds 0 t (by omega)
        rw [Nat.zero_add] at this
        rw [this]
        exact .d (.any _)
  refine wp_mono (h _ _ _ _ _ _ hR) ?_
  rintro ex a w' ⟨e', σ', hq, F', ρ', hr'⟩
  have hres : (results fn a.tmps).run P w' = .ok (match ts.map fun t => a.tmps.getD t undef with | [x] => x | l => .tuple l.toArray) w' := by
    have key : ∀ (ts : List Nat), (List.mapM (fun r => match r with | .tmp t => pure (a.tmps.getD t undef) | .cell b t => do loadVar t (← asAddr (a.tmps.getD b undef))) (ts.map ResultVar.tmp) : Sem (List Value)).run P w' = .ok (ts.map fun t => a.tmps.getD t undef) w' := by
      intro ts
      induction ts with
      | nil => rfl
      | cons t ts ih =>
        rw [List.map_cons, List.mapM_cons, Sem.run_bind]
        simp only [Sem.run_pure, Result.andThen_ok, Sem.run_bind, ih, List.map_cons]
    unfold results
    rw [hr, Sem.run_bind]
    have h2 : (Array.mapM (fun r => match r with | ResultVar.tmp t => pure (a.tmps.getD t undef) | ResultVar.cell b t => do loadVar t (← asAddr (a.tmps.getD b undef))) (ts.map ResultVar.tmp).toArray : Sem (Array Value)).run P w' = .ok (ts.map fun t => a.tmps.getD t undef).toArray w' := by
      rw [List.mapM_toArray, Sem.run_map, key]
      rfl
    have h3 := h2
    refine (congrArg (fun r => Result.andThen r _) h3).trans ?_
    simp only [Result.andThen_ok]
    rcases ts with _ | ⟨t, _ | ⟨t2, ts⟩⟩ <;> rfl
  have hends : RetL e' σ' ts ds' → bodyPost P fn (fun e w' => ∃ v F', e = .returned v ∧ Rep F' w' v (retOf ds') ∧ Ext F w F' w') .ret a w' := by
    intro hq
    have hl := hq.rep hr'
    refine ⟨hr'.defers, _, hres, _, endF F' ρ' σ', rfl, ?_, endF_ext hr' (fun b hb => hb)⟩
    generalize (ts.map fun t => a.tmps.getD t undef) = vs' at hl
    obtain ⟨h1, h2⟩ := hl
    rcases ds' with _ | ⟨d, _ | ⟨d2, ds'⟩⟩
    · have : vs' = [] := List.eq_nil_of_length_eq_zero h1
      subst this
      exact .tup [] [] rfl (fun i h1 => absurd h1 (by simp))
    · rcases vs' with _ | ⟨x, _ | ⟨y, vs'⟩⟩ <;> simp at h1
      exact h2 0 (by simp) (by simp)
    · rcases vs' with _ | ⟨x, _ | ⟨y, vs'⟩⟩
      · simp at h1
      · simp at h1
      · exact .tup _ _ h1 h2
  cases ex with
  | ret => exact hends hq
  | normal => exact hends hq
  | exit id => exact hq.elim
  | goto l => exact hq.elim
  | panic c => exact hq.elim
  | outgrown => exact hq.elim

/-! ## Operations -/
section
variable {P : Program} {B : Nat} {ops : Array Oper} {o : Oper} {e : Env} {σ : Obs}

theorem AOp.value {s : S} (h : ∀ (F : Nat → Prop) (ρ : Nat → Value) (w : World) (a : Act), (∀ b, F b → b < w.heap.size) → (∀ x ∈ o.op.operands.toList, RepS F ρ w (a.eval x) (e.ev x)) → ObsOk B F ρ w σ →
    ∃ v F' w', (execOp a.eval o).run P w = .ok (.value v) w' ∧ RepS F' ρ w' v s ∧ Ext F w F' w') : AOp P B ops o e σ s := by
  intro F ρ w a hF ha hσ
  obtain ⟨v, F', w', h1, h2, h3⟩ := h F ρ w a hF (fun x hx => ev_rep fun t ht => ha t (looks_op (by rw [← ht]; exact hx))) hσ
  unfold Oper.wp
  rw [h1]
  exact ⟨v, F', rfl, h2, h3⟩

theorem AOp.move {x : Operand} (ho : o.op = .move x) : AOp P B ops o e σ (e.ev x) := .value fun F ρ w a hF hx _ =>
  ⟨a.eval x, F, w, by unfold execOp; simp only [ho]; rfl, hx x (by rw [ho]; simp [Op.operands]), Ext.refl hF⟩
theorem AOp.assign {x : Operand} (ho : o.op = .assign x) : AOp P B ops o e σ (e.ev x) := .value fun F ρ w a hF hx _ =>
  ⟨a.eval x, F, w, by unfold execOp; simp only [ho]; rfl, hx x (by rw [ho]; simp [Op.operands]), Ext.refl hF⟩

theorem AOp.moveD {x : Operand} {d : D} (ho : o.op = .move x) (hx : e.ev x = .d d) : AOp P B ops o e σ (.d d) := hx ▸ .move ho
theorem AOp.assignD {x : Operand} {d : D} (ho : o.op = .assign x) (hx : e.ev x = .d d) : AOp P B ops o e σ (.d d) := hx ▸ .assign ho
theorem AOp.moveO {x : Operand} {id : Nat} (ho : o.op = .move x) (hx : e.ev x = .own id) : AOp P B ops o e σ (.own id) := hx ▸ .move ho
theorem AOp.assignO {x : Operand} {id : Nat} (ho : o.op = .assign x) (hx : e.ev x = .own id) : AOp P B ops o e σ (.own id) := hx ▸ .assign ho
theorem AOp.moveP {x : Operand} {id off : Nat} (ho : o.op = .move x) (hx : e.ev x = .ptr id off) : AOp P B ops o e σ (.ptr id off) := hx ▸ .move ho
theorem AOp.assignP {x : Operand} {id off : Nat} (ho : o.op = .assign x) (hx : e.ev x = .ptr id off) : AOp P B ops o e σ (.ptr id off) := hx ▸ .assign ho

theorem AOp.bin {op : BinOp} {t ty : TypeId} {x y : Operand} {u1 u2 u : Value} (ho : o.op = .binOp op t x y ty) (hx : e.ev x = .d (.v u1)) (hy : e.ev y = .d (.v u2))
    (h : ∀ w, (do eqGuard op t x y u1 u2; binOp op t u1 u2 : Sem Value).run P w = .ok u w) : AOp P B ops o e σ (.d (.v u)) := .value fun F ρ w a hF hr _ => by
  have h1 := hr x (by rw [ho]; simp [Op.operands])
  have h2 := hr y (by rw [ho]; simp [Op.operands])
  rw [hx] at h1
  rw [hy] at h2
  refine ⟨u, F, w, ?_, .d (.v _), Ext.refl hF⟩
  have := h w
  rw [← repS_v h1, ← repS_v h2] at this
  unfold execOp
  simp only [ho]
  rw [Sem.run_bind, this]
  rfl

theorem eqGuard_int (op : BinOp) (t : TypeId) (x y : Operand) (k k' : IntKind) (a b : Int) (w : World) : (eqGuard op t x y (.int k a) (.int k' b)).run P w = .ok () w := by
  unfold eqGuard; cases op <;> rfl
theorem eqGuard_str (op : BinOp) (t : TypeId) (x y : Operand) (a b : ByteArray) (w : World) : (eqGuard op t x y (.string a) (.string b)).run P w = .ok () w := by
  unfold eqGuard; cases op <;> rfl

theorem AOp.add {t ty : TypeId} {x y : Operand} {k : IntKind} {a b : Int} (ho : o.op = .binOp .add t x y ty) (hx : e.ev x = .d (.v (.int k a))) (hy : e.ev y = .d (.v (.int k b))) :
    AOp P B ops o e σ (.d (.v (.int k (k.wrap (a + b))))) := .bin ho hx hy fun w => by
  rw [Sem.run_bind, eqGuard_int]; simp [binOp, Op.intArith]
theorem AOp.sub {t ty : TypeId} {x y : Operand} {k : IntKind} {a b : Int} (ho : o.op = .binOp .sub t x y ty) (hx : e.ev x = .d (.v (.int k a))) (hy : e.ev y = .d (.v (.int k b))) :
    AOp P B ops o e σ (.d (.v (.int k (k.wrap (a - b))))) := .bin ho hx hy fun w => by
  rw [Sem.run_bind, eqGuard_int]; simp [binOp, Op.intArith]
theorem AOp.mul {t ty : TypeId} {x y : Operand} {k : IntKind} {a b : Int} (ho : o.op = .binOp .mul t x y ty) (hx : e.ev x = .d (.v (.int k a))) (hy : e.ev y = .d (.v (.int k b))) :
    AOp P B ops o e σ (.d (.v (.int k (k.wrap (a * b))))) := .bin ho hx hy fun w => by
  rw [Sem.run_bind, eqGuard_int]; simp [binOp, Op.intArith]
theorem AOp.quo {t ty : TypeId} {x y : Operand} {k : IntKind} {a b : Int} (ho : o.op = .binOp .quo t x y ty) (hx : e.ev x = .d (.v (.int k a))) (hy : e.ev y = .d (.v (.int k b))) (h0 : b ≠ 0) :
    AOp P B ops o e σ (.d (.v (.int k (k.wrap (a.tdiv b))))) := .bin ho hx hy fun w => by
  rw [Sem.run_bind, eqGuard_int]; simp [binOp, Op.intDiv, h0]
theorem AOp.rem {t ty : TypeId} {x y : Operand} {k : IntKind} {a b : Int} (ho : o.op = .binOp .rem t x y ty) (hx : e.ev x = .d (.v (.int k a))) (hy : e.ev y = .d (.v (.int k b))) (h0 : b ≠ 0) :
    AOp P B ops o e σ (.d (.v (.int k (a.tmod b)))) := .bin ho hx hy fun w => by
  rw [Sem.run_bind, eqGuard_int]; simp [binOp, Op.intDiv, h0]
theorem w64 {n : Int} (h0 : -9223372036854775808 ≤ n) (h1 : n ≤ 9223372036854775807) : IntKind.i64.wrap n = n := by rw [IntKind.wrap_i64]; omega
theorem AOp.add64 {t ty : TypeId} {x y : Operand} {a b : Int} (ho : o.op = .binOp .add t x y ty) (hx : e.ev x = .d (.v (.int .i64 a))) (hy : e.ev y = .d (.v (.int .i64 b)))
    (h0 : -9223372036854775808 ≤ a + b) (h1 : a + b ≤ 9223372036854775807) : AOp P B ops o e σ (.d (.v (.int .i64 (a + b)))) := by
  have := AOp.add (P := P) (B := B) (ops := ops) (σ := σ) ho hx hy; rwa [w64 h0 h1] at this
theorem AOp.sub64 {t ty : TypeId} {x y : Operand} {a b : Int} (ho : o.op = .binOp .sub t x y ty) (hx : e.ev x = .d (.v (.int .i64 a))) (hy : e.ev y = .d (.v (.int .i64 b)))
    (h0 : -9223372036854775808 ≤ a - b) (h1 : a - b ≤ 9223372036854775807) : AOp P B ops o e σ (.d (.v (.int .i64 (a - b)))) := by
  have := AOp.sub (P := P) (B := B) (ops := ops) (σ := σ) ho hx hy; rwa [w64 h0 h1] at this
theorem AOp.mul64 {t ty : TypeId} {x y : Operand} {a b : Int} (ho : o.op = .binOp .mul t x y ty) (hx : e.ev x = .d (.v (.int .i64 a))) (hy : e.ev y = .d (.v (.int .i64 b)))
    (h0 : -9223372036854775808 ≤ a * b) (h1 : a * b ≤ 9223372036854775807) : AOp P B ops o e σ (.d (.v (.int .i64 (a * b)))) := by
  have := AOp.mul (P := P) (B := B) (ops := ops) (σ := σ) ho hx hy; rwa [w64 h0 h1] at this
/-- Division of what is not negative by what is positive. -/
theorem AOp.quo64 {t ty : TypeId} {x y : Operand} {a b : Int} (ho : o.op = .binOp .quo t x y ty) (hx : e.ev x = .d (.v (.int .i64 a))) (hy : e.ev y = .d (.v (.int .i64 b)))
    (h0 : 0 ≤ a) (h1 : 0 < b) (h2 : a ≤ 9223372036854775807) : AOp P B ops o e σ (.d (.v (.int .i64 (a / b)))) := by
  have := AOp.quo (P := P) (B := B) (ops := ops) (σ := σ) ho hx hy (by omega)
  have hle : a / b ≤ a := Int.ediv_le_self b h0
  have hge : 0 ≤ a / b := Int.ediv_nonneg h0 (by omega)
  rwa [Int.tdiv_eq_ediv_of_nonneg h0, w64 (by omega) (by omega)] at this
theorem AOp.rem64 {t ty : TypeId} {x y : Operand} {a b : Int} (ho : o.op = .binOp .rem t x y ty) (hx : e.ev x = .d (.v (.int .i64 a))) (hy : e.ev y = .d (.v (.int .i64 b)))
    (h0 : 0 ≤ a) (h1 : 0 < b) : AOp P B ops o e σ (.d (.v (.int .i64 (a % b)))) := by
  have := AOp.rem (P := P) (B := B) (ops := ops) (σ := σ) ho hx hy (by omega)
  rwa [Int.tmod_eq_emod_of_nonneg h0] at this
theorem AOp.lss {t ty : TypeId} {x y : Operand} {k : IntKind} {a b : Int} (ho : o.op = .binOp .lss t x y ty) (hx : e.ev x = .d (.v (.int k a))) (hy : e.ev y = .d (.v (.int k b))) :
    AOp P B ops o e σ (.d (.v (.bool (decide (a < b))))) := .bin ho hx hy fun w => by
  rw [Sem.run_bind, eqGuard_int]; simp [binOp, Op.intCmp]
theorem AOp.leq {t ty : TypeId} {x y : Operand} {k : IntKind} {a b : Int} (ho : o.op = .binOp .leq t x y ty) (hx : e.ev x = .d (.v (.int k a))) (hy : e.ev y = .d (.v (.int k b))) :
    AOp P B ops o e σ (.d (.v (.bool (decide (a ≤ b))))) := .bin ho hx hy fun w => by
  rw [Sem.run_bind, eqGuard_int]; simp [binOp, Op.intCmp]
theorem AOp.gtr {t ty : TypeId} {x y : Operand} {k : IntKind} {a b : Int} (ho : o.op = .binOp .gtr t x y ty) (hx : e.ev x = .d (.v (.int k a))) (hy : e.ev y = .d (.v (.int k b))) :
    AOp P B ops o e σ (.d (.v (.bool (decide (b < a))))) := .bin ho hx hy fun w => by
  rw [Sem.run_bind, eqGuard_int]; simp [binOp, Op.intCmp]
theorem AOp.geq {t ty : TypeId} {x y : Operand} {k : IntKind} {a b : Int} (ho : o.op = .binOp .geq t x y ty) (hx : e.ev x = .d (.v (.int k a))) (hy : e.ev y = .d (.v (.int k b))) :
    AOp P B ops o e σ (.d (.v (.bool (decide (b ≤ a))))) := .bin ho hx hy fun w => by
  rw [Sem.run_bind, eqGuard_int]; simp [binOp, Op.intCmp]
theorem AOp.eql {t ty : TypeId} {x y : Operand} {k : IntKind} {a b : Int} (ho : o.op = .binOp .eql t x y ty) (hx : e.ev x = .d (.v (.int k a))) (hy : e.ev y = .d (.v (.int k b))) :
    AOp P B ops o e σ (.d (.v (.bool (decide (a = b))))) := .bin ho hx hy fun w => by
  rw [Sem.run_bind, eqGuard_int]; simp [binOp, Op.intCmp]; rfl
theorem AOp.neq {t ty : TypeId} {x y : Operand} {k : IntKind} {a b : Int} (ho : o.op = .binOp .neq t x y ty) (hx : e.ev x = .d (.v (.int k a))) (hy : e.ev y = .d (.v (.int k b))) :
    AOp P B ops o e σ (.d (.v (.bool (decide (a ≠ b))))) := .bin ho hx hy fun w => by
  rw [Sem.run_bind, eqGuard_int]; simp [binOp, Op.intCmp, bne, Bool.beq_eq_decide_eq]
theorem toList_eq (a b : ByteArray) : (a.toList == b.toList) = decide (a = b) := by
  rw [Bool.eq_iff_iff]
  simp only [ByteArray.toList_eq, beq_iff_eq, decide_eq_true_eq]
  exact ⟨fun h => by cases a; cases b; simp at h; rw [h], fun h => by rw [h]⟩
theorem AOp.seql {t ty : TypeId} {x y : Operand} {a b : ByteArray} (ho : o.op = .binOp .eql t x y ty) (hx : e.ev x = .d (.v (.string a))) (hy : e.ev y = .d (.v (.string b))) :
    AOp P B ops o e σ (.d (.v (.bool (decide (a = b))))) := .bin ho hx hy fun w => by
  rw [Sem.run_bind, eqGuard_str]; simp [binOp, Op.stringOp, toList_eq]
theorem AOp.sneq {t ty : TypeId} {x y : Operand} {a b : ByteArray} (ho : o.op = .binOp .neq t x y ty) (hx : e.ev x = .d (.v (.string a))) (hy : e.ev y = .d (.v (.string b))) :
    AOp P B ops o e σ (.d (.v (.bool (decide (a ≠ b))))) := .bin ho hx hy fun w => by
  rw [Sem.run_bind, eqGuard_str]; simp [binOp, Op.stringOp, toList_eq]
theorem AOp.slss {t ty : TypeId} {x y : Operand} {a b : ByteArray} (ho : o.op = .binOp .lss t x y ty) (hx : e.ev x = .d (.v (.string a))) (hy : e.ev y = .d (.v (.string b))) :
    AOp P B ops o e σ (.d (.v (.bool (Op.bytesLess a.toList b.toList)))) := .bin ho hx hy fun w => by
  rw [Sem.run_bind, eqGuard_str]; simp [binOp, Op.stringOp]
theorem AOp.sleq {t ty : TypeId} {x y : Operand} {a b : ByteArray} (ho : o.op = .binOp .leq t x y ty) (hx : e.ev x = .d (.v (.string a))) (hy : e.ev y = .d (.v (.string b))) :
    AOp P B ops o e σ (.d (.v (.bool (Op.bytesLess a.toList b.toList || decide (a = b))))) := .bin ho hx hy fun w => by
  rw [Sem.run_bind, eqGuard_str]; simp [binOp, Op.stringOp, toList_eq]
theorem AOp.not {t : TypeId} {x : Operand} {b : Bool} (ho : o.op = .unOp .not t x) (hx : e.ev x = .d (.v (.bool b))) : AOp P B ops o e σ (.d (.v (.bool (!b)))) := .value fun F ρ w a hF hr _ => by
  have h1 := hr x (by rw [ho]; simp [Op.operands])
  rw [hx] at h1
  refine ⟨_, F, w, ?_, .d (.v _), Ext.refl hF⟩
  unfold execOp
  simp only [ho, repS_v h1, Op.unary]
  rfl
theorem AOp.pick {c x y : Operand} {b : Bool} (ho : o.op = .pick c x y) (hc : e.ev c = .d (.v (.bool b))) : AOp P B ops o e σ (if b then e.ev x else e.ev y) := .value fun F ρ w a hF hr _ => by
  have h1 := hr c (by rw [ho]; simp [Op.operands])
  have h2 := hr x (by rw [ho]; simp [Op.operands])
  have h3 := hr y (by rw [ho]; simp [Op.operands])
  rw [hc] at h1
  refine ⟨if b then a.eval x else a.eval y, F, w, ?_, by cases b <;> simpa using by first | exact h2 | exact h3, Ext.refl hF⟩
  unfold execOp
  simp only [ho, repS_v h1]
  cases b <;> rfl
end
end Go.Proofs.YtajghehicmlajaaDoor
