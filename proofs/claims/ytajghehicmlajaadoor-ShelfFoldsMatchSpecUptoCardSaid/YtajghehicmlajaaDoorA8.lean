/- Abstract values: contracts told of exact values; struct types; more own rows. No statement of the seat. -/
import Derived.Test.YtajghehicmlajaaDoorA7
namespace Go.Proofs.YtajghehicmlajaaDoor
open Go.RowKit

theorem repL_v {F : Nat → Prop} {w : World} : ∀ {vs us : List Value}, RepL F w vs (us.map D.v) → vs = us
  | [], [], _ => rfl
  | [], _ :: _, h => by have := h.1; simp at this
  | _ :: _, [], h => by have := h.1; simp at this
  | v :: vs, u :: us, h => by
    have h1 := h.2 0 (by simp) (by simp)
    simp only [List.getElem_cons_zero, List.map_cons] at h1
    have h2 : RepL F w vs (us.map D.v) := ⟨by have := h.1; simpa using this, fun i hi hi' => by
      have := h.2 (i + 1) (by simpa using hi) (by simpa using hi')
      simpa using this⟩
    rw [rep_v h1, repL_v h2]

/-- A contract told of exact values. -/
theorem acall_exact {P : Program} {f : FuncId} {us : List Value} {y : Value} (he : Enters P f) (h : ∀ w, Calls P f us.toArray w fun e w' => e = .returned y ∧ Below w.heap.size w w') : ACall P f (us.map D.v) (.v y) :=
  ⟨he, fun F w vs hF hv => by
    rw [repL_v hv]
    exact (h w).mono fun e w' ⟨h1, h2⟩ => ⟨y, F, h1, .v _, Ext.of_below hF h2⟩⟩

/-- A struct's places and zero, checked by computing. -/
def structB (P : Program) (t : TypeId) (places : Array (Nat × Nat)) : Bool :=
  match P.underlying t with
  | some (.struct fs) => fs.size == places.size && (fs.zip places).all fun (f, p) => f.offset == p.1 && (match P.info? f.type with | some i => i.size == p.2 | none => false)
  | _ => false
theorem StructT.of {P : Program} {t : TypeId} {places : Array (Nat × Nat)} {zero : List Value} (hz : (P.info? t).bind (·.zero) = some (.agg zero.toArray)) (hb : structB P t places = true) (h1 : ∀ u ∈ zero, u.oneCell' = true) :
    StructT P t (fun i => places[i]?) zero := by
  refine ⟨fun w parts => ?_, h1⟩
  unfold structB at hb
  split at hb
  · rename_i fs hu
    simp only [Bool.and_eq_true, beq_iff_eq, Array.all_eq_true] at hb
    obtain ⟨hs, hall⟩ := hb
    obtain ⟨i, hi, hzz⟩ := Option.bind_eq_some_iff.1 hz
    have hprog : (program : Sem Program).run P w = .ok P w := rfl
    have hsz : ∀ (k : Nat) (hk : k < fs.size) (hk' : k < places.size), (fs[k].offset = places[k].1) ∧ ∀ w, (sizeOf fs[k].type).run P w = .ok places[k].2 w := by
      intro k hk hk'
      have h2 := hall k (by simp; omega)
      rw [Array.getElem_zip] at h2
      dsimp only at h2
      refine ⟨h2.1, fun w => ?_⟩
      cases hi2 : P.info? fs[k].type with
      | none => rw [hi2] at h2; simp at h2
      | some i2 =>
        rw [hi2] at h2
        simp only [beq_iff_eq] at h2
        simp [sizeOf, typeInfo, hi2, h2.2]
    have hm : (fs.mapM fun f => do pure (f.offset, ← sizeOf f.type) : Sem (Array (Nat × Nat))).run P w = .ok places w := by
      have key : ∀ (l : List Field) (m : List (Nat × Nat)), l.length = m.length → (∀ k (h1 : k < l.length) (h2 : k < m.length), l[k].offset = m[k].1 ∧ ∀ w, (sizeOf l[k].type).run P w = .ok m[k].2 w) →
          (List.mapM (fun f => do pure (f.offset, ← sizeOf f.type)) l : Sem (List (Nat × Nat))).run P w = .ok m w := by
        intro l
        induction l with
        | nil => intro m hm _; have : m = [] := List.eq_nil_of_length_eq_zero hm.symm; subst this; rfl
        | cons f l ih =>
          intro m hm h3
          cases m with
          | nil => simp at hm
          | cons p m =>
            have h4 := h3 0 (by simp) (by simp)
            simp only [List.getElem_cons_zero] at h4
            rw [List.mapM_cons, Sem.run_bind, Sem.run_bind, h4.2 w]
            simp only [Result.andThen_ok, Sem.run_pure, Sem.run_bind]
            rw [ih m (by simpa using hm) (fun k h1 h2 => by have := h3 (k + 1) (by simpa using h1) (by simpa using h2); simpa using this)]
            simp only [Result.andThen_ok, h4.1]
      have e1 : fs = fs.toList.toArray := by simp
      rw [e1, List.mapM_toArray, Sem.run_map, key fs.toList places.toList (by simpa using hs) (fun k h1 h2 => by simpa using hsz k (by simpa using h1) (by simpa using h2))]
      rfl
    unfold Instr.build
    simp only [Sem.run_bind, zeroValue, typeInfo, hprog, Result.andThen_ok, hi, Sem.run_pure, hzz, run_underlying hu, hm, Value.cells]
    cases Instr.fill (fun x => places[x]?) zero.toArray parts.toList <;> rfl
  · simp at hb

/-- A field of a struct value. -/
def fieldB (P : Program) (t : TypeId) (f off : Nat) : Bool :=
  match P.underlying t with
  | some (.struct fs) => match fs[f]? with | some fl => fl.offset == off && scalB P fl.type | none => false
  | _ => false
section
variable {P : Program} {B : Nat} {ops : Array Oper} {o : Oper} {e : Env} {σ : Obs}
theorem AOp.field {t : TypeId} {x : Operand} {f off : Nat} {ds : List D} {d : D} (ho : o.op = .field t x f) (hf : fieldB P t f off = true) (hx : e.ev x = .d (.agg ds)) (hd : ds[off]? = some d) : AOp P B ops o e σ (.d d) :=
  .value fun F ρ w a hF hr _ => by
  have h1 := hr x (by rw [ho]; simp [Op.operands])
  rw [hx] at h1
  have h2 := repS_d h1
  generalize hv : a.eval x = v at h2
  cases h2 with
  | agg cs _ hl hone h =>
    have hlt : off < ds.length := (List.getElem?_eq_some_iff.1 hd).1
    have hde : ds[off] = d := (List.getElem?_eq_some_iff.1 hd).2
    have hlt' : off < cs.length := by omega
    refine ⟨cs[off], F, w, ?_, .d (by rw [← hde]; exact h off hlt' hlt), Ext.refl hF⟩
    unfold fieldB at hf
    split at hf
    · rename_i fs hu
      split at hf
      · rename_i fl hfl
        simp only [Bool.and_eq_true, beq_iff_eq] at hf
        have hsc := Scal.of hf.2 w
        unfold execOp
        simp only [ho, hv, Instr.field, Sem.run_bind, run_underlying hu, Result.andThen_ok, hfl, asAgg, Sem.run_pure, part, hsc, Bool.false_eq_true, if_false, hf.1]
        simp [hlt']
      · simp at hf
    · simp at hf
/-- An integer turned into another kind. -/
def convB (P : Program) (s t : TypeId) (k : IntKind) : Bool := (P.underlying s).isSome && (match P.underlying t with | some (.int k') => k' == k | _ => false)
theorem AOp.convInt {s t : TypeId} {x : Operand} {k k0 : IntKind} {n : Int} (ho : o.op = .convert s t x) (hc : convB P s t k = true) (hx : e.ev x = .d (.v (.int k0 n))) : AOp P B ops o e σ (.d (.v (.int k (k.wrap n)))) :=
  .value fun F ρ w a hF hr _ => by
  have h1 := hr x (by rw [ho]; simp [Op.operands])
  rw [hx] at h1
  refine ⟨_, F, w, ?_, .d (.v _), Ext.refl hF⟩
  unfold convB at hc
  simp only [Bool.and_eq_true] at hc
  obtain ⟨u, hu⟩ := Option.isSome_iff_exists.1 hc.1
  cases ht : P.underlying t with
  | none => rw [ht] at hc; simp at hc
  | some d =>
    rw [ht] at hc
    cases d with
    | int k' =>
      simp only [beq_iff_eq] at hc
      obtain rfl : k' = k := by have := hc.2; cases k' <;> cases k <;> first | rfl | (simp at this)
      unfold execOp
      simp only [ho, repS_v h1, convert, Sem.run_bind, run_underlying hu, run_underlying ht, Result.andThen_ok]
      cases u <;> rfl
    | _ => simp at hc
end
end Go.Proofs.YtajghehicmlajaaDoor
