/- Abstract values: comparing structs of plain fields. No statement of the seat. -/
import Derived.Test.YtajghehicmlajaaDoorA19
import Derived.ChangeKeysEq
import Derived.Laws.StructEq
namespace Go.Proofs.YtajghehicmlajaaDoor
open Go.RowKit
/-- A plain field's kind. -/
inductive Kd where
  | int (k : IntKind)
  | str
  | bool
def Kd.fits : Kd → Value → Bool
  | .int k, .int k' _ => decide (k' = k)
  | .str, .string _ => true
  | .bool, .bool _ => true
  | _, _ => false
def Kd.ofType (P : Program) (t : TypeId) : Kd → Bool
  | .int k => match P.underlying t with | some (.int k') => decide (k' = k) | _ => false
  | .str => match P.underlying t with | some .string => true | _ => false
  | .bool => match P.underlying t with | some .bool => true | _ => false
def kindsB : List Kd → List Value → Bool
  | [], [] => true
  | k :: ks, v :: vs => k.fits v && kindsB ks vs
  | _, _ => false
def fieldsB (P : Program) : Nat → List Kd → List Field → Bool
  | _, [], [] => true
  | i, k :: ks, f :: fs => (f.name != "_") && (f.offset == i) && k.ofType P f.type && fieldsB P (i + 1) ks fs
  | _, _, _ => false
def sameV : Value → Value → Bool
  | .int _ a, .int _ b => decide (a = b)
  | .string a, .string b => decide (a = b)
  | .bool a, .bool b => decide (a = b)
  | _, _ => false
def sameL : List Value → List Value → Bool
  | [], [] => true
  | a :: l, b :: r => sameV a b && sameL l r
  | _, _ => false
theorem run_eqCell {P : Program} (w : World) {k : Kd} {t : TypeId} (hk : k.ofType P t = true) {a b : Value} (ha : k.fits a = true) (hb : k.fits b = true) (d : Nat) : (Op.equalIn (d + 1) t a b).run P w = .ok (sameV a b) w := by
  cases k with
  | int q =>
    simp only [Kd.ofType] at hk
    split at hk
    · rename_i q' hu
      have hq := of_decide_eq_true hk
      subst hq
      cases a <;> simp only [Kd.fits, Bool.false_eq_true] at ha
      cases b <;> simp only [Kd.fits, Bool.false_eq_true] at hb
      have h1 := of_decide_eq_true ha
      have h2 := of_decide_eq_true hb
      subst h1
      rename_i x _ y
      subst h2
      rw [run_equalIn_int w d t _ _ x y hu]
      rw [show (x == y) = decide (x = y) by by_cases hxy : x = y <;> simp [hxy]]; rfl
    · cases hk
  | str =>
    simp only [Kd.ofType] at hk
    split at hk
    · rename_i hu
      cases a <;> simp only [Kd.fits, Bool.false_eq_true] at ha
      cases b <;> simp only [Kd.fits, Bool.false_eq_true] at hb
      rename_i x y
      rw [run_equalIn_string w d t x y hu, toList_eq]
      rfl
    · cases hk
  | bool =>
    simp only [Kd.ofType] at hk
    split at hk
    · rename_i hu
      cases a <;> simp only [Kd.fits, Bool.false_eq_true] at ha
      cases b <;> simp only [Kd.fits, Bool.false_eq_true] at hb
      rename_i x y
      rw [run_equalIn_bool w d t x y hu]
      cases x <;> cases y <;> rfl
    · cases hk
theorem ofType_plain {P : Program} {t : TypeId} {k : Kd} (h : k.ofType P t = true) : P.plainKey t = true := by
  unfold Program.plainKey
  cases k <;> simp only [Kd.ofType] at h <;> split at h <;> first | cases h; done | simp_all
theorem run_eqFields_same {P : Program} (w : World) (d : Nat) : ∀ (ks : List Kd) (fs : List Field) (pre pre' us vs : List Value), pre.length = pre'.length → fieldsB P pre.length ks fs = true → kindsB ks us = true → kindsB ks vs = true →
    (Op.eqFields (d + 1) (pre ++ us).toArray (pre' ++ vs).toArray fs).run P w = .ok (sameL us vs) w
  | [], [], _, _, [], [], _, _, _, _ => by simp [Op.eqFields, sameL]
  | k :: ks, f :: fs, pre, pre', u :: us, v :: vs, hl, hf, hu, hv => by
    simp only [fieldsB, kindsB, Bool.and_eq_true, bne_iff_ne, beq_iff_eq] at hf hu hv
    obtain ⟨⟨⟨hn, ho⟩, hk⟩, hf⟩ := hf
    have ih := run_eqFields_same w d ks fs (pre ++ [u]) (pre' ++ [v]) us vs (by simp [hl]) (by simpa using hf) hu.2 hv.2
    have p1 : (part f.type (pre ++ u :: us).toArray f.offset).run P w = .ok u w := run_part_plain w (ofType_plain hk) (by rw [ho]; simp)
    have p2 : (part f.type (pre' ++ v :: vs).toArray f.offset).run P w = .ok v w := run_part_plain w (ofType_plain hk) (by rw [ho, hl]; simp)
    rw [List.append_assoc, List.append_assoc] at ih
    simp only [List.cons_append, List.nil_append] at ih
    simp only [Op.eqFields, hn, ne_eq, not_false_eq_true, if_true, Sem.run_bind, p1, p2, run_eqCell w hk hu.1 hv.1, Result.andThen_ok, sameL]
    cases sameV u v
    · simp
    · simpa using ih
  | [], _ :: _, _, _, _, _, _, h, _, _ => by simp [fieldsB] at h
  | _ :: _, [], _, _, _, _, _, h, _, _ => by simp [fieldsB] at h
  | [], [], _, _, _ :: _, _, _, _, h, _ => by simp [kindsB] at h
  | [], [], _, _, [], _ :: _, _, _, _, h => by simp [kindsB] at h
  | _ :: _, _ :: _, _, _, [], _, _, _, h, _ => by simp [kindsB] at h
  | _ :: _, _ :: _, _, _, _ :: _, [], _, _, _, h => by simp [kindsB] at h
def eqStructB (P : Program) (t : TypeId) (ks : List Kd) : Bool :=
  (match P.underlying t with | some (.struct fs) => fieldsB P 0 ks fs.toList | _ => false) && !P.stoodInHeld t && !P.eqGuardType P.depth t
/-- Structs of plain fields compare field by field. -/
structure EqT (P : Program) (t : TypeId) (ks : List Kd) : Prop where
  guard : ∀ (op : BinOp) (x y : Operand) (us vs : Array Value) (w : World), (eqGuard op t x y (.agg us) (.agg vs)).run P w = .ok () w
  run : ∀ (us vs : List Value) (w : World), kindsB ks us = true → kindsB ks vs = true → (Op.equal t (.agg us.toArray) (.agg vs.toArray)).run P w = .ok (sameL us vs) w
theorem EqT.of {P : Program} {t : TypeId} {ks : List Kd} (h : eqStructB P t ks = true) : EqT P t ks := by
  unfold eqStructB at h
  simp only [Bool.and_eq_true, Bool.not_eq_true'] at h
  obtain ⟨⟨h1, h2⟩, h3⟩ := h
  split at h1
  · rename_i fs hu
    have hfs : P.fieldsOf t = fs := by simp [Program.fieldsOf, hu]
    refine ⟨fun op x y us vs w => ?_, fun us vs w hk1 hk2 => ?_⟩
    · unfold eqGuard
      cases op <;> first | rfl | (simp [run_program, h3])
    · have h4 := run_eqFields_same w 9998 ks fs.toList [] [] us vs rfl (by simpa using h1) hk1 hk2
      unfold Op.equal
      rw [show Op.maxDepth = 9999 + 1 from rfl, run_equalIn_struct w 9999 t us.toArray vs.toArray (by rw [hfs]; exact hu) h2, hfs]
      simpa using h4
  · cases h1
/-- Two cell lists whose values compare as b. -/
def EqD (P : Program) (t : TypeId) (ds1 ds2 : List D) (b : Bool) : Prop := ∃ us vs : List Value, ds1 = us.map D.v ∧ ds2 = vs.map D.v ∧ (∀ (op : BinOp) (x y : Operand) (w : World), (eqGuard op t x y (.agg us.toArray) (.agg vs.toArray)).run P w = .ok () w) ∧
  ∀ w, (Op.equal t (.agg us.toArray) (.agg vs.toArray)).run P w = .ok b w
theorem EqD.of {P : Program} {t : TypeId} {ks : List Kd} {ds1 ds2 : List D} {b : Bool} (T : EqT P t ks) (us vs : List Value) (h1 : ds1 = us.map D.v) (h2 : ds2 = vs.map D.v) (k1 : kindsB ks us = true) (k2 : kindsB ks vs = true) (hb : sameL us vs = b) : EqD P t ds1 ds2 b :=
  ⟨us, vs, h1, h2, fun op x y w => T.guard op x y _ _ w, fun w => by rw [T.run us vs w k1 k2, hb]⟩
theorem rep_vs {F : Nat → Prop} {w : World} {x : Value} {us : List Value} (h : Rep F w x (.agg (us.map D.v))) : x = .agg us.toArray := by
  cases h with
  | agg cs ds hl hone h =>
    congr 2
    rw [List.length_map] at hl
    refine List.ext_getElem hl fun i h1 h2 => ?_
    have := h i h1 (by rw [List.length_map]; exact h2)
    rw [List.getElem_map] at this
    exact rep_v this
section
variable {P : Program} {B : Nat} {ops : Array Oper} {o : Oper} {e : Env} {σ : Obs}
theorem AOp.aggEql {t ty : TypeId} {x y : Operand} {ds1 ds2 : List D} {b : Bool} (ho : o.op = .binOp .eql t x y ty) (hx : e.ev x = .d (.agg ds1)) (hy : e.ev y = .d (.agg ds2)) (E : EqD P t ds1 ds2 b) : AOp P B ops o e σ (.d (.v (.bool b))) := .value fun F ρ w a hF hr _ => by
  obtain ⟨us, vs, rfl, rfl, hg, hq⟩ := E
  have h1 := hr x (by rw [ho]; simp [Op.operands])
  have h2 := hr y (by rw [ho]; simp [Op.operands])
  rw [hx] at h1
  rw [hy] at h2
  refine ⟨.bool b, F, w, ?_, .d (.v _), Ext.refl hF⟩
  unfold execOp
  simp only [ho, rep_vs (repS_d h1), rep_vs (repS_d h2)]
  rw [Sem.run_bind, Sem.run_bind, hg]
  simp only [Result.andThen_ok, binOp, Sem.run_bind, hq, Sem.run_pure]
theorem AOp.aggNeq {t ty : TypeId} {x y : Operand} {ds1 ds2 : List D} {b : Bool} (ho : o.op = .binOp .neq t x y ty) (hx : e.ev x = .d (.agg ds1)) (hy : e.ev y = .d (.agg ds2)) (E : EqD P t ds1 ds2 b) : AOp P B ops o e σ (.d (.v (.bool (!b)))) := .value fun F ρ w a hF hr _ => by
  obtain ⟨us, vs, rfl, rfl, hg, hq⟩ := E
  have h1 := hr x (by rw [ho]; simp [Op.operands])
  have h2 := hr y (by rw [ho]; simp [Op.operands])
  rw [hx] at h1
  rw [hy] at h2
  refine ⟨.bool (!b), F, w, ?_, .d (.v _), Ext.refl hF⟩
  unfold execOp
  simp only [ho, rep_vs (repS_d h1), rep_vs (repS_d h2)]
  rw [Sem.run_bind, Sem.run_bind, hg]
  simp only [Result.andThen_ok, binOp, Sem.run_bind, hq, Sem.run_pure]
end
end Go.Proofs.YtajghehicmlajaaDoor
