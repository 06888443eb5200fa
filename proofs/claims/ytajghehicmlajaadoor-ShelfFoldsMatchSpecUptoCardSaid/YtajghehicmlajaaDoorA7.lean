/- Abstract values: more operations (splits, min and max, slices of slices, literals, strings, conversions). No statement of the seat. -/
import Derived.Test.YtajghehicmlajaaDoorA6
namespace Go.Proofs.YtajghehicmlajaaDoor
open Go.RowKit

theorem bnot_t {b : Bool} (h : (!b) = true) : b = false := by cases b <;> simp_all
theorem bnot_f {b : Bool} (h : (!b) = false) : b = true := by cases b <;> simp_all
theorem Env.put_id {e : Env} {t : Nat} {s : S} (h : e t = s) : e.put (some t) s = e := by
  funext u
  by_cases hu : u = t
  · subst hu; rw [Env.put_same, h]
  · rw [Env.put_other _ _ _ _ hu]

theorem AOps.split {cx : Cx} {ops : Array Oper} {rest : List Oper} {e : Env} {σ : Obs} {Q : Post} (t : Nat) {b : Bool} (ht : e t = .d (.v (.bool b))) (h1 : b = true → AOps cx ops rest (e.put (some t) (.d (.v (.bool true)))) σ Q)
    (h0 : b = false → AOps cx ops rest (e.put (some t) (.d (.v (.bool false)))) σ Q) : AOps cx ops rest e σ Q := by
  cases b with
  | true => have := h1 rfl; rwa [Env.put_id ht] at this
  | false => have := h0 rfl; rwa [Env.put_id ht] at this
theorem DRun.split {cx : Cx} {ops : Array Oper} {rest : List Oper} {e : Env} {σ : Obs} {Q : Env → Prop} (t : Nat) {b : Bool} (ht : e t = .d (.v (.bool b))) (h1 : b = true → DRun cx ops σ rest (e.put (some t) (.d (.v (.bool true)))) Q)
    (h0 : b = false → DRun cx ops σ rest (e.put (some t) (.d (.v (.bool false)))) Q) : DRun cx ops σ rest e Q := by
  cases b with
  | true => have := h1 rfl; rwa [Env.put_id ht] at this
  | false => have := h0 rfl; rwa [Env.put_id ht] at this

theorem rep_cut {F : Nat → Prop} {w : World} {x : Value} {els : List (List D)} (h : Rep F w x (.sl els)) {size : Nat} (hsz : ∀ y ∈ els, y.length = size) (l k : Nat) (hlk : l ≤ k) (hk : k ≤ els.length) :
    ∃ a cap, x = .slice a els.length cap ∧ els.length ≤ cap ∧ Rep F w (sliced a l k cap size) (.sl ((els.drop l).take (k - l))) := by
  rcases rep_sl_sl h with ⟨rfl, rfl⟩ | ⟨ad, cap, size', vs, rfl, hc, hm, hF, hs, hcell, hone, hrep⟩
  · simp at hk
    subst hk
    have : l = 0 := by omega
    subst this
    exact ⟨none, 0, rfl, Nat.le_refl _, by simpa [sliced] using Rep.nil⟩
  · refine ⟨some ad, cap, rfl, hc, ?_⟩
    have hlen : ((els.drop l).take (k - l)).length = k - l := by simp; omega
    have hss : els ≠ [] → size' = size := fun hne => by
      have h0 : 0 < els.length := List.length_pos_iff.2 hne
      rw [← hs 0 h0]
      exact hsz _ (List.getElem_mem h0)
    have key : ∀ (ad' : Addr) (cap' : Nat), k - l ≤ cap' → cap' ≤ 9223372036854775807 → (k - l ≠ 0 → ad'.block = ad.block) → (k - l ≠ 0 → ad' = ad.add (l * size)) → Rep F w (.slice (some ad') (k - l) cap') (.sl ((els.drop l).take (k - l))) := by
      intro ad' cap' h1 h2 h3 h4
      have h5 := Rep.sl (F := F) (w := w) ad' cap' size ((els.drop l).take (k - l)) (fun i j => vs (l + i) j) (by rw [hlen]; exact h1) h2 (fun h0 => by rw [hlen] at h0; rw [h3 (by omega)]; exact hF (by omega)) (fun i hi => by
          rw [List.getElem_take, List.getElem_drop]; exact hsz _ (List.getElem_mem _)) (fun i j hi hj => by
          rw [hlen] at hi
          have hne : els ≠ [] := by intro he; subst he; simp at hk; omega
          rw [h4 (by omega), addr_add_add, ← hcell (l + i) j (by omega) (by rw [hss hne]; exact hj), hss hne, Nat.add_mul, Nat.add_assoc]) (fun i j hi hj => by
          rw [hlen] at hi
          have hne : els ≠ [] := by intro he; subst he; simp at hk; omega
          exact hone _ _ (by omega) (by rw [hss hne]; exact hj)) (fun i hi j hj => by
          have h6 := hrep (l + i) (by rw [hlen] at hi; omega) j
          simp only [List.getElem_take, List.getElem_drop] at hj ⊢
          exact h6 hj)
      rw [hlen] at h5
      exact h5
    unfold sliced
    by_cases hcap : cap = l
    · rw [if_pos hcap]
      exact key ad (cap - l) (by omega) (by omega) (fun _ => rfl) (fun hne => by omega)
    · rw [if_neg hcap]
      exact key (ad.add (l * size)) (cap - l) (by omega) (by omega) (fun _ => addr_block _ _) (fun _ => rfl)

/-- In-order parts of a literal, all of one size. -/
def PartsS (e : Env) (size : Nat) : Nat → List (Nat × Operand) → List D → Prop
  | _, [], [] => True
  | k, (i, x) :: xs, d :: ds => i = k ∧ e.ev x = .d d ∧ d.one = true ∧ d.parts.length = size ∧ PartsS e size (k + 1) xs ds
  | _, _, _ => False

theorem PartsS.nil {e : Env} {size k : Nat} : PartsS e size k [] [] := trivial
theorem PartsS.cons {e : Env} {size k : Nat} {x : Operand} {d : D} {xs : List (Nat × Operand)} {ds : List D} (h : e.ev x = .d d) (h1 : d.one = true) (h2 : d.parts.length = size) (q : PartsS e size (k + 1) xs ds) : PartsS e size k ((k, x) :: xs) (d :: ds) := ⟨rfl, h, h1, h2, q⟩

theorem fill_inorder {size : Nat} : ∀ (k : Nat) (l : List (Nat × Value)) (cs : Array Value), (∀ i (h : i < l.length), l[i].1 = k + i ∧ l[i].2.cells.size = size) → (k + l.length) * size ≤ cs.size →
    ∃ cs', Instr.fill (fun i => some (i * size, size)) cs l = some cs' ∧ cs'.toList = cs.toList.take (k * size) ++ (l.map fun p => p.2.cells.toList).flatten ++ cs.toList.drop ((k + l.length) * size)
  | k, [], cs, _, _ => ⟨cs, rfl, by simp⟩
  | k, (i, v) :: l, cs, h, hc => by
    obtain ⟨h1, h2⟩ := h 0 (by simp)
    simp only [List.getElem_cons_zero, Nat.add_zero] at h1 h2
    subst h1
    simp only [List.length_cons] at hc
    have e1 : (i + (l.length + 1)) * size = i * size + size + l.length * size := by rw [Nat.add_mul, Nat.add_mul]; omega
    have e2 : (i + 1 + l.length) * size = i * size + size + l.length * size := by rw [Nat.add_mul, Nat.add_mul]; omega
    have e3 : (i + 1) * size = i * size + size := by rw [Nat.add_mul]; omega
    have hvl : v.cells.toList.length = size := by simpa using h2
    have hf := fill_list (i * size) v.cells.toList cs (by rw [hvl]; omega)
    have hfold : (v.cells.zipIdx.foldl (fun cs (c, j) => cs.setIfInBounds (i * size + j) c) cs).toList = cs.toList.take (i * size) ++ v.cells.toList ++ cs.toList.drop (i * size + size) := by
      rw [← Array.foldl_toList, Array.toList_zipIdx]
      rw [hvl] at hf
      exact hf
    obtain ⟨cs', h3, h4⟩ := fill_inorder (size := size) (i + 1) l (v.cells.zipIdx.foldl (fun cs (c, j) => cs.setIfInBounds (i * size + j) c) cs) (fun j hj => by
        have := h (j + 1) (by simpa using hj)
        simp only [List.getElem_cons_succ] at this
        exact ⟨by omega, this.2⟩) (by
        rw [← Array.length_toList, hfold]
        simp only [List.length_append, List.length_take, List.length_drop, Array.length_toList, hvl]
        omega)
    refine ⟨cs', ?_, ?_⟩
    · simp only [Instr.fill]
      rw [if_neg (by simp [h2]; omega)]
      exact h3
    · rw [h4, hfold, e2, e3, List.length_cons, e1, List.map_cons, List.flatten_cons]
      have hn : cs.toList.length = cs.size := Array.length_toList
      have t1 : (cs.toList.take (i * size) ++ v.cells.toList ++ cs.toList.drop (i * size + size)).take (i * size + size) = cs.toList.take (i * size) ++ v.cells.toList := by
        rw [List.take_append_of_le_length (by rw [List.length_append, List.length_take, hvl]; omega), List.take_of_length_le (by rw [List.length_append, List.length_take, hvl]; omega)]
      have t2 : (cs.toList.take (i * size) ++ v.cells.toList ++ cs.toList.drop (i * size + size)).drop (i * size + size + l.length * size) = cs.toList.drop (i * size + size + l.length * size) := by
        rw [List.drop_append, List.drop_eq_nil_of_le (by rw [List.length_append, List.length_take, hvl]; omega), List.nil_append, List.drop_drop]
        congr 1
        rw [List.length_append, List.length_take, hvl]
        omega
      rw [t1, t2]
      simp

theorem PartsS.rep {e : Env} {size : Nat} {F : Nat → Prop} {ρ : Nat → Value} {w : World} {a : Act} : ∀ {k : Nat} {xs : List (Nat × Operand)} {ds : List D}, PartsS e size k xs ds → (∀ x ∈ xs, RepS F ρ w (a.eval x.2) (e.ev x.2)) →
    xs.length = ds.length ∧ ∀ i (h : i < xs.length) (h' : i < ds.length), xs[i].1 = k + i ∧ RepL F w (a.eval xs[i].2).cells.toList ds[i].parts ∧ (∀ u ∈ (a.eval xs[i].2).cells.toList, u.oneCell' = true) ∧ ds[i].parts.length = size
  | k, [], [], _, _ => ⟨rfl, fun i h => by simp at h⟩
  | k, (i, x) :: xs, d :: ds, h, hx => by
    obtain ⟨rfl, h1, h2, h3, h4⟩ := h
    obtain ⟨h5, h6⟩ := PartsS.rep (a := a) h4 (fun y hy => hx y (List.mem_cons_of_mem _ hy))
    have h7 := hx (i, x) (by simp)
    dsimp only at h7
    rw [h1] at h7
    obtain ⟨h8, h9⟩ := parts_rep (repS_d h7) h2
    refine ⟨by simp [h5], fun j hj hj' => ?_⟩
    cases j with
    | zero => exact ⟨rfl, h8, h9, h3⟩
    | succ j =>
      obtain ⟨g1, g2⟩ := h6 j (by simpa using hj) (by simpa using hj')
      simp only [List.getElem_cons_succ]
      exact ⟨by omega, g2⟩
  | _, [], _ :: _, h, _ => h.elim
  | _, _ :: _, [], h, _ => h.elim

theorem flatten_at {size : Nat} : ∀ (l : List (List Value)), (∀ y ∈ l, y.length = size) → ∀ i (h : i < l.length) j, j < size → l.flatten[i * size + j]? = (l[i]'h)[j]?
  | [], _, i, h, _, _ => by simp at h
  | y :: l, hl, i, h, j, h' => by
    have hy : y.length = size := hl y (by simp)
    cases i with
    | zero => rw [List.flatten_cons, Nat.zero_mul, Nat.zero_add, List.getElem?_append_left (by omega)]; rfl
    | succ i =>
      have := flatten_at l (fun z hz => hl z (List.mem_cons_of_mem _ hz)) i (by simpa using h) j h'
      rw [List.flatten_cons, List.getElem?_append_right (by rw [hy, Nat.add_mul]; omega), hy, show (i + 1) * size + j - size = i * size + j by rw [Nat.add_mul]; omega]
      exact this

section
variable {P : Program} {B : Nat} {ops : Array Oper} {o : Oper} {e : Env} {σ : Obs}

theorem AOp.pickT {c x y : Operand} {d : D} (ho : o.op = .pick c x y) (hc : e.ev c = .d (.v (.bool true))) (hx : e.ev x = .d d) : AOp P B ops o e σ (.d d) := by
  have := AOp.pick (P := P) (B := B) (ops := ops) (σ := σ) ho hc; simpa [hx] using this
theorem AOp.pickF {c x y : Operand} {d : D} (ho : o.op = .pick c x y) (hc : e.ev c = .d (.v (.bool false))) (hx : e.ev y = .d d) : AOp P B ops o e σ (.d d) := by
  have := AOp.pick (P := P) (B := B) (ops := ops) (σ := σ) ho hc; simpa [hx] using this

/-- A builtin on exact values. -/
theorem AOp.builtin2 {b : Builtin} {x y : Operand} {ts : Array TypeId} {u1 u2 u : Value} (ho : o.op = .call { callee := .builtin b, args := #[x, y], argTypes := ts }) (hx : e.ev x = .d (.v u1)) (hy : e.ev y = .d (.v u2))
    (h : ∀ a : Act, a.eval x = u1 → a.eval y = u2 → ∀ w, (execOp a.eval o).run P w = .ok (.value u) w) : AOp P B ops o e σ (.d (.v u)) := .value fun F ρ w a hF hr _ => by
  have h1 := hr x (by rw [ho]; simp [Op.operands, Call.operands])
  have h2 := hr y (by rw [ho]; simp [Op.operands, Call.operands])
  rw [hx] at h1
  rw [hy] at h2
  exact ⟨u, F, w, h a (repS_v h1) (repS_v h2) w, .d (.v _), Ext.refl hF⟩
theorem AOp.min {x y : Operand} {ts : Array TypeId} {k : IntKind} {a b : Int} (ho : o.op = .call { callee := .builtin .min, args := #[x, y], argTypes := ts }) (hx : e.ev x = .d (.v (.int k a))) (hy : e.ev y = .d (.v (.int k b))) :
    AOp P B ops o e σ (.d (.v (.int k (min a b)))) := .builtin2 ho hx hy fun ac h1 h2 w => by
  unfold execOp
  simp only [ho, resolve, invoke, builtin, Sem.run_bind, Sem.run_pure, Result.andThen_ok, List.map_toArray, List.map_cons, List.map_nil, h1, h2, run_min_kept]
theorem AOp.max {x y : Operand} {ts : Array TypeId} {k : IntKind} {a b : Int} (ho : o.op = .call { callee := .builtin .max, args := #[x, y], argTypes := ts }) (hx : e.ev x = .d (.v (.int k a))) (hy : e.ev y = .d (.v (.int k b))) :
    AOp P B ops o e σ (.d (.v (.int k (max a b)))) := .builtin2 ho hx hy fun ac h1 h2 w => by
  unfold execOp
  simp only [ho, resolve, invoke, builtin, Sem.run_bind, Sem.run_pure, Result.andThen_ok, List.map_toArray, List.map_cons, List.map_nil, h1, h2, run_max_kept]

theorem elem_of {t el : TypeId} (h : P.underlying t = some (.slice el)) : P.underlying t = some (.slice (P.elem t)) ∧ P.elem t = el := ⟨by rw [h]; simp [Program.elem, h], by simp [Program.elem, h]⟩

/-- x[lo:hi] of a slice. -/
theorem AOp.sliceLH {t el : TypeId} {x lo hi : Operand} {size bytes : Nat} {z : Value} {l k : Int} {els : List (List D)} (ho : o.op = .slice t x (some lo) (some hi) none) (T : ElemTy P t el size bytes z) (hx : e.ev x = .d (.sl els))
    (hlo : e.ev lo = .d (.v (.int .i64 l))) (hhi : e.ev hi = .d (.v (.int .i64 k))) (h0 : 0 ≤ l) (h1 : l ≤ k) (h2 : k ≤ els.length) (hsz : ∀ y ∈ els, y.length = size) :
    AOp P B ops o e σ (.d (.sl ((els.drop l.toNat).take (k.toNat - l.toNat)))) := .value fun F ρ w a hF hr _ => by
  have r1 := hr x (by rw [ho]; simp [Op.operands])
  have r2 := hr lo (by rw [ho]; simp [Op.operands])
  have r3 := hr hi (by rw [ho]; simp [Op.operands])
  rw [hx] at r1; rw [hlo] at r2; rw [hhi] at r3
  obtain ⟨ad, cap, hv, hc, hrep⟩ := rep_cut (repS_d r1) hsz l.toNat k.toNat (by omega) (by omega)
  refine ⟨_, F, w, ?_, .d hrep, Ext.refl hF⟩
  obtain ⟨e1, e2⟩ := elem_of T.ht
  unfold execOp
  simp only [ho, hv, repS_v r2, repS_v r3, Option.map_some, Option.map_none]
  rw [Sem.run_bind, run_sliceAt_slice w t _ _ _ _ e1, run_slice_lh w t ad els.length cap e1 .i64 .i64 l k h0 h1 (by omega), e2, T.sizeOf]
  rfl
theorem AOp.sliceL {t el : TypeId} {x lo : Operand} {size bytes : Nat} {z : Value} {l : Int} {els : List (List D)} (ho : o.op = .slice t x (some lo) none none) (T : ElemTy P t el size bytes z) (hx : e.ev x = .d (.sl els))
    (hlo : e.ev lo = .d (.v (.int .i64 l))) (h0 : 0 ≤ l) (h1 : l ≤ els.length) (hsz : ∀ y ∈ els, y.length = size) :
    AOp P B ops o e σ (.d (.sl (els.drop l.toNat))) := .value fun F ρ w a hF hr _ => by
  have r1 := hr x (by rw [ho]; simp [Op.operands])
  have r2 := hr lo (by rw [ho]; simp [Op.operands])
  rw [hx] at r1; rw [hlo] at r2
  obtain ⟨ad, cap, hv, hc, hrep⟩ := rep_cut (repS_d r1) hsz l.toNat els.length (by omega) (Nat.le_refl _)
  rw [List.take_of_length_le (by simp)] at hrep
  refine ⟨_, F, w, ?_, .d hrep, Ext.refl hF⟩
  obtain ⟨e1, e2⟩ := elem_of T.ht
  unfold execOp
  simp only [ho, hv, repS_v r2, Option.map_some, Option.map_none]
  rw [Sem.run_bind, run_sliceAt_slice w t _ _ _ _ e1, run_slice_l w t ad els.length cap e1 .i64 l h0 (by omega), e2, T.sizeOf]
  rfl
theorem AOp.sliceH {t el : TypeId} {x hi : Operand} {size bytes : Nat} {z : Value} {k : Int} {els : List (List D)} (ho : o.op = .slice t x none (some hi) none) (T : ElemTy P t el size bytes z) (hx : e.ev x = .d (.sl els))
    (hhi : e.ev hi = .d (.v (.int .i64 k))) (h1 : 0 ≤ k) (h2 : k ≤ els.length) (hsz : ∀ y ∈ els, y.length = size) :
    AOp P B ops o e σ (.d (.sl (els.take k.toNat))) := .value fun F ρ w a hF hr _ => by
  have r1 := hr x (by rw [ho]; simp [Op.operands])
  have r3 := hr hi (by rw [ho]; simp [Op.operands])
  rw [hx] at r1; rw [hhi] at r3
  obtain ⟨ad, cap, hv, hc, hrep⟩ := rep_cut (repS_d r1) hsz 0 k.toNat (by omega) (by omega)
  rw [List.drop_zero, Nat.sub_zero] at hrep
  refine ⟨_, F, w, ?_, .d hrep, Ext.refl hF⟩
  obtain ⟨e1, e2⟩ := elem_of T.ht
  unfold execOp
  simp only [ho, hv, repS_v r3, Option.map_some, Option.map_none]
  rw [Sem.run_bind, run_sliceAt_slice w t _ _ _ _ e1, run_slice_h w t ad els.length cap e1 .i64 k h1 (by omega), e2, T.sizeOf]
  rfl

theorem AOp.indexStr {t : TypeId} {x ix : Operand} {s : ByteArray} {n : Int} (ho : o.op = .index t x ix) (ht : P.underlying t = some .string) (hx : e.ev x = .d (.v (.string s))) (hi : e.ev ix = .d (.v (.int .i64 n)))
    (k : Nat) (hk : n = k) {c : UInt8} (hc : s.data.toList[k]? = some c) : AOp P B ops o e σ (.d (.v (.int .u8 c.toNat))) := .value fun F ρ w a hF hr _ => by
  have h1 := hr x (by rw [ho]; simp [Op.operands])
  have h2 := hr ix (by rw [ho]; simp [Op.operands])
  rw [hx] at h1; rw [hi] at h2
  refine ⟨_, F, w, ?_, .d (.v _), Ext.refl hF⟩
  have hlt : k < s.size := by have := (List.getElem?_eq_some_iff.1 hc).1; simpa using this
  have hcc : s[k] = c := by
    have := (List.getElem?_eq_some_iff.1 hc).2
    rw [← this]
    simp [ByteArray.getElem_eq_getElem_data]
  unfold execOp
  simp only [ho, repS_v h1, repS_v h2, hk]
  simp [Instr.index, run_underlying ht, asIntOf, hlt, hcc]

/-- A slice literal of so many elements, in order. -/
theorem AOp.buildSlice {t el : TypeId} {n size bytes : Nat} {z : Value} {xs : List (Nat × Operand)} {ds : List D} (ho : o.op = .buildSlice t n xs.toArray) (T : ElemTy P t el size bytes z) (hp : PartsS e size 0 xs ds) (hn : ds.length = n) (hbig : n * size ≤ 16777216) :
    AOp P B ops o e σ (.d (.sl (ds.map D.parts))) := .value fun F ρ w a hF hr _ => by
  have hx : ∀ x ∈ xs, RepS F ρ w (a.eval x.2) (e.ev x.2) := fun x hx => hr x.2 (by
    rw [ho]; simp only [Op.operands]
    exact List.mem_map_of_mem (by simpa using hx))
  obtain ⟨hl, hparts⟩ := hp.rep (a := a) hx
  obtain ⟨i, hi, hz0, hz1, hz2⟩ := info_parts T.hi
  obtain ⟨zs, hzs⟩ : ∃ zs : Array Value, (if n * size = 0 then (#[] : Array Value) else z.cells) = zs := ⟨_, rfl⟩
  have hsz : ((Array.range (n * size)).map (fun j => zs[j % zs.size]!)).size = n * size := by simp
  obtain ⟨cs', h1, h2⟩ := fill_inorder (size := size) 0 (xs.map fun p => (p.1, a.eval p.2)) ((Array.range (n * size)).map (fun j => zs[j % zs.size]!)) (fun j hj => by
    have hj' : j < xs.length := by simpa using hj
    obtain ⟨g1, g2, g3, g4⟩ := hparts j hj' (by omega)
    simp only [List.getElem_map]
    exact ⟨g1, by have := g2.1; rw [Array.length_toList] at this; omega⟩) (by rw [hsz]; simp [hl, hn])
  rw [Nat.zero_mul, List.take_zero, List.nil_append, Nat.zero_add, List.drop_eq_nil_of_le (by simp [hl, hn]), List.append_nil, List.map_map] at h2
  have hrun : (execOp a.eval o).run P w = .ok (.value (.slice (some ⟨w.heap.size, 0, none⟩) n n)) (w.alloc (.cells cs' el)) := by
    unfold execOp
    simp only [ho, Instr.buildSlice, Sem.run_bind, run_underlying T.ht, Result.andThen_ok, T.sizeOf]
    rw [if_neg (by omega)]
    by_cases h0 : n * size = 0
    · rw [if_pos h0] at hzs
      subst hzs
      simp only [h0, if_true, Sem.run_bind, Sem.run_pure, Result.andThen_ok]
      simp only [h0] at h1
      simp only [List.map_toArray, h1]
      rfl
    · rw [if_neg h0] at hzs
      subst hzs
      simp only [h0, if_false, Sem.run_bind, zeroValue, typeInfo, Sem.run_pure, Result.andThen_ok]
      have hprog : (program : Sem Program).run P w = .ok P w := rfl
      simp only [hprog, Result.andThen_ok, hi, Sem.run_pure, hz0]
      simp only [List.map_toArray, h1]
      rfl
  have hne : ∀ (b : Nat), (F b ∨ b = w.heap.size) → b < (w.alloc (.cells cs' el)).heap.size := fun b hb => by
    rcases hb with hb | hb
    · have := hF b hb; simp; omega
    · simp; omega
  have hE : Ext F w (fun b => F b ∨ b = w.heap.size) (w.alloc (.cells cs' el)) := by
    refine ⟨fun b hb => .inl hb, fun b hb => ?_, hne, (Below.refl _ _).alloc (Nat.le_refl _) _⟩
    rcases hb with hb | hb
    · exact .inl hb
    · exact .inr (by omega)
  refine ⟨_, fun b => F b ∨ b = w.heap.size, _, hrun, .d ?_, hE⟩
  have hcl : ∀ i (h : i < xs.length), (a.eval xs[i].2).cells.toList.length = size := fun i h => by
    obtain ⟨_, g2, _, g4⟩ := hparts i h (by omega)
    rw [g2.1, g4]
  have hall : ∀ y ∈ xs.map ((fun p : Nat × Value => p.2.cells.toList) ∘ fun p => (p.1, a.eval p.2)), y.length = size := fun y hy => by
    obtain ⟨i, hi, rfl⟩ := List.getElem_of_mem hy
    simp only [List.getElem_map, Function.comp]
    exact hcl i (by simpa using hi)
  have hl2 : (ds.map D.parts).length = n := by simp [hn]
  have := Rep.sl (F := fun b => F b ∨ b = w.heap.size) (w := w.alloc (.cells cs' el)) ⟨w.heap.size, 0, none⟩ n size (ds.map D.parts) (fun i j => ((xs.map fun p => (a.eval p.2).cells.toList).getD i []).getD j undef) (by omega) (by
      have hs0 : 0 < size := T.hs
      have := Nat.le_mul_of_pos_right n hs0
      omega) (fun _ => .inr rfl) (fun i hi => by
      simp only [List.getElem_map]
      exact (hparts i (by rw [hl2] at hi; omega) (by rw [hl2] at hi; omega)).2.2.2) (fun i j hi hj => by
      rw [hl2] at hi
      have hix : i < xs.length := by omega
      rw [addr_add, Nat.zero_add, World.cell?_alloc_new, ← Array.getElem?_toList, h2, flatten_at _ hall i (by simpa using hix) j hj]
      have hj' : j < (a.eval xs[i].2).cells.toList.length := by rw [hcl i hix]; exact hj
      simp only [List.getElem_map, Function.comp, List.getD_eq_getElem?_getD, List.getElem?_map, List.getElem?_eq_getElem hix, Option.map_some, Option.getD_some, List.getElem?_eq_getElem hj']) (fun i j hi hj => by
      rw [hl2] at hi
      have hix : i < xs.length := by omega
      have hj' : j < (a.eval xs[i].2).cells.toList.length := by rw [hcl i hix]; exact hj
      simp only [List.getD_eq_getElem?_getD, List.getElem?_map, List.getElem?_eq_getElem hix, Option.map_some, Option.getD_some, List.getElem?_eq_getElem hj']
      exact (hparts i hix (by omega)).2.2.1 _ (List.getElem_mem hj')) (fun i hi j hj => by
      rw [hl2] at hi
      have hix : i < xs.length := by omega
      simp only [List.getElem_map] at hj ⊢
      obtain ⟨_, g2, g3, g4⟩ := hparts i hix (by omega)
      have hj' : j < (a.eval xs[i].2).cells.toList.length := by rw [hcl i hix, ← g4]; exact hj
      simp only [List.getD_eq_getElem?_getD, List.getElem?_map, List.getElem?_eq_getElem hix, Option.map_some, Option.getD_some, List.getElem?_eq_getElem hj']
      exact (g2.2 j hj' hj).ext hF hE)
  rw [hl2] at this
  exact this
end
end Go.Proofs.YtajghehicmlajaaDoor
