/- Abstract values: boxes, structs, slices made, slices of slices, strings. No statement of the seat. -/
import Derived.Test.YtajghehicmlajaaDoorA4
namespace Go.Proofs.YtajghehicmlajaaDoor
open Go.RowKit

/-- The cells of a value. -/
def D.parts : D → List D
  | .agg ds => ds
  | .v (.agg cs) => cs.toList.map D.v
  | d => [d]
/-- Its cells are cells: surely. -/
def D.one : D → Bool
  | .agg _ => true
  | .v (.agg cs) => cs.toList.all (·.oneCell')
  | .v x => x.oneCell'
  | .sl _ => true
  | .fp _ => true
  | .clo _ _ => true
  | _ => false

theorem parts_rep {F : Nat → Prop} {w : World} {x : Value} {d : D} (h : Rep F w x d) (h1 : d.one = true) :
    RepL F w x.cells.toList d.parts ∧ ∀ u ∈ x.cells.toList, u.oneCell' = true := by
  have single : ∀ {x : Value} {d : D}, Rep F w x d → x.cells = #[x] → x.oneCell' = true → RepL F w x.cells.toList [d] ∧ ∀ u ∈ x.cells.toList, u.oneCell' = true := by
    intro x d h hc ho
    rw [hc]
    refine ⟨RepL.cons h RepL.nil, fun u hu => ?_⟩
    simp at hu
    rw [hu]; exact ho
  cases h with
  | v x =>
    cases x with
    | agg cs =>
      simp only [D.one, List.all_eq_true] at h1
      refine ⟨⟨by simp [Value.cells, D.parts], fun i hi hi' => ?_⟩, h1⟩
      simp only [D.parts, List.getElem_map]
      exact .v _
    | tuple cs => simp [D.one, Value.oneCell'] at h1
    | _ => exact single (.v _) rfl rfl
  | any x => simp [D.one] at h1
  | agg cs ds hl hone h =>
    refine ⟨⟨by simp [Value.cells, D.parts, hl], fun i hi hi' => h i hi hi'⟩, fun u hu => ?_⟩
    simp [Value.cells] at hu
    obtain ⟨i, hi, rfl⟩ := List.getElem_of_mem hu
    exact hone i hi
  | tup => simp [D.one] at h1
  | nil => exact single .nil rfl rfl
  | sl ad cap size els vs hc hm hF hs hcell hone hrep => exact single (.sl ad cap size els vs hc hm hF hs hcell hone hrep) rfl rfl
  | fp ad ds vs hF hcell hone hrep => exact single (.fp ad ds vs hF hcell hone hrep) rfl rfl
  | clo fn cs caps hl h => exact single (.clo fn cs caps hl h) rfl rfl

/-- A new block of cells, frozen. -/
theorem fp_new {F : Nat → Prop} {w : World} {cs : Array Value} {ds : List D} {e : TypeId} (hF : ∀ b, F b → b < w.heap.size) (h : RepL F w cs.toList ds) (h1 : ∀ u ∈ cs.toList, u.oneCell' = true) :
    Rep (fun b => F b ∨ b = w.heap.size) (w.alloc (.cells cs e)) (.pointer (some ⟨w.heap.size, 0, none⟩)) (.fp ds) ∧ Ext F w (fun b => F b ∨ b = w.heap.size) (w.alloc (.cells cs e)) := by
  have he : Ext F w (fun b => F b ∨ b = w.heap.size) (w.alloc (.cells cs e)) := by
    refine ⟨fun b hb => .inl hb, fun b hb => ?_, fun b hb => ?_, (Below.refl _ _).alloc (Nat.le_refl _) _⟩
    · rcases hb with hb | hb
      · exact .inl hb
      · exact .inr (by omega)
    · rcases hb with hb | hb
      · have := hF b hb; simp; omega
      · simp; omega
  have hl : cs.toList.length = ds.length := h.1
  refine ⟨.fp _ _ (fun j => cs.toList.getD j undef) (.inr rfl) (fun j hj => ?_) (fun j hj => ?_) (fun j hj => ?_), he⟩
  · have hj' : j < cs.size := by rw [← Array.length_toList, hl]; exact hj
    rw [addr_add, Nat.zero_add, World.cell?_alloc_new]
    simp [hj', List.getD_eq_getElem?_getD]
  · have hj' : j < cs.toList.length := by omega
    simp only [List.getD_eq_getElem?_getD, List.getElem?_eq_getElem hj', Option.getD_some]
    exact h1 _ (List.getElem_mem hj')
  · have hj' : j < cs.toList.length := by omega
    simp only [List.getD_eq_getElem?_getD, List.getElem?_eq_getElem hj', Option.getD_some]
    exact (h.2 j hj' hj).ext hF he

section
variable {P : Program} {B : Nat} {ops : Array Oper} {o : Oper} {e : Env} {σ : Obs}

theorem AOp.box {t : TypeId} {x : Operand} {d : D} (ho : o.op = .box t x) (hx : e.ev x = .d d) (h1 : d.one = true) : AOp P B ops o e σ (.d (.fp d.parts)) :=
  .value fun F ρ w a hF hr _ => by
  have h2 := hr x (by rw [ho]; simp [Op.operands])
  rw [hx] at h2
  obtain ⟨h3, h4⟩ := parts_rep (repS_d h2) h1
  obtain ⟨h5, h6⟩ := fp_new (e := t) hF h3 h4
  refine ⟨_, _, _, ?_, .d h5, h6⟩
  unfold execOp
  simp only [ho, Instr.box, newVar, newRow]
  rfl

/-! ### structs and slice literals: 'fill', on what the cells read as -/
def fillD (place : Nat → Option (Nat × Nat)) (cells : List D) : List (Nat × D) → Option (List D)
  | [] => some cells
  | (i, d) :: rest =>
    match place i with
    | none => none
    | some (off, size) => if d.parts.length ≠ size ∨ off + d.parts.length > cells.length then none else fillD place (cells.take off ++ d.parts ++ cells.drop (off + d.parts.length)) rest

theorem foldl_set (cs : Array Value) : ∀ (l : List Value) (k off : Nat), (l.zipIdx k).foldl (fun cs (c, j) => cs.setIfInBounds (off + j) c) cs = (l.zipIdx 0).foldl (fun cs (c, j) => cs.setIfInBounds (off + k + j) c) cs := by
  intro l
  induction l generalizing cs with
  | nil => intro k off; rfl
  | cons c l ih =>
    intro k off
    rw [List.zipIdx_cons, List.zipIdx_cons, List.foldl_cons, List.foldl_cons, ih]
    rw [ih (cs.setIfInBounds (off + k + 0) c) 1 (off + k)]
    simp [Nat.add_assoc]

theorem get3 (A B C : List Value) (i : Nat) : (A ++ B ++ C)[i]? = if i < A.length then A[i]? else if i < A.length + B.length then B[i - A.length]? else C[i - (A.length + B.length)]? := by
  by_cases h1 : i < A.length
  · rw [if_pos h1, List.append_assoc, List.getElem?_append_left h1]
  · rw [if_neg h1]
    by_cases h2 : i < A.length + B.length
    · rw [if_pos h2, List.getElem?_append_left (by simpa using h2), List.getElem?_append_right (by omega)]
    · rw [if_neg h2, List.getElem?_append_right (by simpa using (by omega : A.length + B.length ≤ i)), List.length_append]
theorem fill_list (off : Nat) : ∀ (l : List Value) (cs : Array Value), off + l.length ≤ cs.size → ((l.zipIdx 0).foldl (fun cs (c, j) => cs.setIfInBounds (off + j) c) cs).toList = cs.toList.take off ++ l ++ cs.toList.drop (off + l.length) := by
  intro l
  induction l generalizing off with
  | nil => intro cs _; simp
  | cons c l ih =>
    intro cs h
    simp only [List.length_cons] at h
    rw [List.zipIdx_cons, List.foldl_cons, foldl_set, Nat.add_zero]
    have := ih (off + 1) (cs.setIfInBounds off c) (by simp; omega)
    refine this.trans ?_
    have hn : cs.toList.length = cs.size := Array.length_toList
    apply List.ext_getElem?
    intro i
    rw [get3, get3]
    simp only [Array.toList_setIfInBounds, List.length_cons, List.length_take, List.length_set, hn, Nat.min_eq_left (show off + 1 ≤ cs.size by omega), Nat.min_eq_left (show off ≤ cs.size by omega)]
    by_cases h1 : i < off
    · rw [if_pos (by omega), if_pos h1, List.getElem?_take, List.getElem?_take, if_pos (by omega), if_pos h1, List.getElem?_set, if_neg (by omega)]
    · by_cases h2 : i = off
      · subst h2
        rw [if_pos (by omega), if_neg (by omega), if_pos (by omega), List.getElem?_take, if_pos (by omega), List.getElem?_set, if_pos rfl, if_pos (by omega), Nat.sub_self]
        rfl
      · rw [if_neg (show ¬ i < off + 1 by omega), if_neg h1]
        by_cases h3 : i < off + 1 + l.length
        · rw [if_pos h3, if_pos (by omega), show i - off = (i - (off + 1)) + 1 by omega, List.getElem?_cons_succ]
        · rw [if_neg h3, if_neg (by omega), List.getElem?_drop, List.getElem?_drop, List.getElem?_set, if_neg (by omega)]
          congr 1
          omega

theorem RepL.take {F : Nat → Prop} {w : World} {vs : List Value} {ds : List D} (h : RepL F w vs ds) (k : Nat) : RepL F w (vs.take k) (ds.take k) := by
  refine ⟨by simp [h.1], fun i h1 h2 => ?_⟩
  rw [List.getElem_take, List.getElem_take]
  exact h.2 _ _ _
theorem RepL.drop {F : Nat → Prop} {w : World} {vs : List Value} {ds : List D} (h : RepL F w vs ds) (k : Nat) : RepL F w (vs.drop k) (ds.drop k) := by
  refine ⟨by simp [h.1], fun i h1 h2 => ?_⟩
  rw [List.getElem_drop, List.getElem_drop]
  exact h.2 _ _ _

def PartsOk (e : Env) : List (Nat × Operand) → List (Nat × D) → Prop
  | [], [] => True
  | (i, x) :: xs, (j, d) :: ds => i = j ∧ e.ev x = .d d ∧ d.one = true ∧ PartsOk e xs ds
  | _, _ => False

theorem PartsOk.nil {e : Env} : PartsOk e [] [] := trivial
theorem PartsOk.cons {e : Env} {i : Nat} {x : Operand} {d : D} {xs : List (Nat × Operand)} {ds : List (Nat × D)} (h : e.ev x = .d d) (h1 : d.one = true) (k : PartsOk e xs ds) : PartsOk e ((i, x) :: xs) ((i, d) :: ds) := ⟨rfl, h, h1, k⟩

theorem fill_rep {F : Nat → Prop} {ρ : Nat → Value} {w : World} {a : Act} {place : Nat → Option (Nat × Nat)} : ∀ {xs : List (Nat × Operand)} {ps : List (Nat × D)} {cs : Array Value} {ds ds' : List D}, PartsOk e xs ps →
    (∀ x ∈ xs, RepS F ρ w (a.eval x.2) (e.ev x.2)) → RepL F w cs.toList ds → (∀ u ∈ cs.toList, u.oneCell' = true) → fillD place ds ps = some ds' →
    ∃ cs', Instr.fill place cs (xs.map fun p => (p.1, a.eval p.2)) = some cs' ∧ RepL F w cs'.toList ds' ∧ (∀ u ∈ cs'.toList, u.oneCell' = true)
  | [], [], cs, ds, ds', _, _, h1, h2, h3 => by
    simp [fillD] at h3
    subst h3
    exact ⟨cs, rfl, h1, h2⟩
  | (i, x) :: xs, (j, d) :: ps, cs, ds, ds', hp, hx, h1, h2, h3 => by
    obtain ⟨rfl, hd, hone, hp⟩ := hp
    have h4 := hx (i, x) (by simp)
    dsimp only at h4
    rw [hd] at h4
    obtain ⟨h5, h6⟩ := parts_rep (repS_d h4) hone
    unfold fillD at h3
    cases hpl : place i with
    | none => rw [hpl] at h3; simp at h3
    | some q =>
      obtain ⟨off, size⟩ := q
      rw [hpl] at h3
      simp only at h3
      split at h3
      · simp at h3
      · rename_i hn
        have hsz : (a.eval x).cells.size = d.parts.length := by have := h5.1; simpa using this
        have hcl : cs.size = ds.length := by have := h1.1; simpa using this
        have hle : off + (a.eval x).cells.toList.length ≤ cs.size := by rw [Array.length_toList]; omega
        obtain ⟨cs', h7, h8, h9⟩ := fill_rep (cs := (a.eval x).cells.zipIdx.foldl (fun cs (c, j) => cs.setIfInBounds (off + j) c) cs) hp (fun y hy => hx y (List.mem_cons_of_mem _ hy)) (ds := ds.take off ++ d.parts ++ ds.drop (off + d.parts.length)) (by
            have := fill_list off (a.eval x).cells.toList cs hle
            rw [← Array.foldl_toList, Array.toList_zipIdx]
            rw [this]
            have hlen : (a.eval x).cells.toList.length = d.parts.length := h5.1
            rw [hlen]
            exact ((h1.take off).append h5).append (h1.drop _)) (by
            have := fill_list off (a.eval x).cells.toList cs hle
            rw [← Array.foldl_toList, Array.toList_zipIdx]
            rw [this]
            intro u hu
            simp only [List.mem_append] at hu
            rcases hu with (hu | hu) | hu
            · exact h2 u (List.mem_of_mem_take hu)
            · exact h6 u hu
            · exact h2 u (List.mem_of_mem_drop hu)) h3
        refine ⟨cs', ?_, h8, h9⟩
        simp only [List.map_cons, Instr.fill, hpl]
        rw [if_neg (by rw [hsz, hcl]; simp; omega)]
        exact h7
  | [], _ :: _, _, _, _, h, _, _, _, _ => h.elim
  | _ :: _, [], _, _, _, h, _, _, _, _ => h.elim

/-- A struct type's places and its zero, as closed data. -/
structure StructT (P : Program) (t : TypeId) (places : Nat → Option (Nat × Nat)) (zero : List Value) : Prop where
  run : ∀ (w : World) (parts : Array (Nat × Value)), (Instr.build t parts).run P w = (match Instr.fill places zero.toArray parts.toList with | some cs => .ok (.agg cs) w | none => .halt (.stuck "build: no such field, or a part of the wrong size") w)
  one : ∀ u ∈ zero, u.oneCell' = true

theorem AOp.build {t : TypeId} {xs : List (Nat × Operand)} {ps : List (Nat × D)} {places : Nat → Option (Nat × Nat)} {zero : List Value} {ds : List D} (ho : o.op = .build t xs.toArray) (T : StructT P t places zero) (hp : PartsOk e xs ps)
    (hf : fillD places (zero.map D.v) ps = some ds) : AOp P B ops o e σ (.d (.agg ds)) :=
  .value fun F ρ w a hF hr _ => by
  have hx : ∀ x ∈ xs, RepS F ρ w (a.eval x.2) (e.ev x.2) := fun x hx => hr x.2 (by
    rw [ho]; simp only [Op.operands]
    exact List.mem_map_of_mem (by simpa using hx))
  obtain ⟨cs, h1, h2, h3⟩ := fill_rep (cs := zero.toArray) hp hx (by
    refine ⟨by simp, fun i h1 h2 => ?_⟩
    simp only [List.getElem_map]
    exact .v _) (by simpa using T.one) hf
  have hcs : cs = cs.toList.toArray := by simp
  refine ⟨.agg cs, F, w, ?_, .d ?_, Ext.refl hF⟩
  · unfold execOp
    simp only [ho, Sem.run_bind]
    rw [T.run w]
    simp only [List.map_toArray, h1]
    rfl
  · rw [hcs]
    exact .agg _ _ h2.1 (fun i hi => h3 _ (List.getElem_mem hi)) h2.2
end
end Go.Proofs.YtajghehicmlajaaDoor
