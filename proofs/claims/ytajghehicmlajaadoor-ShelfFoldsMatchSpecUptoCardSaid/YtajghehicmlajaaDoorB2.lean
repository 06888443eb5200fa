/- What comes in, read as abstract values: numbers, strings, slices, structs; what their reading weighs ('uptoBulk'). No statement of the seat. -/
import Derived.Test.YtajghehicmlajaaDoorB0
import Derived.ProofKit
import Derived.OpenShut
import Derived.ShutString
import Derived.ChangeOld
import Derived.Below
namespace Go.Proofs.YtajghehicmlajaaDoor
open Go.ChangeShapes Go.WideShapes Go.ChangeAt Go.RowKit

theorem blk_append {H : Type} (l r : List (DataW H)) : Rows.uptoBulkAll (l ++ r) = Rows.uptoBulkAll l + Rows.uptoBulkAll r := by
  induction l with
  | nil => simp [Rows.uptoBulkAll]
  | cons x l ih => simp only [List.cons_append, Rows.uptoBulkAll, ih]; omega
def sumOf {α : Type} (B : α → Nat) : List α → Nat
  | [] => 0
  | x :: l => B x + sumOf B l
theorem sumOf_append {α : Type} (B : α → Nat) (l r : List α) : sumOf B (l ++ r) = sumOf B l + sumOf B r := by
  induction l with
  | nil => simp [sumOf]
  | cons x l ih => simp only [List.cons_append, sumOf, ih]; omega
theorem sumOf_mem {α : Type} (B : α → Nat) {l : List α} {x : α} (h : x ∈ l) : B x ≤ sumOf B l := by
  induction l with
  | nil => cases h
  | cons y l ih =>
    simp only [sumOf]
    cases h with
    | head => omega
    | tail _ h => have := ih h; omega
theorem sumOf_len {α : Type} (B : α → Nat) (h1 : ∀ x, 1 ≤ B x) : ∀ l : List α, l.length ≤ sumOf B l
  | [] => by simp [sumOf]
  | x :: l => by have := h1 x; have := sumOf_len B h1 l; simp only [sumOf, List.length_cons]; omega

theorem cells?_all {w : World} {base n : Nat} {ad : Addr} {cs : List Value} (h : w.cells? base ad n = some cs) : cs.length = n ∧ ∀ j (hj : j < cs.length), w.cell? (ad.add j) = some cs[j] := by
  unfold World.cells? at h
  split at h
  · have hl := mapM_some_length h
    simp at hl
    refine ⟨hl, fun j hj => ?_⟩
    have h2 := mapM_some_get h j j (by rw [List.getElem?_range (by omega)])
    rw [h2, List.getElem?_eq_getElem hj]
  · cases h

/-- All blocks that are there. -/
abbrev allF (w : World) : Nat → Prop := fun b => b < w.heap.size

/-- A reading of the type t is one of enc. -/
structure Opens {α : Type} (P : Program) (t size : Nat) (enc : α → List D) (ok : α → Prop) (B : α → Nat) : Prop where
  len : ∀ y, (enc y).length = size
  get : ∀ {H : Type} {encH : TypeId × Value → H} {w : World} {n : Nat} {cs : List Value} {x : DataW H × List MemPlace}, DataW.trod encH P w 0 (fun _ => true) true n t cs = some x → cs.length = size →
    ∃ y, ok y ∧ RepL (allF w) w cs (enc y) ∧ (∀ u ∈ cs, u.oneCell' = true) ∧ B y ≤ Rows.uptoBulk x.1

theorem Opens.map {α β : Type} {P : Program} {t size : Nat} {enc : α → List D} {ok : α → Prop} {B : α → Nat} {enc' : β → List D} {ok' : β → Prop} {B' : β → Nat} (O : Opens P t size enc ok B) (f : α → β) (h : ∀ y, enc' (f y) = enc y) (hl : ∀ y, (enc' y).length = size) (ho : ∀ y, ok y → ok' (f y)) (hb : ∀ y, B' (f y) ≤ B y) :
    Opens P t size enc' ok' B' :=
  ⟨hl, fun hx hc => by
    obtain ⟨y, h1, h2, h3, h4⟩ := O.get hx hc
    exact ⟨f y, ho y h1, by rw [h]; exact h2, h3, Nat.le_trans (hb y) h4⟩⟩

section
variable {P : Program} {t : Nat}
theorem u8_back {n : Int} (h : (Lit.int .u8 n).wf = true) : ((UInt8.ofNat n.toNat).toNat : Int) = n := by
  have h1 : 0 ≤ n ∧ n ≤ 255 := by simpa [Lit.wf, IntKind.min, IntKind.max, IntKind.signed, IntKind.bits] using h
  rw [UInt8.toNat_ofNat']
  omega
theorem opens_u8 (ht : P.underlying t = some (.int .u8)) : Opens P t 1 u8D (fun _ => True) (fun _ => 1) :=
  ⟨fun _ => rfl, fun hx _ => by
    obtain ⟨n, rfl, rfl, h1⟩ := DataW.trod_int ht hx
    refine ⟨UInt8.ofNat n.toNat, trivial, RepL.cons ?_ RepL.nil, fun u hu => by simp at hu; rw [hu]; rfl, by simp [Rows.uptoBulk]⟩
    rw [u8_back h1]
    exact .v _⟩
theorem opens_u32 (ht : P.underlying t = some (.int .u32)) : Opens P t 1 u32D (fun n => n < 4294967296) (fun _ => 1) :=
  ⟨fun _ => rfl, fun hx _ => by
    obtain ⟨n, rfl, rfl, h1⟩ := DataW.trod_int ht hx
    have h2 : 0 ≤ n ∧ n ≤ 4294967295 := by simpa [Lit.wf, IntKind.min, IntKind.max, IntKind.signed, IntKind.bits] using h1
    refine ⟨n.toNat, by omega, RepL.cons ?_ RepL.nil, fun u hu => by simp at hu; rw [hu]; rfl, by simp [Rows.uptoBulk]⟩
    rw [Int.toNat_of_nonneg h2.1]
    exact .v _⟩
theorem opens_i64 (ht : P.underlying t = some (.int .i64)) : Opens P t 1 intD (fun n => -9223372036854775808 ≤ n ∧ n ≤ 9223372036854775807) (fun _ => 1) :=
  ⟨fun _ => rfl, fun hx _ => by
    obtain ⟨n, rfl, rfl, h1⟩ := DataW.trod_int ht hx
    have h2 : -9223372036854775808 ≤ n ∧ n ≤ 9223372036854775807 := by simpa [Lit.wf, IntKind.min, IntKind.max, IntKind.signed, IntKind.bits] using h1
    exact ⟨n, h2, RepL.cons (.v _) RepL.nil, fun u hu => by simp at hu; rw [hu]; rfl, by simp [Rows.uptoBulk]⟩⟩
def boolD (b : Bool) : List D := [.v (.bool b)]
theorem opens_bool (ht : P.underlying t = some .bool) : Opens P t 1 boolD (fun _ => True) (fun _ => 1) :=
  ⟨fun _ => rfl, fun hx _ => by
    obtain ⟨b, rfl, rfl⟩ := DataW.trod_bool ht hx
    exact ⟨b, trivial, RepL.cons (.v _) RepL.nil, fun u hu => by simp at hu; rw [hu]; rfl, by simp [Rows.uptoBulk]⟩⟩
def strD (s : ByteArray) : List D := [.v (.string s)]
theorem opens_str (ht : P.underlying t = some .string) : Opens P t 1 strD (fun s => s.size ≤ 9223372036854775807) (fun s => s.size + 1) :=
  ⟨fun _ => rfl, fun hx _ => by
    obtain ⟨s, rfl, rfl, h1⟩ := DataW.trod_string ht hx
    refine ⟨s, by unfold maxLen at h1; omega, RepL.cons (.v _) RepL.nil, fun u hu => by simp at hu; rw [hu]; rfl, ?_⟩
    simp only [Rows.uptoBulk, Array.length_toList]
    exact Nat.le_refl _⟩

def slD {α : Type} (enc : α → List D) (l : List α) : List D := [.sl (l.map enc)]
theorem opens_slice {α : Type} {e size : Nat} {enc : α → List D} {ok : α → Prop} {B : α → Nat} (ht : P.underlying t = some (.slice e)) (hc : P.cellsOf e = size) (hs : 0 < size) (O : Opens P e size enc ok B) :
    Opens P t 1 (slD enc) (fun l => ∀ y ∈ l, ok y) (fun l => sumOf B l + 1) :=
  ⟨fun _ => rfl, fun {H encH w n cs x} hx _ => by
    rcases DataW.trod_slice ht hx with ⟨rfl, rfl⟩ | ⟨a, len, cap, elems, rest, n', _, rfl, rfl, _, hl, hm, hlen, hel, _, _⟩
    · exact ⟨[], fun y hy => by simp at hy, RepL.cons .nil RepL.nil, fun u hu => by simp at hu; rw [hu]; rfl, by simp [sumOf, Rows.uptoBulk]⟩
    · have each : ∀ m, m ≤ len → ∃ l : List α, l.length = m ∧ (∀ y ∈ l, ok y) ∧ (∀ i (hi : i < l.length), ∃ cs : List Value, cs.length = size ∧ (∀ j (hj : j < cs.length), w.cell? ((a.add (i * size)).add j) = some cs[j]) ∧ RepL (allF w) w cs (enc l[i]) ∧ ∀ u ∈ cs, u.oneCell' = true) ∧
          sumOf B l ≤ Rows.uptoBulkAll ((elems.take m).map (·.1)) := by
        intro m
        induction m with
        | zero => intro _; exact ⟨[], rfl, fun y hy => by simp at hy, fun i hi => absurd hi (by simp), by simp [sumOf]⟩
        | succ m ih =>
          intro hm1
          obtain ⟨l, h1, h2, h3, h4⟩ := ih (by omega)
          have hme : m < elems.length := by omega
          have hh := hel m (by omega)
          rw [hc, List.getElem?_eq_getElem hme, Option.bind_eq_some_iff] at hh
          obtain ⟨cs, hcs, htr⟩ := hh
          obtain ⟨hcl, hcg⟩ := cells?_all hcs
          obtain ⟨y, hy1, hy2, hy3, hy4⟩ := O.get htr hcl
          refine ⟨l ++ [y], by simp [h1], fun z hz => ?_, fun i hi => ?_, ?_⟩
          · rw [List.mem_append] at hz
            rcases hz with hz | hz
            · exact h2 z hz
            · simp at hz; rw [hz]; exact hy1
          · rw [List.length_append, List.length_singleton] at hi
            by_cases hlt : i < l.length
            · rw [List.getElem_append_left hlt]; exact h3 i hlt
            · have he : i = m := by omega
              subst he
              refine ⟨cs, hcl, hcg, ?_, hy3⟩
              rw [List.getElem_append_right (by omega)]
              simpa using hy2
          · rw [List.take_succ_eq_append_getElem hme, List.map_append, blk_append, sumOf_append]
            simp only [sumOf, List.map_cons, List.map_nil, Rows.uptoBulkAll]
            omega
      obtain ⟨l, h1, h2, h3, h4⟩ := each len (Nat.le_refl _)
      have h6 : elems.take len = elems := List.take_of_length_le (by omega)
      rw [h6] at h4
      refine ⟨l, h2, RepL.cons ?_ RepL.nil, fun u hu => by simp at hu; rw [hu]; rfl, by simp only [Rows.uptoBulk]; omega⟩
      have hch : ∀ i : Nat, ∃ cs : List Value, ∀ (hi : i < l.length), cs.length = size ∧ (∀ j (hj : j < cs.length), w.cell? ((a.add (i * size)).add j) = some cs[j]) ∧ RepL (allF w) w cs (enc l[i]) ∧ ∀ u ∈ cs, u.oneCell' = true := fun i => by
        by_cases hi : i < l.length
        · obtain ⟨cs, h⟩ := h3 i hi; exact ⟨cs, fun _ => h⟩
        · exact ⟨[], fun h => absurd h hi⟩
      let f : Nat → List Value := fun i => Classical.choose (hch i)
      have hf : ∀ i (hi : i < l.length), (f i).length = size ∧ (∀ j (hj : j < (f i).length), w.cell? ((a.add (i * size)).add j) = some (f i)[j]) ∧ RepL (allF w) w (f i) (enc l[i]) ∧ ∀ u ∈ f i, u.oneCell' = true := fun i hi => Classical.choose_spec (hch i) hi
      have hll : (l.map enc).length = len := by simp [h1]
      have := Rep.sl (F := allF w) (w := w) a cap size (l.map enc) (fun i j => (f i).getD j undef) (by omega) (by unfold maxLen at hm; omega) (fun h0 => by
          rw [List.length_map] at h0
          obtain ⟨g1, g2, _⟩ := hf 0 h0
          have h7 := World.block_lt_of_cell? w _ (g2 0 (by omega))
          rw [addr_block, addr_block] at h7
          exact h7) (fun i hi => by rw [List.getElem_map]; exact O.len _) (fun i j hi hj => by
          rw [List.length_map] at hi
          obtain ⟨g1, g2, _⟩ := hf i hi
          rw [← addr_add_add, g2 j (by omega), List.getD_eq_getElem?_getD, List.getElem?_eq_getElem (by omega), Option.getD_some]) (fun i j hi hj => by
          rw [List.length_map] at hi
          obtain ⟨g1, _, _, g4⟩ := hf i hi
          rw [List.getD_eq_getElem?_getD, List.getElem?_eq_getElem (by omega), Option.getD_some]
          exact g4 _ (List.getElem_mem _)) (fun i hi j hj => by
          rw [List.length_map] at hi
          obtain ⟨g1, _, g3, _⟩ := hf i hi
          simp only [List.getElem_map] at hj ⊢
          have hj' : j < (f i).length := by rw [g3.1]; exact hj
          rw [List.getD_eq_getElem?_getD, List.getElem?_eq_getElem hj', Option.getD_some]
          exact g3.2 j hj' hj)
      rw [hll] at this
      exact this⟩

/-- A struct's fields, from one on. -/
structure OpensF {α : Type} (P : Program) (fs : List (Nat × Nat × Nat)) (off total : Nat) (enc : α → List D) (ok : α → Prop) (B : α → Nat) : Prop where
  len : ∀ y, off + (enc y).length = total
  get : ∀ {H : Type} {encH : TypeId × Value → H} {w : World} {n : Nat} {cs : List Value} {xs : List (DataW H × List MemPlace)}, cs.length = total → xs.length = fs.length →
    (∀ (i : Nat) (f : Nat × Nat × Nat), fs[i]? = some f → DataW.trod encH P w 0 (fun _ => true) true n f.1 ((cs.drop f.2.1).take f.2.2) = xs[i]?) → ∃ y, ok y ∧ RepL (allF w) w (cs.drop off) (enc y) ∧ (∀ u ∈ cs.drop off, u.oneCell' = true) ∧ B y ≤ Rows.uptoBulkAll (xs.map (·.1))
theorem OpensF.nil {total : Nat} : OpensF (α := Unit) P [] total total (fun _ => []) (fun _ => True) (fun _ => 0) :=
  ⟨fun _ => rfl, fun {H encH w n cs xs} hc _ _ => ⟨(), trivial, by rw [List.drop_eq_nil_of_le (by omega)]; exact RepL.nil, fun u hu => by rw [List.drop_eq_nil_of_le (by omega)] at hu; simp at hu, Nat.zero_le _⟩⟩
theorem OpensF.cons {α β : Type} {ft off size total : Nat} {fs : List (Nat × Nat × Nat)} {enc : α → List D} {ok : α → Prop} {B : α → Nat} {enc2 : β → List D} {ok2 : β → Prop} {B2 : β → Nat} (O : Opens P ft size enc ok B) (R : OpensF P fs (off + size) total enc2 ok2 B2) :
    OpensF (α := α × β) P ((ft, off, size) :: fs) off total (fun y => enc y.1 ++ enc2 y.2) (fun y => ok y.1 ∧ ok2 y.2) (fun y => B y.1 + B2 y.2) :=
  ⟨fun y => by have := R.len y.2; rw [List.length_append, O.len]; omega, fun {H encH w n cs xs} hc hl h => by
    rcases xs with _ | ⟨x, xs⟩
    · simp at hl
    have h0 := h 0 (ft, off, size) rfl
    simp only [List.getElem?_cons_zero] at h0
    obtain ⟨y2, k1, k2, k3, k4⟩ := R.get (encH := encH) (w := w) (n := n) (xs := xs) hc (by simpa using hl) (fun i f hf => by
      have := h (i + 1) f (by simpa using hf)
      simpa using this)
    have hle := R.len y2
    obtain ⟨y1, g1, g2, g3, g4⟩ := O.get h0 (by rw [List.length_take, List.length_drop]; omega)
    have hsplit : cs.drop off = (cs.drop off).take size ++ cs.drop (off + size) := by
      rw [← List.drop_drop]; exact (List.take_append_drop size (cs.drop off)).symm
    refine ⟨(y1, y2), ⟨g1, k1⟩, ?_, fun u hu => ?_, ?_⟩
    · rw [hsplit]; exact g2.append k2
    · rw [hsplit, List.mem_append] at hu
      rcases hu with hu | hu
      · exact g3 u hu
      · exact k3 u hu
    · simp only [List.map_cons, Rows.uptoBulkAll]; omega⟩

def structF (P : Program) (t total : Nat) (fs : List (Nat × Nat × Nat)) : Bool :=
  match P.underlying t with
  | some (.struct gs) => gs.size == fs.length && (gs.toList.zip fs).all (fun (g, f) => g.type == f.1 && g.offset == f.2.1 && P.cellsOf g.type == f.2.2) && P.cellsOf t == total
  | _ => false
theorem opens_struct {α : Type} {total : Nat} {fs : List (Nat × Nat × Nat)} {enc : α → List D} {ok : α → Prop} {B : α → Nat} (hb : structF P t total fs = true) (O : OpensF P fs 0 total enc ok B) : Opens P t total enc ok (fun y => B y + 1) :=
  ⟨fun y => by have := O.len y; omega, fun {H encH w n cs x} hx hc => by
    unfold structF at hb
    split at hb
    · rename_i gs hu
      simp only [Bool.and_eq_true, beq_iff_eq, List.all_eq_true] at hb
      obtain ⟨⟨h1, h2⟩, h3⟩ := hb
      obtain ⟨xs, n', _, rfl, _, hl, hf⟩ := DataW.trod_struct hu hx
      obtain ⟨y, k1, k2, k3, k4⟩ := O.get (encH := encH) (w := w) (n := n') (cs := cs) (xs := xs) hc (by omega) (fun i f hf' => by
        have hi : i < fs.length := (List.getElem?_eq_some_iff.1 hf').1
        have hfe : fs[i] = f := (List.getElem?_eq_some_iff.1 hf').2
        have hi' : i < gs.size := by omega
        have h4 := h2 (gs[i], f) (by
          rw [List.mem_iff_getElem]
          exact ⟨i, by simp; omega, by simp [hfe]⟩)
        simp only at h4
        have h5 := hf i gs[i] (by simp [hi'])
        rw [h4.2, h4.1.1, h4.1.2] at h5
        exact h5)
      rw [List.drop_zero] at k2 k3
      exact ⟨y, k1, k2, k3, by simp only [Rows.uptoBulk]; omega⟩
    · simp at hb⟩

theorem one_of {F : Nat → Prop} {w : World} {v : Value} {d : D} (h : RepL F w v.cells.toList [d]) (hc : v.cells = #[v]) : Rep F w v d := by
  rw [hc] at h
  exact h.2 0 (by simp) (by simp)
theorem agg_of {F : Nat → Prop} {w : World} {cs : Array Value} {ds : List D} (h : RepL F w (Value.agg cs).cells.toList ds) (h1 : ∀ u ∈ (Value.agg cs).cells.toList, u.oneCell' = true) : Rep F w (.agg cs) (.agg ds) := by
  have e : cs = cs.toList.toArray := by simp
  rw [e]
  exact .agg _ _ h.1 (fun i hi => h1 _ (List.getElem_mem hi)) h.2

/-- An argument that came in. -/
theorem Opens.arg {α : Type} {size : Nat} {enc : α → List D} {ok : α → Prop} {B : α → Nat} (O : Opens P t size enc ok B) {H : Type} {encH : TypeId × Value → H} {w : World} {v : Value} {d : DataW H} {p : List MemPlace} (h : DataW.Trod encH P w 0 (fun _ => true) true t v d p) (hc : v.cells.size = size) :
    ∃ y, ok y ∧ RepL (allF w) w v.cells.toList (enc y) ∧ (∀ u ∈ v.cells.toList, u.oneCell' = true) ∧ B y ≤ Rows.uptoBulk d := by
  obtain ⟨fuel, hf⟩ := h
  exact O.get hf (by rw [Array.length_toList]; exact hc)
end
end Go.Proofs.YtajghehicmlajaaDoor
