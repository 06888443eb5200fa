/- Reading what comes in: slices of anything, with what their reading weighs ('uptoBulk'). -/
import Derived.Test.YtpihcfpdaoflbaaK
import Derived.ProofKit
import Derived.OpenShut
import Derived.ShutString
import Derived.ChangeOld
import Derived.Below
namespace Go.Proofs.Ytpihcfpdaoflbaa
open Go.ChangeShapes Go.WideShapes Go.ChangeAt Go.RowKit

/-- v is a slice whose elements, of size cells each, read by R as l. -/
def RS {α : Type} (R : World → List Value → α → Prop) (size : Nat) (w : World) (v : Value) (l : List α) : Prop :=
  ∃ css : List (List Value), css.length = l.length ∧ Sl w size v l.length css.flatten ∧ ∀ (i : Nat) cs y, css[i]? = some cs → l[i]? = some y → cs.length = size ∧ R w cs y

theorem bulk_pos {H : Type} (d : DataW H) : 1 ≤ Rows.uptoBulk d := by
  cases d with
  | lit l => cases l <;> simp [Rows.uptoBulk]
  | nil => simp [Rows.uptoBulk]
  | ptr d => simp [Rows.uptoBulk]
  | slice elems spare => simp [Rows.uptoBulk]
  | agg parts => simp [Rows.uptoBulk]
  | iface t d => simp [Rows.uptoBulk]
  | map entries => simp [Rows.uptoBulk]
  | held h => simp [Rows.uptoBulk]
theorem bulk_append {H : Type} (l r : List (DataW H)) : Rows.uptoBulkAll (l ++ r) = Rows.uptoBulkAll l + Rows.uptoBulkAll r := by
  induction l with
  | nil => simp [Rows.uptoBulkAll]
  | cons x l ih => simp only [List.cons_append, Rows.uptoBulkAll, ih]; omega
theorem bulk_length {H : Type} (l : List (DataW H)) : l.length ≤ Rows.uptoBulkAll l := by
  induction l with
  | nil => simp [Rows.uptoBulkAll]
  | cons x r ih => have := bulk_pos x; simp only [Rows.uptoBulkAll, List.length_cons]; omega
theorem bulk_bound {H : Type} {l : List (DataW H)} (hk : Rows.uptoSmall H l = true) : Rows.uptoBulkAll l ≤ 1048576 := by
  simpa [Rows.uptoSmall] using hk
theorem bulk_mem {H : Type} {d : DataW H} {l : List (DataW H)} (h : d ∈ l) : Rows.uptoBulk d ≤ Rows.uptoBulkAll l := by
  induction l with
  | nil => cases h
  | cons x r ih =>
    simp only [Rows.uptoBulkAll]
    cases List.mem_cons.1 h with
    | inl e => subst e; omega
    | inr e => have := ih e; omega

def sumB {α : Type} (B : α → Nat) (l : List α) : Nat := (l.map B).sum

theorem cells?_get {w : World} {base n : Nat} {ad : Addr} {cs : List Value} (h : w.cells? base ad n = some cs) : cs.length = n ∧ ∀ j (hj : j < cs.length), w.cell? (ad.add j) = some cs[j] := by
  unfold World.cells? at h
  split at h
  · have hl := mapM_some_length h
    simp at hl
    refine ⟨hl, fun j hj => ?_⟩
    have h2 := mapM_some_get h j j (by rw [List.getElem?_range (by omega)])
    rw [h2, List.getElem?_eq_getElem hj]
  · cases h

theorem flatten_get {css : List (List Value)} {size : Nat} (h : ∀ cs ∈ css, cs.length = size) : css.flatten.length = css.length * size ∧ ∀ i (hi : i < css.length) j, j < size → css.flatten[i * size + j]? = css[i][j]? := by
  induction css with
  | nil => exact ⟨by simp, fun i hi => absurd hi (by simp)⟩
  | cons c r ih =>
    have hc := h c (by simp)
    obtain ⟨h1, h2⟩ := ih (fun cs hcs => h cs (by simp [hcs]))
    refine ⟨by rw [List.flatten_cons, List.length_append, h1, hc, List.length_cons, Nat.add_mul]; omega, ?_⟩
    intro i hi j hj
    rw [List.flatten_cons]
    cases i with
    | zero => rw [Nat.zero_mul, Nat.zero_add, List.getElem?_append_left (by omega)]; rfl
    | succ i =>
      rw [List.getElem?_append_right (by rw [hc, Nat.succ_mul]; omega)]
      simp only [List.getElem_cons_succ]
      rw [← h2 i (by simpa using hi) j hj]
      congr 1
      rw [hc, Nat.succ_mul]; omega

theorem slice_in {α H : Type} {enc : TypeId × Value → H} {P : Program} {w : World} {fuel : Nat} {t e size : Nat} {cs : List Value} {x : DataW H × List MemPlace} (R : World → List Value → α → Prop) (B : α → Nat)
    (ht : P.underlying t = some (.slice e)) (hc : P.cellsOf e = size) (hs : 0 < size)
    (hR : ∀ n cs x, DataW.trod enc P w 0 (fun _ => true) true n e cs = some x → cs.length = size → ∃ y, R w cs y ∧ B y ≤ Rows.uptoBulk x.1)
    (h : DataW.trod enc P w 0 (fun _ => true) true fuel t cs = some x) : ∃ v l, cs = [v] ∧ RS R size w v l ∧ sumB B l + 1 ≤ Rows.uptoBulk x.1 := by
  rcases DataW.trod_slice ht h with ⟨rfl, rfl⟩ | ⟨a, len, cap, elems, rest, n, _, rfl, rfl, _, hl, hm, hlen, hel, _, _⟩
  · exact ⟨_, [], rfl, ⟨[], rfl, Sl.nil _ _, fun i cs y h => by simp at h⟩, by simp [sumB, Rows.uptoBulk]⟩
  · have each : ∀ m, m ≤ len → ∃ (css : List (List Value)) (l : List α), css.length = m ∧ l.length = m ∧ (∀ (i : Nat) cs y, css[i]? = some cs → l[i]? = some y → cs.length = size ∧ R w cs y) ∧
        (∀ i (hi : i < css.length), css[i].length = size ∧ ∀ j (hj : j < css[i].length), w.cell? ((a.add (i * size)).add j) = some css[i][j]) ∧ sumB B l ≤ Rows.uptoBulkAll ((elems.take m).map (·.1)) := by
      intro m
      induction m with
      | zero => intro _; exact ⟨[], [], rfl, rfl, fun i cs y h => by simp at h, fun i hi => absurd hi (by simp), by simp [sumB]⟩
      | succ m ih =>
        intro hm1
        obtain ⟨css, l, h1, h2, h3, h4, h5⟩ := ih (by omega)
        have hme : m < elems.length := by omega
        have hh := hel m (by omega)
        rw [hc, List.getElem?_eq_getElem hme, Option.bind_eq_some_iff] at hh
        obtain ⟨cs, hcs, htr⟩ := hh
        obtain ⟨hcl, hcg⟩ := cells?_get hcs
        obtain ⟨y, hy, hby⟩ := hR _ _ _ htr hcl
        refine ⟨css ++ [cs], l ++ [y], by simp [h1], by simp [h2], ?_, ?_, ?_⟩
        · intro i c z hi hz
          rcases Nat.lt_trichotomy i m with hlt | he | hgt
          · rw [List.getElem?_append_left (by omega)] at hi hz
            exact h3 i c z hi hz
          · subst he
            rw [List.getElem?_append_right (by omega), h1] at hi
            rw [List.getElem?_append_right (by omega), h2] at hz
            simp at hi hz
            subst hi; subst hz
            exact ⟨hcl, hy⟩
          · rw [List.getElem?_eq_none (by simp; omega)] at hi
            cases hi
        · intro i hi
          rw [List.length_append, List.length_singleton] at hi
          rcases Nat.lt_or_ge i m with hlt | hge
          · have e1 : (css ++ [cs])[i] = css[i] := List.getElem_append_left (by omega)
            simp only [e1]
            exact h4 i (by omega)
          · have he : i = m := by omega
            subst he
            have e1 : (css ++ [cs])[i] = cs := by rw [List.getElem_append_right (by omega)]; simp [h1]
            simp only [e1]
            exact ⟨hcl, hcg⟩
        · rw [List.take_succ_eq_append_getElem hme, List.map_append, bulk_append]
          simp only [sumB, List.map_append, List.sum_append, List.map_cons, List.map_nil, List.sum_cons, List.sum_nil, Rows.uptoBulkAll] at h5 ⊢
          omega
    obtain ⟨css, l, h1, h2, h3, h4, h5⟩ := each len (Nat.le_refl _)
    obtain ⟨f1, f2⟩ := flatten_get (css := css) (size := size) (fun cs hcs => by
      obtain ⟨i, hi, rfl⟩ := List.getElem_of_mem hcs
      exact (h4 i hi).1)
    refine ⟨_, l, rfl, ⟨css, by omega, ⟨by rw [f1, h1, h2], .inr ⟨a, cap, by rw [h2], by omega, by unfold maxLen at hm; omega, ?_⟩⟩, h3⟩, ?_⟩
    · intro i hi
      rw [f1] at hi
      have hq : i / size < css.length := by rw [Nat.div_lt_iff_lt_mul hs]; exact hi
      have hr := Nat.mod_lt i hs
      have hi' : i = (i / size) * size + i % size := by rw [Nat.mul_comm]; exact (Nat.div_add_mod i size).symm
      obtain ⟨g1, g2⟩ := h4 (i / size) hq
      have g3 := g2 (i % size) (by omega)
      rw [addr_add_add, ← hi'] at g3
      rw [g3, ← List.getElem?_eq_getElem, ← List.getElem?_eq_getElem, ← f2 _ hq _ hr, ← hi']
    · have h6 : elems.take len = elems := List.take_of_length_le (by omega)
      rw [h6] at h5
      simp only [Rows.uptoBulk]
      omega

/-- A struct's field, of one cell. -/
theorem field_at {cs : List Value} {n off size : Nat} (hl : cs.length = n) (h : off + size ≤ n) : ((cs.drop off).take size).length = size := by
  rw [List.length_take, List.length_drop]; omega
end Go.Proofs.Ytpihcfpdaoflbaa
