/- General words and lemmas for the walks of this seat: slices that are only read, appends onto rows of the call's own. No statement of the seat. -/
import Derived.Test.YtajghehicmlajaaDoorRows
import Derived.WalkKit
import Derived.WalkSpells
import Derived.Lib.Hide
import Derived.BigQuiet
import Derived.Deep.QuietTactic
import Derived.Maps.AppendAt
namespace Go.Proofs.YtajghehicmlajaaDoor
open Go.RowKit

/-- From ad on the cells xs lie. -/
def Cells (w : World) (ad : Addr) (xs : List Value) : Prop := ∀ i (h : i < xs.length), w.cell? (ad.add i) = some xs[i]

/-- v is a slice of n elements of size cells each, that reads as the cells xs. -/
def Sl (w : World) (size : Nat) (v : Value) (n : Nat) (xs : List Value) : Prop :=
  xs.length = n * size ∧ ((v = .slice none 0 0 ∧ n = 0) ∨ ∃ ad cap, v = .slice (some ad) n cap ∧ n ≤ cap ∧ cap ≤ 9223372036854775807 ∧ Cells w ad xs)

theorem addr_add (b o i : Nat) : (⟨b, o, none⟩ : Addr).add i = ⟨b, o + i, none⟩ := by unfold Addr.add; split <;> simp_all
theorem addr_add_add (ad : Addr) (i j : Nat) : (ad.add i).add j = ad.add (i + j) := by
  unfold Addr.add
  by_cases h1 : i = 0
  · subst h1; simp
  · by_cases h2 : j = 0
    · subst h2; simp [h1]
    · rw [if_neg h1, if_neg h2, if_neg (by omega)]
      simp [Nat.add_assoc]
theorem addr_zero (ad : Addr) : ad.add 0 = ad := by simp [Addr.add]
theorem addr_succ (ad : Addr) (i : Nat) : ad.add (i + 1) = ⟨ad.block, ad.off + (i + 1), none⟩ := by unfold Addr.add; rw [if_neg (by omega)]
theorem addr_one (ad : Addr) : ad.add 1 = ⟨ad.block, ad.off + 1, none⟩ := addr_succ ad 0
theorem addr_block (ad : Addr) (i : Nat) : (ad.add i).block = ad.block := by unfold Addr.add; split <;> rfl

/-- The facts of a slice type t with elements e. -/
structure ElemTy (P : Program) (t e : TypeId) (size bytes : Nat) (z : Value) : Prop where
  ht : P.underlying t = some (.slice e)
  hi : (P.info? e).map (fun i => (i.zero, i.size, i.bytes)) = some (some z, size, bytes)
  hz : z.cells.size = size
  hs : 0 < size

theorem ElemTy.sizeOf {P : Program} {t e : TypeId} {size bytes : Nat} {z : Value} (T : ElemTy P t e size bytes z) (w : World) : (sizeOf e).run P w = .ok size w := by
  obtain ⟨i, hi, _, h2, _⟩ := info_parts T.hi
  simp [Go.sizeOf, typeInfo, hi, h2]

theorem Cells.below {B : Nat} {w w' : World} {ad : Addr} {xs : List Value} (h : Cells w ad xs) (hb : Below B w w') (hB : w.heap.size ≤ B) : Cells w' ad xs := by
  intro i hi
  have hc := h i hi
  rw [hb.cell (Nat.lt_of_lt_of_le (World.block_lt_of_cell? w _ hc) hB)]
  exact hc

theorem Sl.below {B : Nat} {w w' : World} {size n : Nat} {v : Value} {xs : List Value} (h : Sl w size v n xs) (hb : Below B w w') (hB : w.heap.size ≤ B) : Sl w' size v n xs := by
  refine ⟨h.1, ?_⟩
  rcases h.2 with h2 | ⟨ad, cap, h3, h4, h5, h6⟩
  · exact .inl h2
  · exact .inr ⟨ad, cap, h3, h4, h5, h6.below hb hB⟩

theorem Sl.nil (w : World) (size : Nat) : Sl w size (.slice none 0 0) 0 [] := ⟨by simp, .inl ⟨rfl, rfl⟩⟩

theorem Sl.bound {w : World} {size n : Nat} {v : Value} {xs : List Value} (h : Sl w size v n xs) : n ≤ 9223372036854775807 := by
  rcases h.2 with ⟨_, h2⟩ | ⟨ad, cap, h3, h4, h5, h6⟩ <;> omega

theorem Sl.len {P : Program} {w : World} {size n : Nat} {v : Value} {xs : List Value} (h : Sl w size v n xs) {t e : TypeId} (ht : P.underlying t = some (.slice e)) (ty : TypeId) (w' : World) :
    (Builtin.len_ #[t] ty #[v]).run P w' = .ok (.int .i64 n) w' := by
  rcases h.2 with ⟨rfl, rfl⟩ | ⟨ad, cap, rfl, _⟩ <;> simp [Builtin.len_, run_underlying ht, goInt]

/-- The address of element i, and the cells that lie there. -/
theorem Sl.idx {P : Program} {w : World} {size bytes n : Nat} {v z : Value} {xs : List Value} (h : Sl w size v n xs) {t e : TypeId} (T : ElemTy P t e size bytes z) (i : Int) (h0 : 0 ≤ i) (h1 : i < n) :
    ∃ ad : Addr, (∀ w', (Instr.indexAt t v (.int .i64 i)).run P w' = .ok (.pointer (some ad)) w') ∧ Cells w ad ((xs.drop (i.toNat * size)).take size) := by
  rcases h.2 with ⟨rfl, rfl⟩ | ⟨ad, cap, rfl, hn, hc, hcell⟩
  · omega
  · refine ⟨ad.add (i.toNat * size), ?_, ?_⟩
    · intro w'
      have hp : 0 ≤ i ∧ i < (n : Int) := ⟨h0, h1⟩
      simp [Instr.indexAt, run_underlying T.ht, asIntOf, hp, T.sizeOf]
    · intro j hj
      have hj2 : j < size ∧ i.toNat * size + j < xs.length := by rw [List.length_take, List.length_drop] at hj; omega
      rw [addr_add_add, List.getElem_take, List.getElem_drop]
      exact hcell _ hj2.2

/-- One cell an element. -/
theorem Sl.idx1 {P : Program} {w : World} {bytes n : Nat} {v z : Value} {xs : List Value} (h : Sl w 1 v n xs) {t e : TypeId} (T : ElemTy P t e 1 bytes z) (i : Int) (h0 : 0 ≤ i) (h1 : i < n) :
    ∃ ad : Addr, (∀ w', (Instr.indexAt t v (.int .i64 i)).run P w' = .ok (.pointer (some ad)) w') ∧ w.cell? ad = some (xs.getD i.toNat undef) := by
  obtain ⟨ad, hr, hc⟩ := h.idx T i h0 h1
  have hx : i.toNat < xs.length := by rw [h.1]; omega
  have hcell := hc 0 (by rw [List.length_take, List.length_drop]; omega)
  refine ⟨ad, hr, ?_⟩
  rw [addr_zero, List.getElem_take, List.getElem_drop] at hcell
  rw [hcell, List.getD_eq_getElem?_getD, List.getElem?_eq_getElem hx]
  simp

/-- A slice of a slice. -/
theorem Sl.cut {P : Program} {w : World} {size bytes n : Nat} {v z : Value} {xs : List Value} (h : Sl w size v n xs) {t e : TypeId} (T : ElemTy P t e size bytes z) (lo hi : Int) (h0 : 0 ≤ lo) (h1 : lo ≤ hi) (h2 : hi ≤ n) :
    ∃ v', (∀ w', (Instr.slice t v (some (.int .i64 lo)) (some (.int .i64 hi)) none).run P w' = .ok v' w') ∧ Sl w size v' (hi.toNat - lo.toNat) ((xs.drop (lo.toNat * size)).take ((hi.toNat - lo.toNat) * size)) := by
  have hd : P.underlying t = some (.slice (P.elem t)) := by rw [T.ht]; simp [Program.elem, T.ht]
  have he : P.elem t = e := by simp [Program.elem, T.ht]
  have hl : ((xs.drop (lo.toNat * size)).take ((hi.toNat - lo.toNat) * size)).length = (hi.toNat - lo.toNat) * size := by
    rw [List.length_take, List.length_drop, h.1, ← Nat.sub_mul]
    apply Nat.min_eq_left
    apply Nat.mul_le_mul_right
    omega
  rcases h.2 with ⟨rfl, rfl⟩ | ⟨ad, cap, rfl, hn, hc, hcell⟩
  · have e1 : lo = 0 := by omega
    have e2 : hi = 0 := by omega
    subst e1; subst e2
    refine ⟨.slice none 0 0, ?_, hl, .inl ⟨rfl, rfl⟩⟩
    intro w'
    rw [run_slice_lh w' t none 0 0 hd .i64 .i64 0 0 (by omega) (by omega) (by omega), he, T.sizeOf]
    simp [Result.andThen, sliced]
  · refine ⟨sliced (some ad) lo.toNat hi.toNat cap size, ?_, hl, .inr ?_⟩
    · intro w'
      rw [run_slice_lh w' t (some ad) n cap hd .i64 .i64 lo hi h0 h1 (by omega), he, T.sizeOf]
      rfl
    · unfold sliced
      by_cases hm : cap = lo.toNat
      · rw [if_pos hm]
        refine ⟨ad, _, rfl, by omega, by omega, ?_⟩
        intro i hi'
        rw [hl] at hi'
        have : hi.toNat - lo.toNat = 0 := by omega
        rw [this] at hi'
        omega
      · rw [if_neg hm]
        refine ⟨ad.add (lo.toNat * size), cap - lo.toNat, rfl, by omega, by omega, ?_⟩
        intro i hi'
        have hx : lo.toNat * size + i < xs.length := by
          have := hi'
          rw [List.length_take, List.length_drop] at this
          omega
        rw [addr_add_add, List.getElem_take, List.getElem_drop]
        exact hcell _ hx

theorem Sl.ofOwns {w : World} {B e size n : Nat} {v : Value} {xs : List Value} (h : w.ownsRow B e size v n xs) : Sl w size v n xs := by
  refine ⟨h.1, ?_⟩
  rcases h.2 with ⟨h1, h2⟩ | ⟨g, cap, cur, rfl, _, hg, hn, hm, _, ht⟩
  · exact .inl ⟨h1, h2⟩
  · refine .inr ⟨⟨g, 0, none⟩, cap, rfl, hn, by unfold maxLen at hm; omega, ?_⟩
    intro i hi
    exact World.ownsRow.cells h (g := g) rfl i xs[i] (by rw [List.getElem?_eq_getElem hi])

theorem _root_.Go.RowKit.Below.drewN {B : Nat} {a w : World} (h : Below B a w) (n : Nat) : Below B a (w.drewN n) := ⟨h.os, h.tape, h.output, h.size, h.block⟩

/-- What is owned from a block on is owned from an earlier one on. -/
theorem _root_.Go.World.ownsRow.base {w : World} {B B' e size n : Nat} {v : Value} {xs : List Value} (h : w.ownsRow B e size v n xs) (hB : B' ≤ B) : w.ownsRow B' e size v n xs := by
  refine ⟨h.1, ?_⟩
  rcases h.2 with h1 | ⟨g, cap, cur, h1, h2, h3⟩
  · exact .inl h1
  · exact .inr ⟨g, cap, cur, h1, Nat.le_trans hB h2, h3⟩

theorem Sl.oneCell {w : World} {size n : Nat} {v : Value} {xs : List Value} (h : Sl w size v n xs) : v.oneCell' = true := by
  rcases h.2 with ⟨rfl, _⟩ | ⟨ad, cap, rfl, _⟩ <;> rfl

/-- A cell that was there is as it was behind a call. -/
theorem cell_behind {w w' : World} {ad : Addr} {v : Value} (hb : Below w.heap.size w w') (h : w.cell? ad = some v) : w'.cell? ad = some v := by
  rw [hb.cell (World.block_lt_of_cell? w _ h)]; exact h
theorem cell_drewn {w w' : World} {ad : Addr} {v : Value} (hb : Below w.drew.heap.size w.drew w') (h : w.cell? ad = some v) : w'.cell? ad = some v := cell_behind (w := w.drew) hb (by simpa using h)

/-- A row of the call's own stays so behind a call that leaves old memory alone. -/
theorem owns_below {w w' : World} {B e size n : Nat} {v : Value} {xs : List Value} (h : w.ownsRow B e size v n xs) (hb : Below w.heap.size w w') : w'.ownsRow B e size v n xs :=
  h.kept (row := none) ⟨hb.os, hb.tape, hb.output, hb.size, fun k hk _ => hb.block k hk⟩ (by cases hv : v.ownBlock <;> simp)

/-- What an append to v leaves: v', in the same block or in a new one; the other blocks are as they were. -/
structure Pushed (w : World) (v : Value) (w' : World) (v' : Value) : Prop where
  grown : w.grownBy w' v.ownBlock
  at_ : v'.ownBlock = v.ownBlock ∨ ∃ g, v'.ownBlock = some g ∧ w.heap.size ≤ g

/-- Two slices do not share a block. -/
def Apart (x v : Value) : Prop := x.ownBlock = none ∨ x.ownBlock ≠ v.ownBlock

theorem Pushed.keep {w w' : World} {v v' x : Value} {B e size n : Nat} {xs : List Value} (h : Pushed w v w' v') (hx : w.ownsRow B e size x n xs) (ha : Apart x v) : w'.ownsRow B e size x n xs ∧ Apart x v' := by
  refine ⟨hx.kept h.grown ha, ?_⟩
  rcases ha with ha | ha
  · exact .inl ha
  · rcases h.at_ with h1 | ⟨g, h1, h2⟩
    · exact .inr (by rw [h1]; exact ha)
    · refine .inr ?_
      intro he
      have := (World.ownsRow.lt hx g (by rw [he, h1])).2
      omega
/-- A slice that was made behind another one is apart from it. -/
theorem apart_new {w w' : World} {v x : Value} {B e size n e' size' n' : Nat} {xs ys : List Value} (hv : w.ownsRow B e size v n xs) (hx : w'.ownsRow w.heap.size e' size' x n' ys) : Apart x v := by
  cases hb : x.ownBlock with
  | none => exact .inl hb
  | some g =>
    refine .inr ?_
    rw [hb]
    intro he
    have h1 := (World.ownsRow.lt hx g hb).1
    have h2 := (World.ownsRow.lt hv g he.symm).2
    omega
theorem apart_nil (x : Value) : Apart x (.slice none 0 0) := by
  unfold Apart
  cases hv : x.ownBlock with
  | none => exact .inl rfl
  | some g => exact .inr (by simp [Value.ownBlock])
theorem Apart.symm {x v : Value} (h : Apart x v) : Apart v x := by
  unfold Apart at *
  rcases h with h | h
  · cases hv : v.ownBlock with
    | none => exact .inl rfl
    | some g => exact .inr (by rw [h]; simp)
  · exact .inr (Ne.symm h)

/-- append of one element that was laid into a block of its own right before. -/
theorem wp_push {P : Program} {W w : World} {o : Oper} {a : Act} {K : Act → World → Prop} {Q : Exit → Act → World → Prop} {t e : TypeId} {size bytes : Nat} {z : Value} (T : ElemTy P t e size bytes z)
    (s x : Operand) (ho : o.op = .call { callee := .builtin .append, args := #[s, x], argTypes := #[t, t] })
    {B n : Nat} {v : Value} {xs : List Value} (hown : w.ownsRow B e size v n xs) (hs : a.eval s = v) {cs : Array Value} (hx : a.eval x = .slice (some ⟨w.heap.size, 0, none⟩) 1 1)
    (hcs : cs.size = size) (h1 : ∀ u ∈ cs.toList, u.oneCell' = true) (hbytes : (n + 1) * bytes ≤ 140737488355328) (hn : n < 9223372036854775807) (hb : Below B W w) (hB : B ≤ w.heap.size)
    (h : ∀ v' w', w'.ownsRow B e size v' (n + 1) (xs ++ cs.toList) → Below B W w' → B ≤ w'.heap.size → Pushed w v w' v' → K (a.put o.dst v') w') :
    o.wp P a (w.alloc (.cells cs e)) K Q := by
  obtain ⟨i, hi, hz0, hz1, hz2⟩ := info_parts T.hi
  have hnews : ∀ j u, cs.toList[j]? = some u → (w.alloc (.cells cs e)).cell? ((⟨w.heap.size, 0, none⟩ : Addr).add j) = some u := by
    intro j u hj
    rw [addr_add, Nat.zero_add, cell_of_row (w.alloc (.cells cs e)) w.heap.size j cs e (0, 0) (heap_alloc_new w _)]
    simpa using hj
  obtain ⟨v', w', hr, h2, h3, h4, h5⟩ := run_append_own_at (P := P) (w.alloc (.cells cs e)) B t o.type e i z size bytes T.ht hi hz0 hz1 hz2 T.hz T.hs v n xs (hown.alloc _) ⟨w.heap.size, 0, none⟩ 1 1 cs.toList (by simp [hcs]) hnews h1 (by unfold maxLen; omega) hbytes (by simp; omega)
  unfold Oper.wp execOp
  simp only [ho, resolve, invoke, builtin, Sem.run_bind, Sem.run_pure, Result.andThen_ok, List.map_toArray, List.map_cons, List.map_nil, hs, hx, hr]
  have hb2 : Below B W w' := (hb.alloc hB _).grown h3 (by simp; omega) (fun k hk => (World.ownsRow.lt hown k hk).1)
  have hsz := h3.size
  refine h v' w' h2 hb2 (by simp at hsz; omega) ⟨⟨h3.os, h3.tape, h3.output, by simp at hsz; omega, fun k hk hne => ?_⟩, ?_⟩
  · rw [h3.block k (by simp; omega) hne]
    exact heap_alloc_old w _ hk
  · rcases h5 with h5 | h5
    · exact .inl h5
    · exact .inr ⟨_, h5, by simp⟩

theorem wpList_push {P : Program} {W w : World} {ops : Array Oper} {rest : List Oper} {o : Oper} {a : Act} {Q : Exit → Act → World → Prop} {t e : TypeId} {size bytes : Nat} {z : Value} (T : ElemTy P t e size bytes z)
    (s x : Operand) (hgd : o.guard = none) (ho : o.op = .call { callee := .builtin .append, args := #[s, x], argTypes := #[t, t] })
    {B n : Nat} {v : Value} {xs : List Value} (hown : w.ownsRow B e size v n xs) (hs : a.eval s = v) {cs : Array Value} (hx : a.eval x = .slice (some ⟨w.heap.size, 0, none⟩) 1 1)
    (hcs : cs.size = size) (h1 : ∀ u ∈ cs.toList, u.oneCell' = true) (hbytes : (n + 1) * bytes ≤ 140737488355328) (hn : n < 9223372036854775807) (hb : Below B W w) (hB : B ≤ w.heap.size)
    (h : ∀ v' w', w'.ownsRow B e size v' (n + 1) (xs ++ cs.toList) → Below B W w' → B ≤ w'.heap.size → Pushed w v w' v' → wpList P ops Q rest (a.put o.dst v') w') :
    wpList P ops Q (o :: rest) a (w.alloc (.cells cs e)) :=
  wpList_plain hgd fun _ hK => wp_push T s x ho hown hs hx hcs h1 hbytes hn hb hB fun v' w' h2 h3 h4 h5 => hK _ _ (h v' w' h2 h3 h4 h5)

/-- The same at a step of a region that draws its order. -/
theorem step_push {P : Program} {W w : World} {ops : Array Oper} {o : Oper} {a : Act} {K : Act → World → Prop} {Q : Exit → Act → World → Prop} {E : Prop} {t e : TypeId} {size bytes : Nat} {z : Value} (T : ElemTy P t e size bytes z)
    (s x : Operand) (hgd : o.guard = none) (ho : o.op = .call { callee := .builtin .append, args := #[s, x], argTypes := #[t, t] })
    {B n : Nat} {v : Value} {xs : List Value} (hown : w.ownsRow B e size v n xs) (hs : a.eval s = v) {cs : Array Value} (hx : a.eval x = .slice (some ⟨w.heap.size, 0, none⟩) 1 1)
    (hcs : cs.size = size) (h1 : ∀ u ∈ cs.toList, u.oneCell' = true) (hbytes : (n + 1) * bytes ≤ 140737488355328) (hn : n < 9223372036854775807) (hb : Below B W w) (hB : B ≤ w.heap.size)
    (h : ∀ v' w', w'.ownsRow B e size v' (n + 1) (xs ++ cs.toList) → Below B W w' → B ≤ w'.heap.size → Pushed w v w' v' → K (a.put o.dst v') w') :
    if Region.wanted o (yielded ops a.tmps) = true then o.wp P a (w.alloc (.cells cs e)) K Q else E := by
  rw [if_pos (by simp [Region.wanted, hgd])]
  exact wp_push T s x ho hown hs hx hcs h1 hbytes hn hb hB h

theorem fill_fold (init : Array Value) : ∀ (l : List Value) (k : Nat) (acc : Array Value), acc.size = init.size → k + l.length = init.size →
    ((l.zipIdx k).foldl (fun cs (p : Value × Nat) => cs.setIfInBounds (0 + p.2) p.1) acc).toList = acc.toList.take k ++ l
  | [], k, acc, h1, h2 => by
    simp only [List.zipIdx_nil, List.foldl_nil, List.append_nil]
    rw [List.take_of_length_le (by simp at h2; simp; omega)]
  | x :: l, k, acc, h1, h2 => by
    simp only [List.length_cons] at h2
    rw [List.zipIdx_cons, List.foldl_cons, fill_fold init l (k + 1) _ (by simpa using h1) (by omega)]
    have hk : k < acc.toList.length := by simp; omega
    simp only [Nat.zero_add, Array.toList_setIfInBounds]
    rw [List.take_succ_eq_append_getElem (by simpa using hk), List.getElem_set_self, List.take_set, List.set_eq_of_length_le (by simp; omega)]
    simp

/-- A slice literal of one element. -/
theorem run_lit1 {P : Program} {t e : TypeId} {size bytes : Nat} {z : Value} (T : ElemTy P t e size bytes z) (ev : Value) (hev : ev.cells.size = size) (hsz : size ≤ 16777216) (w : World) :
    (Instr.buildSlice t 1 #[(0, ev)]).run P w = .ok (.slice (some ⟨w.heap.size, 0, none⟩) 1 1) (w.alloc (.cells ev.cells e)) := by
  obtain ⟨i, hi, hz0, hz1, hz2⟩ := info_parts T.hi
  have hs := T.hs
  have h1 : ¬ (16777216 < size) := by omega
  have h2 : ¬ size = 0 := by omega
  have hfill : Instr.fill (fun i => some (i * size, size)) ((Array.range (1 * size)).map (z.cells[· % z.cells.size]!)) [(0, ev)] = some ev.cells := by
    simp only [Instr.fill]
    rw [if_neg (by simp [hev])]
    simp only [Nat.zero_mul]
    congr 1
    apply Array.ext'
    rw [← Array.foldl_toList, Array.toList_zipIdx]
    rw [fill_fold ((Array.range (1 * size)).map (z.cells[· % z.cells.size]!)) ev.cells.toList 0 _ rfl (by simp [hev])]
    simp
  unfold Instr.buildSlice
  simp only [Sem.run_bind, run_underlying T.ht, Result.andThen_ok, T.sizeOf, Nat.one_mul]
  rw [if_neg (by simpa using h1)]
  simp only [Sem.run_pure, Result.andThen_ok, h2, if_false, Sem.run_bind, zeroValue, typeInfo]
  simp only [Nat.one_mul] at hfill
  simp [hi, hz0, hfill, newRow]

/-- The same for an element of one cell. -/
theorem run_lit1_one {P : Program} {t e : TypeId} {bytes : Nat} {z : Value} (T : ElemTy P t e 1 bytes z) (ev : Value) (hev : ev.oneCell' = true) (w : World) :
    (Instr.buildSlice t 1 #[(0, ev)]).run P w = .ok (.slice (some ⟨w.heap.size, 0, none⟩) 1 1) (w.alloc (.cells #[ev] e)) := by
  have hc : ev.cells = #[ev] := by cases ev <;> first | rfl | (simp [Value.oneCell'] at hev)
  have := run_lit1 T ev (by rw [hc]; rfl) (by omega) w
  rw [hc] at this
  exact this

/-- A slice literal of one element whose value is not looked into, at a list of operations. -/
theorem wpList_lit1 {P : Program} {w : World} {ops : Array Oper} {rest : List Oper} {o : Oper} {a : Act} {Q : Exit → Act → World → Prop} {t e : TypeId} {bytes : Nat} {z : Value} (T : ElemTy P t e 1 bytes z)
    (x : Operand) (hgd : o.guard = none) (ho : o.op = .buildSlice t 1 #[(0, x)]) {ev : Value} (hx : a.eval x = ev) (h1 : ev.oneCell' = true)
    (h : wpList P ops Q rest (a.put o.dst (.slice (some ⟨w.heap.size, 0, none⟩) 1 1)) (w.alloc (.cells #[ev] e))) : wpList P ops Q (o :: rest) a w := by
  refine wpList_plain hgd fun K hK => ?_
  unfold Oper.wp execOp
  simp only [ho, Sem.run_bind, List.map_toArray, List.map_cons, List.map_nil, hx, run_lit1_one T ev h1 w, Result.andThen_ok, Sem.run_pure]
  exact hK _ _ h

/-- Each value of a list is as R says of its place. -/
def AllAt (R : Nat → Value → Prop) (vs : List Value) : Prop := ∀ i v, vs[i]? = some v → R i v
theorem AllAt.nil (R : Nat → Value → Prop) : AllAt R [] := fun i v h => by simp at h
theorem AllAt.imp {R S : Nat → Value → Prop} {vs : List Value} (h : AllAt R vs) (hi : ∀ i v, R i v → S i v) : AllAt S vs := fun i v hv => hi i v (h i v hv)
theorem AllAt.at {R : Nat → Value → Prop} {vs : List Value} (h : AllAt R vs) {i : Nat} (hi : i < vs.length) : R i vs[i] := h i vs[i] (List.getElem?_eq_getElem hi)
theorem AllAt.snoc {R : Nat → Value → Prop} {vs : List Value} (h : AllAt R vs) {v : Value} (hv : R vs.length v) : AllAt R (vs ++ [v]) := by
  intro i x hx
  rw [List.getElem?_append] at hx
  split at hx
  · exact h i x hx
  · rename_i hge
    have : i - vs.length = 0 := by
      rcases Nat.eq_zero_or_pos (i - vs.length) with h0 | h0
      · exact h0
      · rw [List.getElem?_eq_none (by simp; omega)] at hx; cases hx
    rw [this] at hx
    simp at hx
    subst hx
    have : i = vs.length := by omega
    rw [this]; exact hv

theorem one1 {x : Value} (h : x.oneCell' = true) : ∀ u ∈ (#[x] : Array Value).toList, u.oneCell' = true := by
  intro u hu
  simp at hu
  subst hu
  exact h

theorem one2 {x y : Value} (h : x.oneCell' = true) (h' : y.oneCell' = true) : ∀ u ∈ (#[x, y] : Array Value).toList, u.oneCell' = true := by
  intro u hu
  simp at hu
  rcases hu with rfl | rfl
  · exact h
  · exact h'

/-- min and max of two ints, unparted. -/
theorem run_min_kept {P : Program} (ts : Array TypeId) (t : TypeId) (k : IntKind) (x y : Int) (w : World) : (Builtin.min_ ts t #[.int k x, .int k y]).run P w = .ok (.int k (min x y)) w := by
  rw [run_min_int2]
  congr 2
  omega
theorem run_max_kept {P : Program} (ts : Array TypeId) (t : TypeId) (k : IntKind) (x y : Int) (w : World) : (Builtin.max_ ts t #[.int k x, .int k y]).run P w = .ok (.int k (max x y)) w := by
  rw [run_max_int2]
  congr 2
  omega

/-- A result's two parts. -/
theorem ret_eq {a b : Value} (h : a = b) : Ending.returned a = .returned b := by rw [h]

end Go.Proofs.YtajghehicmlajaaDoor
