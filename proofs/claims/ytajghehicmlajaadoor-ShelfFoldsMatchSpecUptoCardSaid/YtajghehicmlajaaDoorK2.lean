/- More general words for the walks: append of a slice that is read, make, stores into an own row, literals of several elements, append of a make (slices.Grow), loads of structs. -/
import Derived.Test.YtajghehicmlajaaDoorK
import Derived.Laws.AppendOwnNone
namespace Go.Proofs.YtajghehicmlajaaDoor
open Go.RowKit

section
variable {P : Program} {W w : World} {ops : Array Oper} {rest : List Oper} {o : Oper} {a : Act} {Q : Exit → Act → World → Prop} {t e : TypeId} {size bytes : Nat} {z : Value}

/-- append(own, x...), x any slice that reads as ys. -/
theorem wpList_cat (T : ElemTy P t e size bytes z) (s x : Operand) (hgd : o.guard = none) (ho : o.op = .call { callee := .builtin .append, args := #[s, x], argTypes := #[t, t] })
    {B n m : Nat} {v vx : Value} {xs ys : List Value} (hown : w.ownsRow B e size v n xs) (hs : a.eval s = v) (hx : a.eval x = vx) (hsl : Sl w size vx m ys)
    (h1 : ∀ u ∈ ys, u.oneCell' = true) (hbytes : (n + m) * bytes ≤ 140737488355328) (hn : n + m ≤ 9223372036854775807) (hb : Below B W w) (hB : B ≤ w.heap.size)
    (h : ∀ v' w', w'.ownsRow B e size v' (n + m) (xs ++ ys) → Below B W w' → B ≤ w'.heap.size → w.grownBy w' v.ownBlock → wpList P ops Q rest (a.put o.dst v') w') :
    wpList P ops Q (o :: rest) a w := by
  obtain ⟨i, hi, hz0, hz1, hz2⟩ := info_parts T.hi
  rcases hsl.2 with ⟨rfl, rfl⟩ | ⟨ad, cap, rfl, _, _, hc⟩
  · have hys : ys = [] := List.eq_nil_of_length_eq_zero (by simpa using hsl.1)
    subst hys
    refine wpList_append_own_none hgd s x t ho B e i size T.ht hi v n xs hs hown hx ?_
    have := h v w (by simpa using hown) hb hB ⟨rfl, rfl, rfl, Nat.le_refl _, fun _ _ _ => rfl⟩
    exact this
  · refine wpList_append_own _ hgd s x t ho B e i z size bytes T.ht hi hz0 hz1 hz2 T.hz T.hs v n xs hs hown ad m cap ys hx hsl.1 ?_ h1 (by unfold maxLen; omega) hbytes hB ?_
    · intro j u hj
      have hlt := (List.getElem?_eq_some_iff.1 hj).1
      rw [hc j hlt, ← hj, List.getElem?_eq_getElem hlt]
    · intro v' w' h2 h3 _
      have hb2 : Below B W w' := hb.grown h3 hB (fun k hk => (World.ownsRow.lt hown k hk).1)
      exact h v' w' h2 hb2 (Nat.le_trans hB h3.size) h3

/-- make([]T, n). -/
theorem wpList_mk (T : ElemTy P t e size bytes z) (l c : Operand) (hgd : o.guard = none) (ho : o.op = .makeSlice t l c) {n : Nat} (hl : a.eval l = .int .i64 n) (hc : a.eval c = .int .i64 n)
    (hbytes : bytes * n ≤ 281474976710656) (hn : n ≤ 9223372036854775807)
    (h : wpList P ops Q rest (a.put o.dst (.slice (some ⟨w.heap.size, 0, none⟩) n n)) (w.alloc (.cells (madeCells z.cells (n * size)) e))) :
    wpList P ops Q (o :: rest) a w := by
  obtain ⟨i, hi, hz0, hz1, hz2⟩ := info_parts T.hi
  refine wpList_plain hgd fun K hK => ?_
  have hb' : (i.bytes : Int) * (n : Int) ≤ 281474976710656 := by
    rw [hz2]
    have h : ((bytes * n : Nat) : Int) ≤ 281474976710656 := by omega
    rwa [Int.natCast_mul] at h
  have hr := run_make (P := P) w t e i z T.ht hi hz0 .i64 .i64 n n (by omega) (Int.le_refl _) hb' (by omega)
  rw [Int.toNat_natCast, hz1] at hr
  unfold Oper.wp execOp
  simp only [ho, Sem.run_bind, hl, hc, hr, Result.andThen_ok, Sem.run_pure]
  exact hK _ _ h

/-- A slice literal of three elements of one cell. -/
theorem wpList_lit3 (T : ElemTy P t e 1 bytes z) (x y q : Operand) (hgd : o.guard = none) (ho : o.op = .buildSlice t 3 #[(0, x), (1, y), (2, q)]) {u1 u2 u3 : Value}
    (h1 : a.eval x = u1) (h2 : a.eval y = u2) (h3 : a.eval q = u3) (k1 : u1.oneCell' = true) (k2 : u2.oneCell' = true) (k3 : u3.oneCell' = true)
    (h : wpList P ops Q rest (a.put o.dst (.slice (some ⟨w.heap.size, 0, none⟩) 3 3)) (w.alloc (.cells #[u1, u2, u3] e))) : wpList P ops Q (o :: rest) a w := by
  obtain ⟨i, hi, hz0, hz1, hz2⟩ := info_parts T.hi
  have hc : ∀ u : Value, u.oneCell' = true → u.cells = #[u] := by intro u hu; cases u <;> first | rfl | (simp [Value.oneCell'] at hu)
  have hr : (Instr.buildSlice t 3 #[(0, u1), (1, u2), (2, u3)]).run P w = .ok (.slice (some ⟨w.heap.size, 0, none⟩) 3 3) (w.alloc (.cells #[u1, u2, u3] e)) := by
    unfold Instr.buildSlice
    simp [run_underlying T.ht, T.sizeOf, zeroValue, typeInfo, hi, hz0, Instr.fill, hc u1 k1, hc u2 k2, hc u3 k3, newRow, Array.range, Array.ofFn_succ]
  refine wpList_plain hgd fun K hK => ?_
  unfold Oper.wp execOp
  simp only [ho, Sem.run_bind, List.map_toArray, List.map_cons, List.map_nil, h1, h2, h3, hr, Result.andThen_ok, Sem.run_pure]
  exact hK _ _ h

/-- The load of a struct (or an array) whole. -/
theorem wpList_loadAgg (x : Operand) (hgd : o.guard = none) (ho : o.op = .load t x) {ad : Addr} (hx : a.eval x = .pointer (some ad)) {cs : List Value}
    (hagg : (isAgg t).run P w = .ok true w) (hsz : (P.info? t).map (·.size) = some cs.length) (hc : Cells w ad cs)
    (h : wpList P ops Q rest (a.put o.dst (.agg cs.toArray)) w) : wpList P ops Q (o :: rest) a w := by
  refine wpList_plain hgd fun K hK => ?_
  obtain ⟨i, hi, hz⟩ := Option.map_eq_some_iff.1 hsz
  have hl : (loadCells ad cs.length).run P w = .ok cs.toArray w :=
    run_loadCells_list w ad cs (fun j v hj => by
      have hlt := (List.getElem?_eq_some_iff.1 hj).1
      rw [hc j hlt, ← hj, List.getElem?_eq_getElem hlt])
  unfold Oper.wp execOp
  simp [ho, hx, Instr.loadAt, Instr.sureAddr, loadVar, hagg, sizeOf, typeInfo, hi, hz, hl]
  exact hK _ _ h
end

/-- What a made slice owns. -/
theorem owns_made {w : World} {B e n size : Nat} {z : Value} (hB : B ≤ w.heap.size) (hn : n ≤ 9223372036854775807) :
    (w.alloc (.cells (madeCells z.cells (n * size)) e)).ownsRow B e size (.slice (some ⟨w.heap.size, 0, none⟩) n n) n (madeCells z.cells (n * size)).toList :=
  ⟨by simp [madeCells], .inr ⟨w.heap.size, n, _, rfl, hB, heap_alloc_new w _, Nat.le_refl _, by unfold maxLen; omega, by simp [madeCells], List.take_of_length_le (by simp [madeCells])⟩⟩

/-- A row of one-cell elements in a block of the call's own, known whole. -/
def Row (w : World) (g e : Nat) (xs : List Value) : Prop := w.heap[g]? = some (.cells xs.toArray e (0, 0))

theorem Row.cell {w : World} {g e : Nat} {xs : List Value} (h : Row w g e xs) {i : Nat} (hi : i < xs.length) : w.cell? ⟨g, i, none⟩ = some xs[i] := by
  rw [cell_of_row w g i xs.toArray e (0, 0) h]
  simp [hi]
theorem Row.free {w : World} {g e : Nat} {xs : List Value} (h : Row w g e xs) (i : Nat) : w.frozen? ⟨g, i, none⟩ = false := by
  have h' : w.heap[g]? = some (.cells xs.toArray e (0, 0)) := h
  unfold World.frozen?
  rw [h']
  simp
theorem Row.set {w : World} {g e : Nat} {xs : List Value} (h : Row w g e xs) (i : Nat) (u : Value) : Row (w.setCell ⟨g, i, none⟩ u) g e (xs.set i u) := by
  have h' : w.heap[g]? = some (.cells xs.toArray e (0, 0)) := h
  unfold Row World.setCell
  simp [Array.getElem?_modify, h']
theorem Row.below {B : Nat} {w w' : World} {g e : Nat} {xs : List Value} (h : Row w g e xs) (hb : Below B w w') (hB : g < B) : Row w' g e xs := by
  unfold Row; rw [hb.block g hB]; exact h
theorem Row.owns {w : World} {B g e : Nat} {xs : List Value} (h : Row w g e xs) (hB : B ≤ g) (hn : xs.length ≤ 9223372036854775807) : w.ownsRow B e 1 (.slice (some ⟨g, 0, none⟩) xs.length xs.length) xs.length xs :=
  ⟨by simp, .inr ⟨g, xs.length, xs.toArray, rfl, hB, h, Nat.le_refl _, by unfold maxLen; omega, by simp, by simp⟩⟩
theorem Row.made {w : World} {e : Nat} (z : Value) (n : Nat) (hz : z.oneCell' = true) : Row (w.alloc (.cells (madeCells z.cells (n * 1)) e)) w.heap.size e (List.replicate n z) := by
  have hc : z.cells = #[z] := by cases z <;> first | rfl | (simp [Value.oneCell'] at hz)
  unfold Row
  rw [heap_alloc_new]
  congr 2
  apply Array.ext
  · simp [madeCells]
  · intro i h1 h2
    simp [madeCells, hc, Nat.mod_one]
theorem Row.lt {w : World} {g e : Nat} {xs : List Value} (h : Row w g e xs) : g < w.heap.size := (Array.getElem?_eq_some_iff.1 h).1

/-- make([]T, n) at elements of one cell: the new row, its world unnamed. -/
theorem wpList_mkRow {P : Program} {W w : World} {ops : Array Oper} {rest : List Oper} {o : Oper} {a : Act} {Q : Exit → Act → World → Prop} {t e : TypeId} {bytes : Nat} {z : Value}
    (T : ElemTy P t e 1 bytes z) (l c : Operand) (hgd : o.guard = none) (ho : o.op = .makeSlice t l c) {n B : Nat} (hl : a.eval l = .int .i64 n) (hc : a.eval c = .int .i64 n)
    (hz : z.oneCell' = true) (hbytes : bytes * n ≤ 281474976710656) (hn : n ≤ 9223372036854775807) (hb : Below B W w) (hB : B ≤ w.heap.size)
    (h : ∀ w', Row w' w.heap.size e (List.replicate n z) → Below B W w' → w'.heap.size = w.heap.size + 1 → wpList P ops Q rest (a.put o.dst (.slice (some ⟨w.heap.size, 0, none⟩) n n)) w') :
    wpList P ops Q (o :: rest) a w :=
  wpList_mk T l c hgd ho hl hc hbytes hn (h _ (Row.made z n hz) (hb.alloc hB _) (by simp))

/-- append(nil, make([]T, n)...) at one-cell elements: what it leaves. -/
theorem run_append_mk {P : Program} {w : World} {t k e : TypeId} {bytes : Nat} {z : Value} (T : ElemTy P t e 1 bytes z) (hk : P.underlying k = some (.int .i64)) (ty : TypeId) (n : Nat) (h0 : 0 < n) (hb : n * bytes ≤ 140737488355328) (h63 : n ≤ 9223372036854775807) :
    ∃ c cur, n ≤ c ∧ c ≤ 9223372036854775807 ∧ cur.size = c ∧ (Builtin.append_ #[t, k] ty #[.slice none 0 0, .int .i64 n]).run P w = .ok (.slice (some ⟨w.heap.size, 0, none⟩) n c) (w.drew.alloc (.cells cur e)) := by
  obtain ⟨i, hi, hz0, hz1, hz2⟩ := info_parts T.hi
  have hzc := T.hz
  have hge := grownCap_ge w n 0 e
  have hle := grownCap_le_maxLen w n 0 e (by unfold maxLen; omega)
  refine ⟨grownCap w n 0 e, #[] ++ Builtin.zeroCells z.cells n ++ Builtin.zeroCells z.cells (grownCap w n 0 e - n), hge, by unfold maxLen at hle; omega, by simp [Builtin.zeroCells, hzc]; omega, ?_⟩
  have w1 : IntKind.i64.wrap (n : Int) = n := by rw [IntKind.wrap_i64]; omega
  have n1 : ¬ ((n : Int) < 0) := by omega
  have n2 : ¬ (281474976710656 < (n : Int) * (bytes : Int)) := by
    have h : ((n * bytes : Nat) : Int) ≤ 140737488355328 := by omega
    rw [Int.natCast_mul] at h
    omega
  have n3 : ¬ (n = 0) := by omega
  have n4 : ¬ (9223372036854775807 < (n : Int)) := by omega
  have n5 : ¬ (281474976710656 < Builtin.nextslicecap n 0 * bytes) := by
    have := growslice_fits (need := n) (old := 0) (bytes := bytes) h0 hb
    omega
  have hq : (Question.appendCap n 0 e).forced = false := rfl
  simp [Builtin.append_, run_underlying T.ht, run_underlying hk, sizeOf, typeInfo, hi, hz1, hz2, asInt, asIntOf, w1, n1, n2, n3, n4, n5, IntKind.max, IntKind.signed, IntKind.bits, hq, zeroValue, hz0, Builtin.firstCells, newRow, askRoom, grownCap, Question.cut]


/-- append(nil, make([]T, n)...), at a list of operations. -/
theorem wpList_appendMk {P : Program} {W w : World} {ops : Array Oper} {rest : List Oper} {o : Oper} {a : Act} {Q : Exit → Act → World → Prop} {t k e : TypeId} {bytes : Nat} {z : Value}
    (T : ElemTy P t e 1 bytes z) (hk : P.underlying k = some (.int .i64)) (s x : Operand) (hgd : o.guard = none) (ho : o.op = .call { callee := .builtin .append, args := #[s, x], argTypes := #[t, k] }) {n B : Nat}
    (hs : a.eval s = .slice none 0 0) (hx : a.eval x = .int .i64 n) (h0 : 0 < n) (hb : n * bytes ≤ 140737488355328) (h63 : n ≤ 9223372036854775807) (hbel : Below B W w) (hB : B ≤ w.heap.size)
    (h : ∀ c w', n ≤ c → 0 < c → c ≤ 9223372036854775807 → w'.ownsRow w.heap.size e 1 (.slice (some ⟨w.heap.size, 0, none⟩) 0 c) 0 [] → Below B W w' → w'.heap.size = w.heap.size + 1 → wpList P ops Q rest (a.put o.dst (.slice (some ⟨w.heap.size, 0, none⟩) n c)) w') :
    wpList P ops Q (o :: rest) a w := by
  obtain ⟨c, cur, hc1, hc2, hc3, hr⟩ := run_append_mk (P := P) (w := w) T hk o.type n h0 hb h63
  refine wpList_plain hgd fun K hK => ?_
  unfold Oper.wp execOp
  simp only [ho, resolve, invoke, builtin, Sem.run_bind, Sem.run_pure, Result.andThen_ok, List.map_toArray, List.map_cons, List.map_nil, hs, hx, hr]
  exact hK _ _ (h c _ hc1 (by omega) hc2 (World.ownsRow_made w.drew cur c (Nat.le_refl _) (by unfold maxLen; omega) (by rw [hc3]; omega)) (hbel.drew.alloc (by simpa using hB) _) (by simp))

end Go.Proofs.YtajghehicmlajaaDoor
