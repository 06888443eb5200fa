/- Abstract values: loads out of own blocks, own rows read and written, make, freezing, results that lie in cells. No statement of the seat. -/
import Derived.Test.YtajghehicmlajaaDoorA9
namespace Go.Proofs.YtajghehicmlajaaDoor
open Go.RowKit
set_option linter.unusedVariables false

section
variable {P : Program} {B : Nat} {ops : Array Oper} {o : Oper} {e : Env} {σ : Obs}

theorem ptr_at {F : Nat → Prop} {ρ : Nat → Value} {w : World} {v : Value} {id off g : Nat} (h : RepS F ρ w v (.ptr id off)) (hb : blk (ρ id) = some g) : v = .pointer (some ⟨g, off, none⟩) := by
  cases h with
  | ptr _ _ g' hg => rw [hb] at hg; rw [Option.some.inj hg]
theorem ptr_blk {F : Nat → Prop} {ρ : Nat → Value} {w : World} {v : Value} {id off : Nat} (h : RepS F ρ w v (.ptr id off)) : ∃ g, blk (ρ id) = some g ∧ v = .pointer (some ⟨g, off, none⟩) := by
  cases h with
  | ptr _ _ g' hg => exact ⟨g', hg, rfl⟩

theorem AOp.fieldAddrP {t : TypeId} {x : Operand} {f k id off : Nat} (ho : o.op = .fieldAddr t x f) (hf : fieldOff P t f = some k) (hx : e.ev x = .ptr id off) : AOp P B ops o e σ (.ptr id (off + k)) :=
  .value fun F ρ w a hF hr _ => by
  have h1 := hr x (by rw [ho]; simp [Op.operands])
  rw [hx] at h1
  obtain ⟨g, hb, hv⟩ := ptr_blk h1
  refine ⟨.pointer (some ⟨g, off + k, none⟩), F, w, ?_, .ptr id _ g hb, Ext.refl hF⟩
  unfold execOp
  simp only [ho, hv]
  rw [Sem.run_bind, fieldAt_run hf, addr_add]
  rfl

theorem AOp.loadP {t : TypeId} {x : Operand} {id off : Nat} {ss : List S} {s : S} (ho : o.op = .load t x) (hT : Scal P t) (hx : e.ev x = .ptr id off) (hm : (id, Ob.cells ss) ∈ σ) (hs : ss[off]? = some s) : AOp P B ops o e σ s :=
  .value fun F ρ w a hF hr hσ => by
  have h1 := hr x (by rw [ho]; simp [Op.operands])
  rw [hx] at h1
  obtain ⟨g, ty, cs, h2, h3, h4, h5, h6, h7⟩ := hσ.ok _ hm
  dsimp only at h2
  have hv := ptr_at h1 (g := g) (by rw [h2]; rfl)
  have hlt : off < ss.length := (List.getElem?_eq_some_iff.1 hs).1
  have hse : ss[off] = s := (List.getElem?_eq_some_iff.1 hs).2
  have hc : w.cell? ⟨g, off, none⟩ = some (cs[off]'(by omega)) := by
    rw [cell_of_row w g off cs.toArray ty (0, 0) h5]; simp [show off < cs.length by omega]
  refine ⟨cs[off]'(by omega), F, w, ?_, by rw [← hse]; exact (h7 off (by omega) hlt).2, Ext.refl hF⟩
  unfold execOp
  simp only [ho, hv, Instr.loadAt, Instr.sureAddr, loadVar, Sem.run_bind, Sem.run_pure, Result.andThen_ok, hT w, Bool.false_eq_true, if_false, run_load, hc]

/-- A struct, loaded whole out of an own block. -/
theorem AOp.loadPAgg {t : TypeId} {x : Operand} {id off size : Nat} {ss : List S} {ds : List D} (ho : o.op = .load t x) (hT : AggT P t size) (hx : e.ev x = .ptr id off) (hm : (id, Ob.cells ss) ∈ σ) (hs : (ss.drop off).take size = ds.map S.d) (hl : ds.length = size) :
    AOp P B ops o e σ (.d (.agg ds)) :=
  .value fun F ρ w a hF hr hσ => by
  have h1 := hr x (by rw [ho]; simp [Op.operands])
  rw [hx] at h1
  obtain ⟨g, ty, cs, h2, h3, h4, h5, h6, h7⟩ := hσ.ok _ hm
  dsimp only at h2
  have hv := ptr_at h1 (g := g) (by rw [h2]; rfl)
  have hlen : ((ss.drop off).take size).length = size := by rw [hs]; simpa using hl
  have hle : size = 0 ∨ off + size ≤ ss.length := by
    rw [List.length_take, List.length_drop] at hlen; omega
  have hl2 : ((cs.drop off).take size).length = size := by rw [List.length_take, List.length_drop]; omega
  have hcells : (loadCells ⟨g, off, none⟩ ((cs.drop off).take size).length).run P w = .ok ((cs.drop off).take size).toArray w := run_loadCells_list w _ _ (fun j v hj => by
    have hlt := (List.getElem?_eq_some_iff.1 hj).1
    rw [hl2] at hlt
    rw [addr_add, cell_of_row w g (off + j) cs.toArray ty (0, 0) h5, ← hj]
    simp [hlt])
  rw [hl2] at hcells
  refine ⟨.agg ((cs.drop off).take size).toArray, F, w, ?_, .d (.agg _ _ (by rw [hl2, hl]) (fun i hi => ?_) (fun i hi hi' => ?_)), Ext.refl hF⟩
  · unfold execOp
    simp only [ho, hv, Instr.loadAt, Instr.sureAddr, loadVar, Sem.run_bind, Sem.run_pure, Result.andThen_ok, hT.agg w, hT.size w, if_true, hcells]
  · rw [hl2] at hi
    rw [List.getElem_take, List.getElem_drop]
    exact (h7 (off + i) (by omega) (by omega)).1
  · rw [hl2] at hi
    rw [List.getElem_take, List.getElem_drop]
    have h8 := (h7 (off + i) (by omega) (by omega)).2
    have h9 : ((ss.drop off).take size)[i]? = (ds.map S.d)[i]? := by rw [hs]
    rw [List.getElem?_take, if_pos hi, List.getElem?_drop, List.getElem?_eq_getElem (by omega), List.getElem?_map, List.getElem?_eq_getElem hi'] at h9
    have h10 : ss[off + i] = S.d ds[i] := by simpa using h9
    rw [h10] at h8
    exact repS_d h8

def S.isD : S → Bool
  | .d _ => true
  | _ => false
def S.un : S → D
  | .d x => x
  | _ => .any
theorem map_un : ∀ {ss : List S}, ss.all S.isD = true → ss = (ss.map S.un).map S.d
  | [], _ => rfl
  | s :: ss, h => by
    simp only [List.all_cons, Bool.and_eq_true] at h
    cases s with
    | d x => simp only [List.map_cons, S.un]; rw [← map_un h.2]
    | own i => simp [S.isD] at h
    | ptr i off => simp [S.isD] at h
    | clo f caps => simp [S.isD] at h
theorem AOp.loadPU {t : TypeId} {x : Operand} {id off size : Nat} {ss : List S} (ho : o.op = .load t x) (hT : AggT P t size) (hx : e.ev x = .ptr id off) (hm : (id, Ob.cells ss) ∈ σ) (hs : ((ss.drop off).take size).all S.isD = true) (hl : ((ss.drop off).take size).length = size) :
    AOp P B ops o e σ (.d (.agg (((ss.drop off).take size).map S.un))) := .loadPAgg ho hT hx hm (map_un hs) (by simpa using hl)

/-- The address of an own row's element. -/
theorem AOp.indexOwn {t el : TypeId} {x ix : Operand} {size bytes id : Nat} {z : Value} {n : Int} {els : List (List D)} (ho : o.op = .indexAddr t x ix) (T : ElemTy P t el size bytes z) (hx : e.ev x = .own id) (hi : e.ev ix = .d (.v (.int .i64 n)))
    (hm : (id, Ob.row el size els) ∈ σ) (k : Nat) (hk : n = k) (hlt : k < els.length) : AOp P B ops o e σ (.ptr id (k * size)) :=
  .value fun F ρ w a hF hr hσ => by
  have h1 := hr x (by rw [ho]; simp [Op.operands])
  have h2 := hr ix (by rw [ho]; simp [Op.operands])
  rw [hx] at h1
  rw [hi] at h2
  have hv2 := repS_v h2
  obtain ⟨xs, h3, h4, h5, h6⟩ := hσ.ok _ hm
  dsimp only at h3
  have hv : a.eval x = ρ id := by generalize a.eval x = v at h1; cases h1; rfl
  rcases h3.2 with ⟨_, h7⟩ | ⟨g, cap, cur, h7, _⟩
  · omega
  · refine ⟨.pointer (some ⟨g, k * size, none⟩), F, w, ?_, .ptr id _ g (by rw [h7]; rfl), Ext.refl hF⟩
    unfold execOp
    simp only [ho, hv, h7, hv2, hk]
    have hp : 0 ≤ (k : Int) ∧ (k : Int) < (els.length : Int) := ⟨by omega, by omega⟩
    simp [Instr.indexAt, run_underlying T.ht, asIntOf, hlt, T.sizeOf, addr_add]

theorem row_cell {w : World} {g e size n cap : Nat} {v : Value} {cur : Array Value} {xs : Nat → Nat → Value} {B : Nat} (h : w.ownsRow B e size v n (flat xs n size)) (hv : v = .slice (some ⟨g, 0, none⟩) n cap) (_ : w.heap[g]? = some (.cells cur e (0, 0))) {k j : Nat} (hk : k < n) (hj : j < size) :
    w.cell? ⟨g, k * size + j, none⟩ = some (xs k j) := by
  have h1 := World.ownsRow.cells h (g := g) (by rw [hv]; rfl) (k * size + j) (xs k j) (flatten_get xs size n k j hk hj)
  rw [addr_add, Nat.zero_add] at h1
  exact h1

/-- An element's one cell (or a field's), loaded out of an own row. -/
theorem AOp.loadRow {t : TypeId} {x : Operand} {id off ee size : Nat} {els : List (List D)} {ds : List D} {d : D} (ho : o.op = .load t x) (hT : Scal P t) (hx : e.ev x = .ptr id off) (hm : (id, Ob.row ee size els) ∈ σ) (k j : Nat) (hoff : off = k * size + j) (hk : els[k]? = some ds) (hd : ds[j]? = some d) :
    AOp P B ops o e σ (.d d) :=
  .value fun F ρ w a hF hr hσ => by
  have h1 := hr x (by rw [ho]; simp [Op.operands])
  rw [hx] at h1
  obtain ⟨xs, h3, h4, h5, h6⟩ := hσ.ok _ hm
  dsimp only at h3
  have hlt : k < els.length := (List.getElem?_eq_some_iff.1 hk).1
  have hde : els[k] = ds := (List.getElem?_eq_some_iff.1 hk).2
  have hjl : j < ds.length := (List.getElem?_eq_some_iff.1 hd).1
  have hdd : ds[j] = d := (List.getElem?_eq_some_iff.1 hd).2
  have hsz := h4 k hlt
  rw [hde] at hsz
  rcases h3.2 with ⟨_, h7⟩ | ⟨g, cap, cur, h7, _, h8, _⟩
  · omega
  · have hv := ptr_at h1 (g := g) (by rw [h7]; rfl)
    have hc := row_cell h3 h7 h8 hlt (show j < size by omega)
    have hrep := (h5 k hlt j (by rw [hde]; exact hjl)).2
    refine ⟨xs k j, F, w, ?_, .d ?_, Ext.refl hF⟩
    · unfold execOp
      simp only [ho, hv, hoff, Instr.loadAt, Instr.sureAddr, loadVar, Sem.run_bind, Sem.run_pure, Result.andThen_ok, hT w, Bool.false_eq_true, if_false, run_load, hc]
    · simp only [hde, hdd] at hrep
      exact hrep
end

section
variable {cx : Cx} {ops : Array Oper} {o : Oper} {rest : List Oper} {e : Env} {σ : Obs} {Q : Post}
/-- make([]T, n): an own row of zeros. -/
theorem AOps.make {t el : TypeId} {l c : Operand} {size bytes dst : Nat} {z : Value} {n : Nat} (id : Nat) (hg : o.guard = none) (ht : o.dst = some dst) (hdn : Nat.blt dst cx.N = true) (ho : o.op = .makeSlice t l c) (T : ElemTy cx.P t el size bytes z)
    (hl : e.ev l = .d (.v (.int .i64 n))) (hc : e.ev c = .d (.v (.int .i64 n))) (hb : bytes * n ≤ 281474976710656) (hn : n ≤ 9223372036854775807) (h1 : z.cells.toList.all (·.oneCell') = true) (hid : Obs.fresh id σ = true)
    (k : AOps cx ops rest ((e.kill id).put (some dst) (.own id)) ((id, .row el size (List.replicate n (z.cells.toList.map D.v))) :: Obs.kill id σ) Q) (hfx : cx.free id = true := by rfl) : AOps cx ops (o :: rest) e σ Q := by
  intro a w ⟨F, ρ, hr⟩
  have hdn' : dst < cx.N := by simpa [Nat.blt_eq] using hdn
  have r1 := ev_rep (e := e) (x := l) (a := a) (fun t _ => hr.env t)
  have r2 := ev_rep (e := e) (x := c) (a := a) (fun t _ => hr.env t)
  rw [hl] at r1
  rw [hc] at r2
  refine wpList_mk T l c hg ho (repS_v r1) (repS_v r2) hb hn ?_
  rw [ht]
  refine k _ _ ⟨F, fun j => if j = id then .slice (some ⟨w.heap.size, 0, none⟩) n n else ρ j, ?_⟩
  have hE : Ext F w F (w.alloc (.cells (madeCells z.cells (n * size)) el)) := Ext.of_below hr.lt ((Below.refl _ _).alloc (Nat.le_refl _) _)
  have hzl : z.cells.toList.length = size := by rw [Array.length_toList]; exact T.hz
  have hone : ∀ u ∈ z.cells.toList, u.oneCell' = true := List.all_eq_true.1 h1
  have h2 := hr.turn (ρ' := fun j => if j = id then .slice (some ⟨w.heap.size, 0, none⟩) n n else ρ j) (id := id) (ob := .row el size (List.replicate n (z.cells.toList.map D.v))) (row := none) (w' := w.alloc (.cells (madeCells z.cells (n * size)) el)) (F' := F) (fun j hj => by simp [hj])
    ⟨hE.below.os, hE.below.tape, hE.below.output, hE.below.size, fun k hk _ => hE.below.block k hk⟩ hfx (fun g hg => by simp at hg) (fun b hb => hb) (fun b hb => .inl hb) hE.lt
    ⟨fun _ j => z.cells.toList.getD j undef, by
      have h3 := owns_made (w := w) (B := cx.B) (e := el) (z := z) (size := size) hr.hB hn
      have h4 : (madeCells z.cells (n * size)).toList = flat (fun _ j => z.cells.toList.getD j undef) n size := by
        apply List.ext_getElem?
        intro q
        have hs0 : 0 < size := T.hs
        by_cases hq : q < n * size
        · have e1 : q = (q / size) * size + q % size := by rw [Nat.mul_comm]; exact (Nat.div_add_mod q size).symm
          have hlt1 : q / size < n := Nat.div_lt_of_lt_mul (by rw [Nat.mul_comm]; exact hq)
          have hlt2 : q % size < size := Nat.mod_lt _ hs0
          have h6 := flatten_get (fun _ j => z.cells.toList.getD j undef) size n (q / size) (q % size) hlt1 hlt2
          rw [← e1] at h6
          rw [show flat (fun _ j => z.cells.toList.getD j undef) n size = _ from rfl]
          unfold flat
          rw [h6]
          have hzs : z.cells.size = size := T.hz
          simp [madeCells, hq, hzs, List.getD_eq_getElem?_getD, hlt2]
        · rw [List.getElem?_eq_none (by simp [madeCells]; omega), List.getElem?_eq_none (by rw [flat_length]; omega)]
      rw [h4] at h3
      simp only [if_true, List.length_replicate]
      exact h3, fun i hi => by rw [List.getElem_replicate]; simpa using hzl, fun i hi j hj => by
      rw [List.getElem_replicate] at hj
      simp only [List.length_map] at hj
      simp only [List.getElem_replicate, List.getElem_map, List.getD_eq_getElem?_getD, List.getElem?_eq_getElem hj, Option.getD_some]
      exact ⟨hone _ (List.getElem_mem hj), .v _⟩, fun g hg hf => by
      simp only [if_true, blk, Option.some.injEq] at hg
      have := hr.lt g hf
      omega⟩
    (fun g hg => by simp only [if_true, blk, Option.some.injEq] at hg; exact .inr (by omega)) ((id, .row el size (List.replicate n (z.cells.toList.map D.v))) :: Obs.kill id σ) (fun p hp => by
      cases hp with
      | head => exact .inl rfl
      | tail _ hp => obtain ⟨q, hq, rfl⟩ := Obs.mem_kill hp; exact .inr ⟨q, hq, Obs.fresh_spec hid q hq, rfl⟩)
  have h3 := h2.put (o := ⟨some dst, .ready 0, 0, "", #[], none⟩) (v := .slice (some ⟨w.heap.size, 0, none⟩) n n) (s := .own id) (Ext.refl h2.lt) (by
      have := RepS.own (F := F) (ρ := fun j => if j = id then Value.slice (some ⟨w.heap.size, 0, none⟩) n n else ρ j) (w := w.alloc (.cells (madeCells z.cells (n * size)) el)) id
      simpa using this) (by simpa [DstOk, Nat.blt_eq] using hdn')
  exact h3
end

/-- An own row is written no more: it is data now. -/
theorem R0.freeze {cx : Cx} {F : Nat → Prop} {ρ : Nat → Value} {e : Env} {σ : Obs} {a : Act} {w : World} (h : R0 cx F ρ e σ a w) {t id ee size : Nat} {els : List (List D)} (ht : e t = .own id) (hm : (id, Ob.row ee size els) ∈ σ) :
    ∃ F', R0 cx F' ρ (e.put (some t) (.d (.sl els))) (Obs.del id σ) a w := by
  have hF2 : ∀ b, (F b ∨ blk (ρ id) = some b) → b < w.heap.size := fun b hb => by
    rcases hb with hb | hb
    · exact h.lt b hb
    · exact ((h.obs.ok _ hm).blk_lt hb).2
  refine ⟨fun b => F b ∨ blk (ρ id) = some b, h.size, h.defers, hF2, fun b hb => .inl (h.base b hb), fun b hb => ?_, h.below, h.hB, fun u => ?_, ?_, h.up, fun p hp => h.kown p (Obs.mem_del hp).1, h.fixed⟩
  · rcases hb with hb | hb
    · exact h.new b hb
    · exact .inr (h.kown _ hm b hb)
  · by_cases hu : u = t
    · subst hu
      rw [Env.put_same]
      have h1 := h.env u
      rw [ht] at h1
      generalize a.tmps.getD u undef = x at h1
      cases h1
      exact .d (h.rep_row hm (fun b hb => .inl hb) (fun g hg => .inr hg))
    · rw [Env.put_other _ _ _ _ hu]
      exact RepS.turn (row := none) (h.env u) h.lt (fun g hg => by simp at hg) ⟨rfl, rfl, rfl, Nat.le_refl _, fun _ _ _ => rfl⟩ (fun b hb => .inl hb)
  · refine ⟨fun p hp => ?_, fun p hp q hq => h.obs.apart p (Obs.mem_del hp).1 q (Obs.mem_del hq).1, fun p hp q hq => h.obs.uniq p (Obs.mem_del hp).1 q (Obs.mem_del hq).1⟩
    obtain ⟨h1, h2⟩ := Obs.mem_del hp
    have h3 := h.obs.ok p h1
    have hne : ∀ g, blk (ρ p.1) = some g → blk (ρ id) ≠ some g := fun g hg => h.obs.apart p h1 _ hm h2 g hg
    have keep : ∀ {x : Value} {s : S}, RepS F ρ w x s → RepS (fun b => F b ∨ blk (ρ id) = some b) ρ w x s := fun hx =>
      RepS.turn (row := none) hx h.lt (fun g hg => by simp at hg) ⟨rfl, rfl, rfl, Nat.le_refl _, fun _ _ _ => rfl⟩ (fun b hb => .inl hb)
    obtain ⟨i, ob⟩ := p
    cases ob with
    | row ee2 size2 els2 =>
      obtain ⟨xs, h4, h5, h6, h7⟩ := h3
      exact ⟨xs, h4, h5, fun k hk j hj => ⟨(h6 k hk j hj).1, repS_d (keep (.d (h6 k hk j hj).2))⟩, fun g hg hf => by
        rcases hf with hf | hf
        · exact h7 g hg hf
        · exact hne g hg hf⟩
    | cells ss =>
      obtain ⟨g, ty, cs, h4, h5, h6, h7, h8, h9⟩ := h3
      exact ⟨g, ty, cs, h4, h5, fun hf => by
        rcases hf with hf | hf
        · exact h6 hf
        · exact hne g (by rw [h4]; rfl) hf, h7, h8, fun j hj hj' => ⟨(h9 j hj hj').1, keep (h9 j hj hj').2⟩⟩
    | map M =>
      obtain ⟨g, es, cl, h4, h5, h6, h7, h8, h9⟩ := h3
      exact ⟨g, es, cl, h4, h5, fun hf => by
        rcases hf with hf | hf
        · exact h6 hf
        · exact hne g (by rw [h4]; rfl) hf, h7, h8, fun j hj hj' => ⟨(h9 j hj hj').1, repS_d (keep (.d (h9 j hj hj').2))⟩⟩
    | rowS ee2 size2 els2 =>
      obtain ⟨xs, h4, h5, h6, h7⟩ := h3
      exact ⟨xs, h4, h5, fun k hk j hj => ⟨(h6 k hk j hj).1, keep (h6 k hk j hj).2⟩, fun g hg hf => by
        rcases hf with hf | hf
        · exact h7 g hg hf
        · exact hne g hg hf⟩
theorem AWP.freeze {cx : Cx} {c : Code} {e : Env} {σ : Obs} {Q : Post} (t : Nat) {id ee size : Nat} {els : List (List D)} (ht : e t = .own id) (hm : (id, Ob.row ee size els) ∈ σ) (k : AWP cx c (e.put (some t) (.d (.sl els))) (Obs.del id σ) Q) : AWP cx c e σ Q :=
  fun a w ⟨_, ρ, hr⟩ => by
    obtain ⟨F', h⟩ := hr.freeze ht hm
    exact k a w ⟨F', ρ, h⟩
theorem AOps.freeze {cx : Cx} {ops : Array Oper} {rest : List Oper} {e : Env} {σ : Obs} {Q : Post} (t : Nat) {id ee size : Nat} {els : List (List D)} (ht : e t = .own id) (hm : (id, Ob.row ee size els) ∈ σ) (k : AOps cx ops rest (e.put (some t) (.d (.sl els))) (Obs.del id σ) Q) : AOps cx ops rest e σ Q :=
  fun a w ⟨_, ρ, hr⟩ => by
    obtain ⟨F', h⟩ := hr.freeze ht hm
    exact k a w ⟨F', ρ, h⟩
end Go.Proofs.YtajghehicmlajaaDoor
