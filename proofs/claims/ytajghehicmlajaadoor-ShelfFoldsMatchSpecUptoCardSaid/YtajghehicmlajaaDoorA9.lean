/- Abstract values: own blocks of cells: alloc, box, load, store; results that lie in cells. No statement of the seat. -/
import Derived.Test.YtajghehicmlajaaDoorA8
namespace Go.Proofs.YtajghehicmlajaaDoor
open Go.RowKit
set_option linter.unusedVariables false

theorem setCell_turn (w : World) (g off : Nat) (v : Value) : Turn w (w.setCell ⟨g, off, none⟩ v) (some g) :=
  ⟨rfl, rfl, rfl, by simp [World.setCell], fun k _ hne => Below.heap_setCell w ⟨g, off, none⟩ v k (fun e => hne (by rw [e]))⟩
theorem Turn.trans {a b c : World} {row : Option Nat} (h : Turn a b row) (k : Turn b c row) : Turn a c row :=
  ⟨k.os.trans h.os, k.tape.trans h.tape, k.output.trans h.output, Nat.le_trans h.size k.size, fun i hi hne => (k.block i (Nat.lt_of_lt_of_le hi h.size) hne).trans (h.block i hi hne)⟩

/-- Cells stored one after another into a block that is not frozen. -/
theorem storeCells_run {P : Program} {g : Nat} {e : TypeId} (off : Nat) : ∀ (vs : List Value) (i : Nat) (w : World) (cur : List Value), w.heap[g]? = some (.cells cur.toArray e (0, 0)) → off + i + vs.length ≤ cur.length → (∀ v ∈ vs, v.oneCell' = true) →
    ∃ w', (storeCells ⟨g, off, none⟩ vs i).run P w = .ok () w' ∧ Turn w w' (some g) ∧ w'.heap[g]? = some (.cells (cur.take (off + i) ++ vs ++ cur.drop (off + i + vs.length)).toArray e (0, 0))
  | [], i, w, cur, h, _, _ => ⟨w, rfl, ⟨rfl, rfl, rfl, Nat.le_refl _, fun _ _ _ => rfl⟩, by simpa using h⟩
  | v :: vs, i, w, cur, h, hl, h1 => by
    simp only [List.length_cons] at hl
    have hc : w.cell? ⟨g, off + i, none⟩ = some (cur[off + i]'(by omega)) := by
      rw [cell_of_row w g (off + i) cur.toArray e (0, 0) h]; simp [show off + i < cur.length by omega]
    have hf : w.frozen? ⟨g, off + i, none⟩ = false := by unfold World.frozen?; rw [h]; simp
    have hset : (w.setCell ⟨g, off + i, none⟩ v).heap[g]? = some (.cells (cur.set (off + i) v).toArray e (0, 0)) := by
      unfold World.setCell
      simp [Array.getElem?_modify, h]
    obtain ⟨w', h2, h3, h4⟩ := storeCells_run (P := P) (g := g) (e := e) off vs (i + 1) _ (cur.set (off + i) v) hset (by simp; omega) (fun u hu => h1 u (List.mem_cons_of_mem _ hu))
    refine ⟨w', ?_, (setCell_turn w g (off + i) v).trans h3, ?_⟩
    · simp only [storeCells, Sem.run_bind, addr_add, run_store P w _ v _ (h1 v (by simp)), hc, hf, Bool.false_eq_true, if_false, Result.andThen_ok]
      exact h2
    · rw [h4]
      congr 3
      have hn : off + i < cur.length := by omega
      apply List.ext_getElem?
      intro k
      rw [get3, get3]
      simp only [List.length_take, List.length_set, List.length_cons, Nat.min_eq_left (show off + (i + 1) ≤ cur.length by omega), Nat.min_eq_left (show off + i ≤ cur.length by omega)]
      by_cases k1 : k < off + i
      · rw [if_pos (by omega), if_pos k1, List.getElem?_take, List.getElem?_take, if_pos (by omega), if_pos k1, List.getElem?_set, if_neg (by omega)]
      · by_cases k2 : k = off + i
        · subst k2
          rw [if_pos (by omega), if_neg (by omega), if_pos (by omega), List.getElem?_take, if_pos (by omega), List.getElem?_set, if_pos rfl, if_pos hn, Nat.sub_self]
          rfl
        · rw [if_neg (show ¬ k < off + (i + 1) by omega), if_neg k1]
          by_cases k3 : k < off + (i + 1) + vs.length
          · rw [if_pos k3, if_pos (by omega), show k - (off + i) = (k - (off + (i + 1))) + 1 by omega, List.getElem?_cons_succ]
          · rw [if_neg k3, if_neg (by omega), List.getElem?_drop, List.getElem?_drop, List.getElem?_set, if_neg (by omega)]
            congr 1
            omega

theorem storeVar_run {P : Program} {g : Nat} {e t : TypeId} {off : Nat} {v : Value} {w : World} {cur : List Value} {size : Nat} (hs : ∀ w, (sizeOf t).run P w = .ok size w) (hv : v.cells.size = size) (h : w.heap[g]? = some (.cells cur.toArray e (0, 0))) (hl : off + size ≤ cur.length)
    (h1 : ∀ u ∈ v.cells.toList, u.oneCell' = true) :
    ∃ w', (storeVar t ⟨g, off, none⟩ v).run P w = .ok () w' ∧ Turn w w' (some g) ∧ w'.heap[g]? = some (.cells (cur.take off ++ v.cells.toList ++ cur.drop (off + size)).toArray e (0, 0)) := by
  have hlen : v.cells.toList.length = size := by rw [Array.length_toList]; exact hv
  obtain ⟨w', h2, h3, h4⟩ := storeCells_run (P := P) off v.cells.toList 0 w cur h (by rw [hlen]; exact hl) h1
  refine ⟨w', ?_, h3, ?_⟩
  · unfold storeVar
    simp only [Sem.run_bind, hs w, Result.andThen_ok, hv, ne_eq, not_true_eq_false, if_false]
    exact h2
  · rw [h4, hlen, Nat.add_zero]

/-- A new own block of cells. -/
theorem R0.newCells {cx : Cx} {F : Nat → Prop} {ρ : Nat → Value} {e : Env} {σ : Obs} {a : Act} {w : World} (h : R0 cx F ρ e σ a w) {id dst : Nat} {ty : TypeId} {cs : Array Value} {ds : List D} (hid : ∀ p ∈ σ, p.1 ≠ id) (hd : dst < cx.N) (hr : RepL F w cs.toList ds) (h1 : ∀ u ∈ cs.toList, u.oneCell' = true) (hfx : cx.free id = true) :
    ∃ ρ', R0 cx F ρ' ((e.kill id).put (some dst) (.ptr id 0)) ((id, .cells (ds.map S.d)) :: Obs.kill id σ) (a.put (some dst) (.pointer (some ⟨w.heap.size, 0, none⟩))) (w.alloc (.cells cs ty)) := by
  refine ⟨fun j => if j = id then .pointer (some ⟨w.heap.size, 0, none⟩) else ρ j, ?_⟩
  have hE : Ext F w F (w.alloc (.cells cs ty)) := Ext.of_below h.lt ((Below.refl _ _).alloc (Nat.le_refl _) _)
  have h2 := h.turn (ρ' := fun j => if j = id then .pointer (some ⟨w.heap.size, 0, none⟩) else ρ j) (id := id) (ob := .cells (ds.map S.d)) (row := none) (w' := w.alloc (.cells cs ty)) (F' := F) (fun j hj => by simp [hj])
    ⟨hE.below.os, hE.below.tape, hE.below.output, hE.below.size, fun k hk _ => hE.below.block k hk⟩ hfx (fun g hg => by simp at hg) (fun b hb => hb) (fun b hb => .inl hb) hE.lt
    ⟨w.heap.size, ty, cs.toList, by simp, h.hB, fun hf => by have := h.lt _ hf; omega, by simpa using heap_alloc_new w _, by simpa using hr.1, fun j hj hj' => by
      rw [List.getElem_map]
      exact ⟨h1 _ (List.getElem_mem hj), .d ((hr.2 j hj (by simpa using hj')).ext h.lt hE)⟩⟩
    (fun g hg => by simp [blk] at hg; exact .inr (by omega)) ((id, .cells (ds.map S.d)) :: Obs.kill id σ) (fun p hp => by
      cases hp with
      | head => exact .inl rfl
      | tail _ hp => obtain ⟨q, hq, rfl⟩ := Obs.mem_kill hp; exact .inr ⟨q, hq, hid q hq, rfl⟩)
  have h3 := h2.put (o := ⟨some dst, .ready 0, 0, "", #[], none⟩) (v := .pointer (some ⟨w.heap.size, 0, none⟩)) (s := .ptr id 0) (Ext.refl h2.lt) (.ptr id 0 w.heap.size (by simp [blk])) (by simpa [DstOk, Nat.blt_eq] using hd)
  exact h3

section
variable {cx : Cx} {ops : Array Oper} {o : Oper} {rest : List Oper} {e : Env} {σ : Obs} {Q : Post}
theorem AOps.boxOwn {t dst : Nat} {x : Operand} {d : D} (id : Nat) (hg : o.guard = none) (ht : o.dst = some dst) (hdn : Nat.blt dst cx.N = true) (ho : o.op = .box t x) (hx : e.ev x = .d d) (h1 : d.one = true) (hid : Obs.fresh id σ = true)
    (k : AOps cx ops rest ((e.kill id).put (some dst) (.ptr id 0)) ((id, .cells (d.parts.map S.d)) :: Obs.kill id σ) Q) (hfx : cx.free id = true := by rfl) : AOps cx ops (o :: rest) e σ Q := by
  intro a w ⟨F, ρ, hr⟩
  have h2 := ev_rep (e := e) (x := x) (a := a) (fun t _ => hr.env t)
  rw [hx] at h2
  obtain ⟨h3, h4⟩ := parts_rep (repS_d h2) h1
  obtain ⟨ρ', h5⟩ := hr.newCells (ty := t) (Obs.fresh_spec hid) (by simpa [Nat.blt_eq] using hdn) h3 h4 hfx
  refine wpList_plain hg fun K hK => ?_
  unfold Oper.wp execOp
  simp only [ho, Instr.box, newVar, newRow]
  have := k _ _ ⟨F, ρ', h5⟩
  rw [← ht] at this
  exact hK _ _ this
/-- var x T, on the heap. -/
theorem AOps.alloc {t dst : Nat} {z : Value} {zs : List Value} (id : Nat) (hg : o.guard = none) (ht : o.dst = some dst) (hdn : Nat.blt dst cx.N = true) (ho : o.op = .alloc t) (hz : (cx.P.info? t).bind (·.zero) = some z) (hzc : z.cells.toList = zs) (h1 : zs.all (·.oneCell') = true) (hid : Obs.fresh id σ = true)
    (k : AOps cx ops rest ((e.kill id).put (some dst) (.ptr id 0)) ((id, .cells ((zs.map D.v).map S.d)) :: Obs.kill id σ) Q) (hfx : cx.free id = true := by rfl) : AOps cx ops (o :: rest) e σ Q := by
  intro a w ⟨F, ρ, hr⟩
  obtain ⟨ρ', h5⟩ := hr.newCells (ty := t) (cs := z.cells) (ds := zs.map D.v) (Obs.fresh_spec hid) (by simpa [Nat.blt_eq] using hdn) ⟨by simp [← hzc], fun i hi hi' => by simp only [List.getElem_map, ← hzc]; exact .v _⟩ (by rw [hzc]; simpa using h1) hfx
  refine wpList_plain hg fun K hK => ?_
  obtain ⟨i, hi, hzz⟩ := Option.bind_eq_some_iff.1 hz
  have hprog : (program : Sem Program).run cx.P w = .ok cx.P w := rfl
  unfold Oper.wp execOp
  simp only [ho, Instr.alloc, Sem.run_bind, zeroValue, typeInfo, hprog, Result.andThen_ok, hi, Sem.run_pure, hzz, newVar, newRow]
  have := k _ _ ⟨F, ρ', h5⟩
  rw [← ht] at this
  exact hK _ _ this

theorem cells_of {cx : Cx} {F : Nat → Prop} {ρ : Nat → Value} {e : Env} {σ : Obs} {a : Act} {w : World} (hr : R0 cx F ρ e σ a w) {x : Operand} {id off : Nat} {ss : List S} (hx : e.ev x = .ptr id off) (hm : (id, Ob.cells ss) ∈ σ) :
    ∃ g ty, ∃ cs : List Value, a.eval x = .pointer (some ⟨g, off, none⟩) ∧ ρ id = .pointer (some ⟨g, 0, none⟩) ∧ cx.B ≤ g ∧ ¬ F g ∧ w.heap[g]? = some (.cells cs.toArray ty (0, 0)) ∧ cs.length = ss.length ∧ (∀ j (h : j < cs.length) (h' : j < ss.length), cs[j].oneCell' = true ∧ RepS F ρ w cs[j] ss[j]) := by
  have h1 := ev_rep (e := e) (x := x) (a := a) (fun t _ => hr.env t)
  rw [hx] at h1
  obtain ⟨g, ty, cs, h2, h3, h4, h5, h6, h7⟩ := hr.obs.ok _ hm
  dsimp only at h2
  refine ⟨g, ty, cs, ?_, h2, h3, h4, h5, h6, h7⟩
  generalize a.eval x = v at h1
  cases h1 with
  | ptr _ _ g' hg =>
    rw [h2] at hg
    simp [blk] at hg
    rw [hg]

/-- An own block of cells has been written. -/
theorem R0.write {cx : Cx} {F : Nat → Prop} {ρ : Nat → Value} {e : Env} {σ : Obs} {a : Act} {w w' : World} (hr : R0 cx F ρ e σ a w) {id g : Nat} {ty : TypeId} {ss ss' : List S} {cs' : List Value} (hρ : ρ id = .pointer (some ⟨g, 0, none⟩)) (hm : (id, Ob.cells ss) ∈ σ)
    (hB : cx.B ≤ g) (hF : ¬ F g) (ht : Turn w w' (some g)) (hh : w'.heap[g]? = some (.cells cs'.toArray ty (0, 0))) (hl : cs'.length = ss'.length) (hcs : ∀ j (h : j < cs'.length) (h' : j < ss'.length), cs'[j].oneCell' = true ∧ RepS F ρ w cs'[j] ss'[j]) :
    R0 cx F ρ e (Obs.upd id (.cells ss') σ) a w' := by
  have keep : ∀ {x : Value} {s : S}, RepS F ρ w x s → RepS F ρ w' x s := fun h => h.turn hr.lt (fun g' hg' => by rw [← Option.some.inj hg']; exact hF) ht (fun b hb => hb)
  have hblk : blk (ρ id) = some g := by rw [hρ]; rfl
  refine ⟨hr.size, hr.defers, fun b hb => Nat.lt_of_lt_of_le (hr.lt b hb) ht.size, hr.base, hr.new, hr.below.turn ht (fun g' hg' => by rw [← Option.some.inj hg']; exact hr.kown _ hm g hblk), Nat.le_trans hr.hB ht.size, fun t => keep (hr.env t), ?_, hr.up, fun p hp => by
    rcases Obs.mem_upd hp with ⟨h1, _⟩ | ⟨h1, _⟩
    · rw [h1]; exact fun g hg => hr.kown (id, Ob.cells ss) hm g hg
    · exact hr.kown p h1, hr.fixed⟩
  have hmem : ∀ p, p ∈ Obs.upd id (.cells ss') σ → p.1 = id → p = (id, Ob.cells ss') := fun p hp he => by
    rcases Obs.mem_upd hp with ⟨h1, _⟩ | ⟨_, h2⟩
    · exact h1
    · exact absurd he h2
  have hold : ∀ p, p ∈ Obs.upd id (.cells ss') σ → p.1 ≠ id → p ∈ σ := fun p hp he => by
    rcases Obs.mem_upd hp with ⟨h1, _⟩ | ⟨h1, _⟩
    · rw [h1] at he; exact absurd rfl he
    · exact h1
  refine ⟨fun p hp => ?_, fun p hp q hq hne g' hg' => ?_, fun p hp q hq he => ?_⟩
  · by_cases hpi : p.1 = id
    · rw [hmem p hp hpi]
      exact ⟨g, ty, cs', hρ, hB, hF, hh, hl, fun j h h' => ⟨(hcs j h h').1, keep (hcs j h h').2⟩⟩
    · have hp' := hold p hp hpi
      have h1 := hr.obs.ok p hp'
      have hne : ∀ g', blk (ρ p.1) = some g' → (some g) ≠ some g' := fun g' hg' he => by
        have := hr.obs.apart p hp' _ hm hpi g' hg'
        rw [hblk, he] at this
        exact this rfl
      obtain ⟨i, ob⟩ := p
      cases ob with
      | row ee size els =>
        obtain ⟨xs, h2, h3, h4, h5⟩ := h1
        exact ⟨xs, ownsRow_turn h2 ht hne, h3, fun k hk j hj => ⟨(h4 k hk j hj).1, repS_d (keep (.d (h4 k hk j hj).2))⟩, h5⟩
      | cells ss2 =>
        obtain ⟨g2, e2, cs2, h2, h3, h4, h5, h6, h7⟩ := h1
        refine ⟨g2, e2, cs2, h2, h3, h4, ?_, h6, fun j hj hj' => ⟨(h7 j hj hj').1, keep (h7 j hj hj').2⟩⟩
        rw [ht.block g2 (Array.getElem?_eq_some_iff.1 h5).1 (fun he => hne g2 (by rw [h2]; rfl) he.symm)]
        exact h5
      | map M =>
        obtain ⟨g2, es, cl, h2, h3, h4, h5, h6, h7⟩ := h1
        refine ⟨g2, es, cl, h2, h3, h4, ?_, h6, fun j hj hj' => ⟨(h7 j hj hj').1, repS_d (keep (.d (h7 j hj hj').2))⟩⟩
        rw [ht.block g2 (Array.getElem?_eq_some_iff.1 h5).1 (fun he => hne g2 (by rw [h2]; rfl) he.symm)]
        exact h5
      | rowS ee size els =>
        obtain ⟨xs, h2, h3, h4, h5⟩ := h1
        exact ⟨xs, ownsRow_turn h2 ht hne, h3, fun k hk j hj => ⟨(h4 k hk j hj).1, keep (h4 k hk j hj).2⟩, h5⟩
  · by_cases hpi : p.1 = id
    · have hq' := hold q hq (fun he => hne (by rw [hpi, he]))
      rw [hpi] at hg' hne
      exact hr.obs.apart _ hm q hq' hne g' hg'
    · have hp' := hold p hp hpi
      by_cases hqi : q.1 = id
      · rw [hqi] at hne ⊢
        exact hr.obs.apart p hp' _ hm hne g' hg'
      · exact hr.obs.apart p hp' q (hold q hq hqi) hne g' hg'
  · by_cases hpi : p.1 = id
    · rw [hmem p hp hpi, hmem q hq (by rw [← he, hpi])]
    · exact hr.obs.uniq p (hold p hp hpi) q (hold q hq (by rw [← he]; exact hpi)) he

/-- *p = v, p into an own block of cells, v frozen data. -/
theorem AOps.store {t id off size : Nat} {x y : Operand} {d : D} {ss : List S} (hg : o.guard = none) (ht : o.dst = none) (ho : o.op = .store t x y) (hs : ∀ w, (sizeOf t).run cx.P w = .ok size w) (hx : e.ev x = .ptr id off) (hm : (id, Ob.cells ss) ∈ σ) (hy : e.ev y = .d d) (h1 : d.one = true) (hl : d.parts.length = size)
    (hle : off + size ≤ ss.length) (k : AOps cx ops rest e (Obs.upd id (.cells (ss.take off ++ d.parts.map S.d ++ ss.drop (off + size))) σ) Q) : AOps cx ops (o :: rest) e σ Q := by
  intro a w ⟨F, ρ, hr⟩
  obtain ⟨g, ty, cs, hv, hρ, hB, hF, hh, hcl, hcs⟩ := cells_of hr hx hm
  have h2 := ev_rep (e := e) (x := y) (a := a) (fun t _ => hr.env t)
  rw [hy] at h2
  obtain ⟨h3, h4⟩ := parts_rep (repS_d h2) h1
  have hsz : (a.eval y).cells.size = size := by have := h3.1; rw [Array.length_toList] at this; omega
  obtain ⟨w', h5, h6, h7⟩ := storeVar_run (P := cx.P) (off := off) hs hsz hh (by omega) h4
  refine wpList_plain hg fun K hK => ?_
  unfold Oper.wp execOp
  simp only [ho, Instr.storeAt, hv, Instr.sureAddr, Sem.run_bind, Sem.run_pure, Result.andThen_ok, h5]
  refine hK _ _ (k _ _ ⟨F, ρ, ?_⟩)
  rw [ht]
  exact hr.write hρ hm hB hF h6 h7 (by simp; omega) (fun j hj hj' => by
    have hlen : (a.eval y).cells.toList.length = size := by rw [Array.length_toList]; exact hsz
    by_cases j1 : j < off
    · rw [List.getElem_append_left (by simp; omega), List.getElem_append_left (by simp; omega), List.getElem_append_left (by simp; omega), List.getElem_append_left (by simp; omega), List.getElem_take, List.getElem_take]
      exact hcs j (by omega) (by omega)
    · by_cases j2 : j < off + size
      · rw [List.getElem_append_left (by simp; omega), List.getElem_append_right (by simp; omega), List.getElem_append_left (by simp; omega), List.getElem_append_right (by simp; omega), List.getElem_map]
        have e1 : (List.take off cs).length = off := by simp; omega
        have e2 : (List.take off ss).length = off := by simp; omega
        simp only [e1, e2]
        exact ⟨h4 _ (List.getElem_mem _), .d (h3.2 _ _ _)⟩
      · rw [List.getElem_append_right (by simp; omega), List.getElem_append_right (by simp; omega), List.getElem_drop, List.getElem_drop]
        have e1 : (List.take off cs ++ (a.eval y).cells.toList).length = off + size := by simp; omega
        have e2 : (List.take off ss ++ d.parts.map S.d).length = off + size := by simp; omega
        simp only [e1, e2]
        exact hcs _ _ _)
end
end Go.Proofs.YtajghehicmlajaaDoor
