/- Abstract values: stores into own rows, make with a capacity, arrays. No statement of the seat. -/
import Derived.Test.YtajghehicmlajaaDoorA11
namespace Go.Proofs.YtajghehicmlajaaDoor
open Go.RowKit
set_option linter.unusedVariables false

/-- An own block has been written: what object it is now is told. -/
theorem R0.writeOb {cx : Cx} {F : Nat → Prop} {ρ : Nat → Value} {e : Env} {σ : Obs} {a : Act} {w w' : World} (hr : R0 cx F ρ e σ a w) {id g : Nat} {ob ob' : Ob} (hblk : blk (ρ id) = some g) (hm : (id, ob) ∈ σ)
    (hB : cx.B ≤ g) (hF : ¬ F g) (ht : Turn w w' (some g)) (hob : ObOk cx.B F ρ w' id ob') : R0 cx F ρ e (Obs.upd id ob' σ) a w' := by
  have keep : ∀ {x : Value} {s : S}, RepS F ρ w x s → RepS F ρ w' x s := fun h => h.turn hr.lt (fun g' hg' => by rw [← Option.some.inj hg']; exact hF) ht (fun b hb => hb)
  refine ⟨hr.size, hr.defers, fun b hb => Nat.lt_of_lt_of_le (hr.lt b hb) ht.size, hr.base, hr.new, hr.below.turn ht (fun g' hg' => by rw [← Option.some.inj hg']; exact hr.kown _ hm g hblk), Nat.le_trans hr.hB ht.size, fun t => keep (hr.env t), ?_, hr.up, fun p hp => by
    rcases Obs.mem_upd hp with ⟨h1, _⟩ | ⟨h1, _⟩
    · rw [h1]; exact fun g hg => hr.kown (id, ob) hm g hg
    · exact hr.kown p h1, hr.fixed⟩
  have hmem : ∀ p, p ∈ Obs.upd id ob' σ → p.1 = id → p = (id, ob') := fun p hp he => by
    rcases Obs.mem_upd hp with ⟨h1, _⟩ | ⟨_, h2⟩
    · exact h1
    · exact absurd he h2
  have hold : ∀ p, p ∈ Obs.upd id ob' σ → p.1 ≠ id → p ∈ σ := fun p hp he => by
    rcases Obs.mem_upd hp with ⟨h1, _⟩ | ⟨h1, _⟩
    · rw [h1] at he; exact absurd rfl he
    · exact h1
  refine ⟨fun p hp => ?_, fun p hp q hq hne g' hg' => ?_, fun p hp q hq he => ?_⟩
  · by_cases hpi : p.1 = id
    · rw [hmem p hp hpi]; exact hob
    · have hp' := hold p hp hpi
      have h1 := hr.obs.ok p hp'
      have hne : ∀ g', blk (ρ p.1) = some g' → (some g) ≠ some g' := fun g' hg' he => by
        have := hr.obs.apart p hp' _ hm hpi g' hg'
        rw [hblk, he] at this
        exact this rfl
      obtain ⟨i, ob2⟩ := p
      cases ob2 with
      | row ee size els =>
        obtain ⟨xs, h2, h3, h4, h5⟩ := h1
        exact ⟨xs, ownsRow_turn h2 ht hne, h3, fun k hk j hj => ⟨(h4 k hk j hj).1, repS_d (keep (.d (h4 k hk j hj).2))⟩, h5⟩
      | cells ss2 =>
        obtain ⟨g2, e2, cs2, h2, h3, h4, h5, h6, h7⟩ := h1
        refine ⟨g2, e2, cs2, h2, h3, h4, ?_, h6, fun j hj hj' => ⟨(h7 j hj hj').1, keep (h7 j hj hj').2⟩⟩
        rw [ht.block g2 (Array.getElem?_eq_some_iff.1 h5).1 (fun he => hne g2 (by rw [h2]; rfl) he.symm)]
        exact h5
      | map M =>
        obtain ⟨g2, es, cl, h2, h3, h4, h5, h6, h7⟩ := h1
        refine ⟨g2, es, cl, h2, h3, h4, ?_, h6, fun j hj hj' => ⟨(h7 j hj hj').1, repS_d (keep (.d (h7 j hj hj').2))⟩⟩
        rw [ht.block g2 (Array.getElem?_eq_some_iff.1 h5).1 (fun he => hne g2 (by rw [h2]; rfl) he.symm)]
        exact h5
      | rowS ee size els =>
        obtain ⟨xs, h2, h3, h4, h5⟩ := h1
        exact ⟨xs, ownsRow_turn h2 ht hne, h3, fun k hk j hj => ⟨(h4 k hk j hj).1, keep (h4 k hk j hj).2⟩, h5⟩
  · by_cases hpi : p.1 = id
    · have hq' := hold q hq (fun he => hne (by rw [hpi, he]))
      rw [hpi] at hg' hne
      exact hr.obs.apart _ hm q hq' hne g' hg'
    · have hp' := hold p hp hpi
      by_cases hqi : q.1 = id
      · rw [hqi] at hne ⊢
        exact hr.obs.apart p hp' _ hm hne g' hg'
      · exact hr.obs.apart p hp' q (hold q hq hqi) hne g' hg'
  · by_cases hpi : p.1 = id
    · rw [hmem p hp hpi, hmem q hq (by rw [← he, hpi])]
    · exact hr.obs.uniq p (hold p hp hpi) q (hold q hq (by rw [← he]; exact hpi)) he

/-- The cells of a row after a store inside one element. -/
theorem flat_store (xs : Nat → Nat → Value) (n size k j : Nat) (vs : List Value) (hk : k < n) (hj : j + vs.length ≤ size) :
    (flat xs n size).take (k * size + j) ++ vs ++ (flat xs n size).drop (k * size + j + vs.length) = flat (fun i q => if i = k ∧ j ≤ q ∧ q < j + vs.length then vs.getD (q - j) undef else xs i q) n size := by
  have hle : k * size + size ≤ n * size := by rw [← Nat.succ_mul]; exact Nat.mul_le_mul_right _ hk
  apply List.ext_getElem?
  intro p
  by_cases hp : p < n * size
  · have hs0 : 0 < size := by
      rcases Nat.eq_zero_or_pos size with h | h
      · subst h; omega
      · exact h
    have e1 : p = (p / size) * size + p % size := by rw [Nat.mul_comm]; exact (Nat.div_add_mod p size).symm
    have hlt1 : p / size < n := Nat.div_lt_of_lt_mul (by rw [Nat.mul_comm]; exact hp)
    have hlt2 : p % size < size := Nat.mod_lt _ hs0
    have hR := flatten_get (fun i q => if i = k ∧ j ≤ q ∧ q < j + vs.length then vs.getD (q - j) undef else xs i q) size n (p / size) (p % size) hlt1 hlt2
    have hL := flatten_get xs size n (p / size) (p % size) hlt1 hlt2
    rw [← e1] at hR hL
    have hR' : (flat (fun i q => if i = k ∧ j ≤ q ∧ q < j + vs.length then vs.getD (q - j) undef else xs i q) n size)[p]? = _ := hR
    have hL' : (flat xs n size)[p]? = some (xs (p / size) (p % size)) := hL
    rw [hR', get3]
    have hfl := flat_length xs n size
    rw [List.length_take, hfl, Nat.min_eq_left (by omega)]
    have cmp1 : p < k * size + j → ¬ (p / size = k ∧ j ≤ p % size ∧ p % size < j + vs.length) := by
      rintro h ⟨h1, h2, _⟩
      rw [h1] at e1; omega
    have cmp2 : k * size + j ≤ p → p < k * size + j + vs.length → p / size = k ∧ p % size = p - k * size := by
      intro h1 h2
      have h3 : p / size = k := Nat.div_eq_of_lt_le (by omega) (by rw [Nat.add_mul]; omega)
      exact ⟨h3, by rw [h3] at e1; omega⟩
    by_cases c1 : p < k * size + j
    · rw [if_pos c1, List.getElem?_take, if_pos c1, hL', if_neg (cmp1 c1)]
    · rw [if_neg c1]
      by_cases c2 : p < k * size + j + vs.length
      · obtain ⟨h1, h2⟩ := cmp2 (by omega) c2
        rw [if_pos c2, if_pos ⟨h1, by omega, by omega⟩, h2, show p - k * size - j = p - (k * size + j) by omega, List.getD_eq_getElem?_getD, List.getElem?_eq_getElem (by omega)]
        rfl
      · rw [if_neg c2, List.getElem?_drop, show k * size + j + vs.length + (p - (k * size + j + vs.length)) = p by omega, hL', if_neg]
        rintro ⟨h1, h2, h3⟩
        rw [h1] at e1; omega
  · rw [List.getElem?_eq_none (by simp [flat_length]; omega), List.getElem?_eq_none (by rw [flat_length]; omega)]

section
variable {cx : Cx} {ops : Array Oper} {o : Oper} {rest : List Oper} {e : Env} {σ : Obs} {Q : Post}
/-- b[k] = v, or b[k].f = v, b an own row. -/
theorem AOps.storeRow {t id off ee size len : Nat} {x y : Operand} {d : D} {els : List (List D)} {ds : List D} (hg : o.guard = none) (ht : o.dst = none) (ho : o.op = .store t x y) (hs : ∀ w, (sizeOf t).run cx.P w = .ok len w) (hx : e.ev x = .ptr id off) (hm : (id, Ob.row ee size els) ∈ σ)
    (hy : e.ev y = .d d) (h1 : d.one = true) (hl : d.parts.length = len) (k j : Nat) (hoff : off = k * size + j) (hd : els[k]? = some ds) (hj : j + len ≤ size)
    (q : AOps cx ops rest e (Obs.upd id (.row ee size (els.set k (ds.take j ++ d.parts ++ ds.drop (j + len)))) σ) Q) : AOps cx ops (o :: rest) e σ Q := by
  intro a w ⟨F, ρ, hr⟩
  have r1 := ev_rep (e := e) (x := x) (a := a) (fun t _ => hr.env t)
  have r2 := ev_rep (e := e) (x := y) (a := a) (fun t _ => hr.env t)
  rw [hx] at r1
  rw [hy] at r2
  obtain ⟨h3, h4⟩ := parts_rep (repS_d r2) h1
  have hlt : k < els.length := (List.getElem?_eq_some_iff.1 hd).1
  have hde : els[k] = ds := (List.getElem?_eq_some_iff.1 hd).2
  obtain ⟨xs, hown, hlen, hrep, hnF⟩ := hr.obs.ok _ hm
  dsimp only at hown hnF
  have hown' : w.ownsRow cx.B ee size (ρ id) els.length (flat xs els.length size) := hown
  rcases hown'.2 with ⟨_, h0⟩ | ⟨g, cap, cur, hv, hB, hh, hn, hmx, hcs, htk⟩
  · omega
  have hblk : blk (ρ id) = some g := by rw [hv]; rfl
  have hxv := ptr_at r1 hblk
  have hsz : (a.eval y).cells.size = len := by have := h3.1; rw [Array.length_toList] at this; omega
  have hle : k * size + size ≤ els.length * size := by rw [← Nat.succ_mul]; exact Nat.mul_le_mul_right _ hlt
  have hcap : els.length * size ≤ cap * size := Nat.mul_le_mul_right _ hn
  obtain ⟨w', h5, h6, h7⟩ := storeVar_run (P := cx.P) (off := off) hs hsz (cur := cur.toList) (by simpa using hh) (by rw [Array.length_toList]; omega) h4
  refine wpList_plain hg fun K hK => ?_
  unfold Oper.wp execOp
  simp only [ho, Instr.storeAt, hxv, Instr.sureAddr, Sem.run_bind, Sem.run_pure, Result.andThen_ok, h5]
  refine hK _ _ (q _ _ ⟨F, ρ, ?_⟩)
  rw [ht]
  have hvl : (a.eval y).cells.toList.length = len := by rw [Array.length_toList]; exact hsz
  have keep : ∀ {u : Value} {d : D}, Rep F w u d → Rep F w' u d := fun h => h.mono (fun b hb => hb) fun b hb => h6.block b (hr.lt b hb) (fun he => hnF g hblk (by rw [← Option.some.inj he]; exact hb))
  refine hr.writeOb hblk hm hB (hnF g hblk) h6 ⟨fun i p => if i = k ∧ j ≤ p ∧ p < j + (a.eval y).cells.toList.length then (a.eval y).cells.toList.getD (p - j) undef else xs i p, ?_, fun i hi => ?_, fun i hi p hp => ?_, hnF⟩
  · rw [List.length_set]
    have hst := flat_store xs els.length size k j (a.eval y).cells.toList hlt (by omega)
    refine ⟨flat_length _ _ _, .inr ⟨g, cap, _, hv, hB, h7, hn, hmx, ?_, ?_⟩⟩
    · simp only [List.size_toArray, List.length_append, List.length_take, List.length_drop, Array.length_toList, hcs, hsz]
      omega
    · refine Eq.trans ?_ hst
      rw [← htk]
      have hcl : cur.toList.length = cap * size := by rw [Array.length_toList]; exact hcs
      rw [hoff, ← hvl]
      apply List.ext_getElem?
      intro p
      by_cases hp : p < els.length * size
      · rw [List.getElem?_take, if_pos hp, get3, get3]
        simp only [List.length_take, hcl, List.getElem?_take, List.getElem?_drop]
        rw [Nat.min_eq_left (show k * size + j ≤ cap * size by omega), Nat.min_eq_left (show k * size + j ≤ min (els.length * size) (cap * size) by omega)]
        by_cases c1 : p < k * size + j
        · simp [c1, hp]
        · by_cases c2 : p < k * size + j + (a.eval y).cells.toList.length
          · simp only [c1, c2, if_false, if_true]
          · simp only [c1, c2, if_false]
            rw [if_pos (by omega)]
      · rw [List.getElem?_eq_none (by rw [List.length_take]; omega), List.getElem?_eq_none (by
          simp only [List.length_append, List.length_take, List.length_drop, hcl]
          omega)]
  · rw [List.getElem_set]
    split
    · rw [List.length_append, List.length_append, List.length_take, List.length_drop, hl]
      have := hlen k hlt
      rw [hde] at this
      omega
    · exact hlen i _
  · rw [List.length_set] at hi
    have hk2 := hlen k hlt
    rw [hde] at hk2
    simp only [List.getElem_set] at hp ⊢
    by_cases hik : k = i
    · subst hik
      simp only [if_true] at hp ⊢
      rw [List.length_append, List.length_append, List.length_take, List.length_drop, hl] at hp
      by_cases c1 : j ≤ p ∧ p < j + (a.eval y).cells.toList.length
      · simp only [c1, and_self, if_true]
        have hpl : p - j < (a.eval y).cells.toList.length := by omega
        rw [List.getD_eq_getElem?_getD, List.getElem?_eq_getElem hpl, Option.getD_some]
        refine ⟨h4 _ (List.getElem_mem _), keep ?_⟩
        rw [List.getElem_append_left (by simp; omega), List.getElem_append_right (by simp; omega)]
        have e1 : (List.take j ds).length = j := by simp; omega
        simp only [e1]
        exact h3.2 _ _ _
      · rw [if_neg (by rintro ⟨_, h8, h9⟩; exact c1 ⟨h8, h9⟩)]
        have h10 := hrep k hlt p (by rw [hde]; omega)
        simp only [hde] at h10
        refine ⟨h10.1, keep ?_⟩
        by_cases c2 : p < j
        · rw [List.getElem_append_left (by simp; omega), List.getElem_append_left (by simp; omega), List.getElem_take]
          exact h10.2
        · rw [List.getElem_append_right (by simp; omega), List.getElem_drop]
          have e1 : (List.take j ds ++ d.parts).length = j + len := by simp; omega
          simp only [e1]
          have e2 : j + len + (p - (j + len)) = p := by omega
          simp only [e2]
          exact h10.2
    · simp only [hik, if_false] at hp ⊢
      rw [if_neg (by rintro ⟨h8, _⟩; exact hik h8.symm)]
      exact ⟨(hrep i hi p hp).1, keep (hrep i hi p hp).2⟩

/-- A new own row. -/
theorem R0.newRow {cx : Cx} {F : Nat → Prop} {ρ : Nat → Value} {e : Env} {σ : Obs} {a : Act} {w w' : World} (hr : R0 cx F ρ e σ a w) {id dst el size : Nat} {els : List (List D)} {v : Value} (hid : ∀ p ∈ σ, p.1 ≠ id) (hd : dst < cx.N) (hbel : Below w.heap.size w w')
    (hob : ObOk cx.B F (fun j => if j = id then v else ρ j) w' id (.row el size els)) (hnew : ∀ g, blk v = some g → w.heap.size ≤ g) (hfx : cx.free id = true) :
    ∃ ρ', R0 cx F ρ' ((e.kill id).put (some dst) (.own id)) ((id, .row el size els) :: Obs.kill id σ) (a.put (some dst) v) w' := by
  refine ⟨fun j => if j = id then v else ρ j, ?_⟩
  have hE : Ext F w F w' := Ext.of_below hr.lt hbel
  have h2 := hr.turn (ρ' := fun j => if j = id then v else ρ j) (id := id) (ob := .row el size els) (row := none) (w' := w') (F' := F) (fun j hj => by simp [hj])
    ⟨hE.below.os, hE.below.tape, hE.below.output, hE.below.size, fun k hk _ => hE.below.block k hk⟩ hfx (fun g hg => by simp at hg) (fun b hb => hb) (fun b hb => .inl hb) hE.lt hob
    (fun g hg => by rw [if_pos rfl] at hg; exact .inr (hnew g hg)) ((id, .row el size els) :: Obs.kill id σ) (fun p hp => by
      cases hp with
      | head => exact .inl rfl
      | tail _ hp => obtain ⟨q, hq, rfl⟩ := Obs.mem_kill hp; exact .inr ⟨q, hq, hid q hq, rfl⟩)
  exact h2.put (o := ⟨some dst, .ready 0, 0, "", #[], none⟩) (v := v) (s := .own id) (Ext.refl h2.lt) (by
      have := RepS.own (F := F) (ρ := fun j => if j = id then v else ρ j) (w := w') id
      simpa using this) (by simpa [DstOk, Nat.blt_eq] using hd)

/-- make([]T, 0, c). -/
theorem AOps.make0 {t el : TypeId} {l c : Operand} {size bytes dst : Nat} {z : Value} {n : Int} (id : Nat) (hg : o.guard = none) (ht : o.dst = some dst) (hdn : Nat.blt dst cx.N = true) (ho : o.op = .makeSlice t l c) (T : ElemTy cx.P t el size bytes z)
    (hl : e.ev l = .d (.v (.int .i64 0))) (hc : e.ev c = .d (.v (.int .i64 n))) (h0 : 0 ≤ n) (hb : (bytes : Int) * n ≤ 281474976710656) (hn : n ≤ 9223372036854775807) (hid : Obs.fresh id σ = true)
    (k : AOps cx ops rest ((e.kill id).put (some dst) (.own id)) ((id, .row el size []) :: Obs.kill id σ) Q) (hfx : cx.free id = true := by rfl) : AOps cx ops (o :: rest) e σ Q := by
  intro a w ⟨F, ρ, hr⟩
  have hdn' : dst < cx.N := by simpa [Nat.blt_eq] using hdn
  have r1 := ev_rep (e := e) (x := l) (a := a) (fun t _ => hr.env t)
  have r2 := ev_rep (e := e) (x := c) (a := a) (fun t _ => hr.env t)
  rw [hl] at r1
  rw [hc] at r2
  obtain ⟨i, hi, hz0, hz1, hz2⟩ := info_parts T.hi
  have hrun := run_make (P := cx.P) w t el i z T.ht hi hz0 .i64 .i64 0 n (Int.le_refl _) h0 (by rw [hz2]; exact hb) hn
  rw [hz1] at hrun
  have hrow : (w.alloc (.cells (madeCells z.cells (n.toNat * size)) el)).ownsRow cx.B el size (.slice (some ⟨w.heap.size, 0, none⟩) (0 : Int).toNat n.toNat) 0 [] :=
    ⟨by simp, .inr ⟨w.heap.size, n.toNat, _, rfl, hr.hB, heap_alloc_new w _, Nat.zero_le _, by unfold maxLen; omega, by simp [madeCells], by simp⟩⟩
  obtain ⟨ρ', h5⟩ := hr.newRow (v := .slice (some ⟨w.heap.size, 0, none⟩) (0 : Int).toNat n.toNat) (els := []) (Obs.fresh_spec hid) hdn' ((Below.refl _ _).alloc (Nat.le_refl _) (.cells (madeCells z.cells (n.toNat * size)) el))
    ⟨fun _ _ => undef, by dsimp only; rw [if_pos rfl]; exact hrow, fun i hi => by simp at hi, fun i hi => by simp at hi, fun g hg hf => by dsimp only at hg; rw [if_pos rfl] at hg; simp [blk] at hg; have := hr.lt g hf; omega⟩
    (fun g hg => by simp [blk] at hg; omega) hfx
  refine wpList_plain hg fun K hK => ?_
  unfold Oper.wp execOp
  simp only [ho, repS_v r1, repS_v r2, Sem.run_bind, hrun, Result.andThen_ok, Sem.run_pure]
  have := k _ _ ⟨F, ρ', h5⟩
  rw [← ht] at this
  exact hK _ _ this
/-- make([]T, n), n told as an integer. -/
theorem AOps.makeI {t el : TypeId} {l c : Operand} {size bytes dst : Nat} {z : Value} {m : Int} (id n : Nat) (hg : o.guard = none) (ht : o.dst = some dst) (hdn : Nat.blt dst cx.N = true) (ho : o.op = .makeSlice t l c) (T : ElemTy cx.P t el size bytes z)
    (hl : e.ev l = .d (.v (.int .i64 m))) (hc : e.ev c = .d (.v (.int .i64 m))) (hmn : m = n) (hb : bytes * n ≤ 281474976710656) (hn : n ≤ 9223372036854775807) (h1 : z.cells.toList.all (·.oneCell') = true) (hid : Obs.fresh id σ = true)
    (k : AOps cx ops rest ((e.kill id).put (some dst) (.own id)) ((id, .row el size (List.replicate n (z.cells.toList.map D.v))) :: Obs.kill id σ) Q) (hfx : cx.free id = true := by rfl) : AOps cx ops (o :: rest) e σ Q := by
  subst hmn
  exact .make id hg ht hdn ho T hl hc hb hn h1 hid k hfx
end

section
variable {P : Program} {B : Nat} {ops : Array Oper} {o : Oper} {e : Env} {σ : Obs}
/-- An array type's elements. -/
structure ArrT (P : Program) (t el n size : Nat) : Prop where
  ht : P.underlying t = some (.array n el)
  hs : ∀ w, (sizeOf el).run P w = .ok size w
theorem ArrT.of {t el n size : Nat} (h : P.underlying t = some (.array n el)) (h2 : (P.info? el).map (·.size) = some size) : ArrT P t el n size := ⟨h, SizeT.of h2⟩
/-- The address of an element of an own array. -/
theorem AOp.indexArrP {t el n size id off : Nat} {x ix : Operand} {m : Int} {ik : IntKind} (ho : o.op = .indexAddr t x ix) (T : ArrT P t el n size) (hx : e.ev x = .ptr id off) (hi : e.ev ix = .d (.v (.int ik m))) (k : Nat) (hk : m = k) (hlt : k < n) :
    AOp P B ops o e σ (.ptr id (off + k * size)) :=
  .value fun F ρ w a hF hr _ => by
  have h1 := hr x (by rw [ho]; simp [Op.operands])
  have h2 := hr ix (by rw [ho]; simp [Op.operands])
  rw [hx] at h1
  rw [hi] at h2
  obtain ⟨g, hb, hv⟩ := ptr_blk h1
  refine ⟨.pointer (some ⟨g, off + k * size, none⟩), F, w, ?_, .ptr id _ g hb, Ext.refl hF⟩
  unfold execOp
  simp only [ho, hv, repS_v h2, hk]
  simp [Instr.indexAt, run_underlying T.ht, asIntOf, Instr.sureAddr, hlt, T.hs, addr_add]
/-- An element of an array value, of one cell. -/
theorem AOp.indexArr {t el n : Nat} {x ix : Operand} {m : Int} {ik : IntKind} {ds : List D} {d : D} (ho : o.op = .index t x ix) (T : ArrT P t el n 1) (hsc : Scal P el) (hx : e.ev x = .d (.agg ds)) (hi : e.ev ix = .d (.v (.int ik m))) (k : Nat) (hk : m = k) (hlt : k < n) (hd : ds[k]? = some d) :
    AOp P B ops o e σ (.d d) :=
  .value fun F ρ w a hF hr _ => by
  have h1 := hr x (by rw [ho]; simp [Op.operands])
  have h2 := hr ix (by rw [ho]; simp [Op.operands])
  rw [hx] at h1
  rw [hi] at h2
  have h3 := repS_d h1
  generalize hv : a.eval x = v at h3
  cases h3 with
  | agg cs _ hl hone h =>
    have hlt2 : k < ds.length := (List.getElem?_eq_some_iff.1 hd).1
    have hde : ds[k] = d := (List.getElem?_eq_some_iff.1 hd).2
    have hlt' : k < cs.length := by omega
    refine ⟨cs[k], F, w, ?_, .d (by rw [← hde]; exact h k hlt' hlt2), Ext.refl hF⟩
    unfold execOp
    simp only [ho, hv, repS_v h2, hk]
    simp [Instr.index, run_underlying T.ht, asIntOf, hlt, T.hs, part, hsc w, hlt']
end
end Go.Proofs.YtajghehicmlajaaDoor
