/- Walks and laws over abstract values, merged by tools/merge.py. No statement of the seat. -/
import Derived.ChangeKeysEq
import Derived.ProofKit
import Derived.OpenShut
import Derived.ShutString
import Derived.ChangeOld
import Derived.Below
import Derived.Lib.EndianBits
import Derived.Laws.StructEq
import Derived.MapKept
import Derived.Carry
import Derived.Lib.ConvBytes
import Derived.Lib.Strings
import Derived.Laws.Cover3
import Derived.Test.YtagdgclfnbiahaaDoorZG1

namespace Go.Proofs.YtagdgclfnbiahaaDoor
open Go.RowKit
set_option linter.unusedVariables false

/-- An own block has been written: what object it is now is told. -/
theorem R0.writeOb {cx : Cx} {F : Nat → Prop} {ρ : Nat → Value} {e : Env} {σ : Obs} {a : Act} {w w' : World} (hr : R0 cx F ρ e σ a w) {id g : Nat} {ob ob' : Ob} (hblk : blk (ρ id) = some g) (hm : (id, ob) ∈ σ)
    (hB : cx.B ≤ g) (hF : ¬ F g) (ht : Turn w w' (some g)) (hob : ObOk cx.B F ρ w' id ob') : R0 cx F ρ e (Obs.upd id ob' σ) a w' := by
  have keep : ∀ {x : Value} {s : S}, RepS F ρ w x s → RepS F ρ w' x s := fun h => h.turn hr.lt (fun g' hg' => by rw [← Option.some.inj hg']; exact hF) ht (fun b hb => hb)
  refine ⟨hr.size, hr.defers, fun b hb => Nat.lt_of_lt_of_le (hr.lt b hb) ht.size, hr.base, hr.new, hr.below.turn ht (fun g' hg' => by rw [← Option.some.inj hg']; exact hr.kown _ hm g hblk), Nat.le_trans hr.hB ht.size, fun t => keep (hr.env t), ?_, hr.up, fun p hp => by
    rcases Obs.mem_upd hp with ⟨h1, _⟩ | ⟨h1, _⟩
    · rw [h1]; exact fun g hg => hr.kown (id, ob) hm g hg
    · exact hr.kown p h1, hr.fixed⟩
  have hmem : ∀ p, p ∈ Obs.upd id ob' σ → p.1 = id → p = (id, ob') := fun p hp he => by
    rcases Obs.mem_upd hp with ⟨h1, _⟩ | ⟨_, h2⟩
    · exact h1
    · exact absurd he h2
  have hold : ∀ p, p ∈ Obs.upd id ob' σ → p.1 ≠ id → p ∈ σ := fun p hp he => by
    rcases Obs.mem_upd hp with ⟨h1, _⟩ | ⟨h1, _⟩
    · rw [h1] at he; exact absurd rfl he
    · exact h1
  refine ⟨fun p hp => ?_, fun p hp q hq hne g' hg' => ?_, fun p hp q hq he => ?_⟩
  · by_cases hpi : p.1 = id
    · rw [hmem p hp hpi]; exact hob
    · have hp' := hold p hp hpi
      have h1 := hr.obs.ok p hp'
      have hne : ∀ g', blk (ρ p.1) = some g' → (some g) ≠ some g' := fun g' hg' he => by
        have := hr.obs.apart p hp' _ hm hpi g' hg'
        rw [hblk, he] at this
        exact this rfl
      obtain ⟨i, ob2⟩ := p
      cases ob2 with
      | row ee size els =>
        obtain ⟨xs, h2, h3, h4, h5⟩ := h1
        exact ⟨xs, ownsRow_turn h2 ht hne, h3, fun k hk j hj => ⟨(h4 k hk j hj).1, repS_d (keep (.d (h4 k hk j hj).2))⟩, h5⟩
      | cells ss2 =>
        obtain ⟨g2, e2, cs2, h2, h3, h4, h5, h6, h7⟩ := h1
        refine ⟨g2, e2, cs2, h2, h3, h4, ?_, h6, fun j hj hj' => ⟨(h7 j hj hj').1, keep (h7 j hj hj').2⟩⟩
        rw [ht.block g2 (Array.getElem?_eq_some_iff.1 h5).1 (fun he => hne g2 (by rw [h2]; rfl) he.symm)]
        exact h5
      | cellsT ty0 ss2 =>
        obtain ⟨g2, cs2, h2, h3, h4, h5, h6, h7⟩ := h1
        refine ⟨g2, cs2, h2, h3, h4, ?_, h6, fun j hj hj' => ⟨(h7 j hj hj').1, keep (h7 j hj hj').2⟩⟩
        rw [ht.block g2 (Array.getElem?_eq_some_iff.1 h5).1 (fun he => hne g2 (by rw [h2]; rfl) he.symm)]
        exact h5
      | map M =>
        obtain ⟨g2, es, cl, h2, h3, h4, h5, h6, h7⟩ := h1
        refine ⟨g2, es, cl, h2, h3, h4, ?_, h6, fun j hj hj' => ⟨(h7 j hj hj').1, repS_d (keep (.d (h7 j hj hj').2))⟩⟩
        rw [ht.block g2 (Array.getElem?_eq_some_iff.1 h5).1 (fun he => hne g2 (by rw [h2]; rfl) he.symm)]
        exact h5
      | rowS ee size els =>
        obtain ⟨xs, h2, h3, h4, h5⟩ := h1
        exact ⟨xs, ownsRow_turn h2 ht hne, h3, fun k hk j hj => ⟨(h4 k hk j hj).1, keep (h4 k hk j hj).2⟩, h5⟩
      | bts l =>
        obtain ⟨g2, e2, cap2, cur2, fz2, h2, h3, h4, h5, h6⟩ := h1
        refine ⟨g2, e2, cap2, cur2, fz2, h2, h3, h4, ?_, h6⟩
        rw [ht.block g2 (Array.getElem?_eq_some_iff.1 h5).1 (fun he => hne g2 (by rw [h2]; rfl) he.symm)]
        exact h5
      | val ss =>
        obtain ⟨cs, h2, h3, h4⟩ := h1
        exact ⟨cs, h2, h3, fun j hj hj' => ⟨(h4 j hj hj').1, keep (h4 j hj hj').2⟩⟩
      | iter M done =>
        obtain ⟨g2, b2, es, cl, sn, c0, h2, h3, h4, h5, h6, h7, h8, h9⟩ := h1
        refine ⟨g2, b2, es, cl, sn, c0, h2, h3, h4, ?_, h6, ?_, h8, fun j hj hj' => ⟨(h9 j hj hj').1, repS_d (keep (.d (h9 j hj hj').2))⟩⟩
        · rw [ht.block g2 (Array.getElem?_eq_some_iff.1 h5).1 (fun he => hne g2 (by rw [h2]; rfl) he.symm)]
          exact h5
        · rw [ht.block b2 (hr.lt b2 h6) (fun he => hF (by rw [← Option.some.inj he]; exact h6))]
          exact h7
  · by_cases hpi : p.1 = id
    · have hq' := hold q hq (fun he => hne (by rw [hpi, he]))
      rw [hpi] at hg' hne
      exact hr.obs.apart _ hm q hq' hne g' hg'
    · have hp' := hold p hp hpi
      by_cases hqi : q.1 = id
      · rw [hqi] at hne ⊢
        exact hr.obs.apart p hp' _ hm hne g' hg'
      · exact hr.obs.apart p hp' q (hold q hq hqi) hne g' hg'
  · by_cases hpi : p.1 = id
    · rw [hmem p hp hpi, hmem q hq (by rw [← he, hpi])]
    · exact hr.obs.uniq p (hold p hp hpi) q (hold q hq (by rw [← he]; exact hpi)) he

/-- The cells of a row after a store inside one element. -/
theorem flat_store (xs : Nat → Nat → Value) (n size k j : Nat) (vs : List Value) (hk : k < n) (hj : j + vs.length ≤ size) :
    (flat xs n size).take (k * size + j) ++ vs ++ (flat xs n size).drop (k * size + j + vs.length) = flat (fun i q => if i = k ∧ j ≤ q ∧ q < j + vs.length then vs.getD (q - j) undef else xs i q) n size := by
  have hle : k * size + size ≤ n * size := by rw [← Nat.succ_mul]; exact Nat.mul_le_mul_right _ hk
  apply List.ext_getElem?
  intro p
  by_cases hp : p < n * size
  · have hs0 : 0 < size := by
      rcases Nat.eq_zero_or_pos size with h | h
      · subst h; omega
      · exact h
    have e1 : p = (p / size) * size + p % size := by rw [Nat.mul_comm]; exact (Nat.div_add_mod p size).symm
    have hlt1 : p / size < n := Nat.div_lt_of_lt_mul (by rw [Nat.mul_comm]; exact hp)
    have hlt2 : p % size < size := Nat.mod_lt _ hs0
    have hR := flatten_get (fun i q => if i = k ∧ j ≤ q ∧ q < j + vs.length then vs.getD (q - j) undef else xs i q) size n (p / size) (p % size) hlt1 hlt2
    have hL := flatten_get xs size n (p / size) (p % size) hlt1 hlt2
    rw [← e1] at hR hL
    have hR' : (flat (fun i q => if i = k ∧ j ≤ q ∧ q < j + vs.length then vs.getD (q - j) undef else xs i q) n size)[p]? = _ := hR
    have hL' : (flat xs n size)[p]? = some (xs (p / size) (p % size)) := hL
    rw [hR', get3]
    have hfl := flat_length xs n size
    rw [List.length_take, hfl, Nat.min_eq_left (by omega)]
    have cmp1 : p < k * size + j → ¬ (p / size = k ∧ j ≤ p % size ∧ p % size < j + vs.length) := by
      rintro h ⟨h1, h2, _⟩
      rw [h1] at e1; omega
    have cmp2 : k * size + j ≤ p → p < k * size + j + vs.length → p / size = k ∧ p % size = p - k * size := by
      intro h1 h2
      have h3 : p / size = k := Nat.div_eq_of_lt_le (by omega) (by rw [Nat.add_mul]; omega)
      exact ⟨h3, by rw [h3] at e1; omega⟩
    by_cases c1 : p < k * size + j
    · rw [if_pos c1, List.getElem?_take, if_pos c1, hL', if_neg (cmp1 c1)]
    · rw [if_neg c1]
      by_cases c2 : p < k * size + j + vs.length
      · obtain ⟨h1, h2⟩ := cmp2 (by omega) c2
        rw [if_pos c2, if_pos ⟨h1, by omega, by omega⟩, h2, show p - k * size - j = p - (k * size + j) by omega, List.getD_eq_getElem?_getD, List.getElem?_eq_getElem (by omega)]
        rfl
      · rw [if_neg c2, List.getElem?_drop, show k * size + j + vs.length + (p - (k * size + j + vs.length)) = p by omega, hL', if_neg]
        rintro ⟨h1, h2, h3⟩
        rw [h1] at e1; omega
  · rw [List.getElem?_eq_none (by simp [flat_length]; omega), List.getElem?_eq_none (by rw [flat_length]; omega)]

section
variable {cx : Cx} {ops : Array Oper} {o : Oper} {rest : List Oper} {e : Env} {σ : Obs} {Q : Post}
/-- b[k] = v, or b[k].f = v, b an own row. -/
theorem AOps.storeRow {t id off ee size len : Nat} {x y : Operand} {d : D} {els : List (List D)} {ds : List D} (hg : o.guard = none) (ht : o.dst = none) (ho : o.op = .store t x y) (hs : ∀ w, (sizeOf t).run cx.P w = .ok len w) (hx : e.ev x = .ptr id off) (hm : (id, Ob.row ee size els) ∈ σ)
    (hy : e.ev y = .d d) (h1 : d.one = true) (hl : d.parts.length = len) (k j : Nat) (hoff : off = k * size + j) (hd : els[k]? = some ds) (hj : j + len ≤ size)
    (q : AOps cx ops rest e (Obs.upd id (.row ee size (els.set k (ds.take j ++ d.parts ++ ds.drop (j + len)))) σ) Q) : AOps cx ops (o :: rest) e σ Q := by
  intro a w ⟨F, ρ, hr⟩
  have r1 := ev_rep (e := e) (x := x) (a := a) (fun t _ => hr.env t)
  have r2 := ev_rep (e := e) (x := y) (a := a) (fun t _ => hr.env t)
  rw [hx] at r1
  rw [hy] at r2
  obtain ⟨h3, h4⟩ := parts_rep (repS_d r2) h1
  have hlt : k < els.length := (List.getElem?_eq_some_iff.1 hd).1
  have hde : els[k] = ds := (List.getElem?_eq_some_iff.1 hd).2
  obtain ⟨xs, hown, hlen, hrep, hnF⟩ := hr.obs.ok _ hm
  dsimp only at hown hnF
  have hown' : w.ownsRow cx.B ee size (ρ id) els.length (flat xs els.length size) := hown
  rcases hown'.2 with ⟨_, h0⟩ | ⟨g, cap, cur, hv, hB, hh, hn, hmx, hcs, htk⟩
  · omega
  have hblk : blk (ρ id) = some g := by rw [hv]; rfl
  have hxv := ptr_at r1 hblk
  have hsz : (a.eval y).cells.size = len := by have := h3.1; rw [Array.length_toList] at this; omega
  have hle : k * size + size ≤ els.length * size := by rw [← Nat.succ_mul]; exact Nat.mul_le_mul_right _ hlt
  have hcap : els.length * size ≤ cap * size := Nat.mul_le_mul_right _ hn
  obtain ⟨w', h5, h6, h7⟩ := storeVar_run (P := cx.P) (off := off) hs hsz (cur := cur.toList) (by simpa using hh) (by rw [Array.length_toList]; omega) h4
  refine wpList_plain hg fun K hK => ?_
  unfold Oper.wp execOp
  simp only [ho, Instr.storeAt, hxv, Instr.sureAddr, Sem.run_bind, Sem.run_pure, Result.andThen_ok, h5]
  refine hK _ _ (q _ _ ⟨F, ρ, ?_⟩)
  rw [ht]
  have hvl : (a.eval y).cells.toList.length = len := by rw [Array.length_toList]; exact hsz
  have keep : ∀ {u : Value} {d : D}, Rep F w u d → Rep F w' u d := fun h => h.mono (fun b hb => hb) fun b hb => h6.block b (hr.lt b hb) (fun he => hnF g hblk (by rw [← Option.some.inj he]; exact hb))
  refine hr.writeOb hblk hm hB (hnF g hblk) h6 ⟨fun i p => if i = k ∧ j ≤ p ∧ p < j + (a.eval y).cells.toList.length then (a.eval y).cells.toList.getD (p - j) undef else xs i p, ?_, fun i hi => ?_, fun i hi p hp => ?_, hnF⟩
  · rw [List.length_set]
    have hst := flat_store xs els.length size k j (a.eval y).cells.toList hlt (by omega)
    refine ⟨flat_length _ _ _, .inr ⟨g, cap, _, hv, hB, h7, hn, hmx, ?_, ?_⟩⟩
    · simp only [List.size_toArray, List.length_append, List.length_take, List.length_drop, Array.length_toList, hcs, hsz]
      omega
    · refine Eq.trans ?_ hst
      rw [← htk]
      have hcl : cur.toList.length = cap * size := by rw [Array.length_toList]; exact hcs
      rw [hoff, ← hvl]
      apply List.ext_getElem?
      intro p
      by_cases hp : p < els.length * size
      · rw [List.getElem?_take, if_pos hp, get3, get3]
        simp only [List.length_take, hcl, List.getElem?_take, List.getElem?_drop]
        rw [Nat.min_eq_left (show k * size + j ≤ cap * size by omega), Nat.min_eq_left (show k * size + j ≤ min (els.length * size) (cap * size) by omega)]
        by_cases c1 : p < k * size + j
        · simp [c1, hp]
        · by_cases c2 : p < k * size + j + (a.eval y).cells.toList.length
          · simp only [c1, c2, if_false, if_true]
          · simp only [c1, c2, if_false]
            rw [if_pos (by omega)]
      · rw [List.getElem?_eq_none (by rw [List.length_take]; omega), List.getElem?_eq_none (by
          simp only [List.length_append, List.length_take, List.length_drop, hcl]
          omega)]
  · rw [List.getElem_set]
    split
    · rw [List.length_append, List.length_append, List.length_take, List.length_drop, hl]
      have := hlen k hlt
      rw [hde] at this
      omega
    · exact hlen i _
  · rw [List.length_set] at hi
    have hk2 := hlen k hlt
    rw [hde] at hk2
    simp only [List.getElem_set] at hp ⊢
    by_cases hik : k = i
    · subst hik
      simp only [if_true] at hp ⊢
      rw [List.length_append, List.length_append, List.length_take, List.length_drop, hl] at hp
      by_cases c1 : j ≤ p ∧ p < j + (a.eval y).cells.toList.length
      · simp only [c1, and_self, if_true]
        have hpl : p - j < (a.eval y).cells.toList.length := by omega
        rw [List.getD_eq_getElem?_getD, List.getElem?_eq_getElem hpl, Option.getD_some]
        refine ⟨h4 _ (List.getElem_mem _), keep ?_⟩
        rw [List.getElem_append_left (by simp; omega), List.getElem_append_right (by simp; omega)]
        have e1 : (List.take j ds).length = j := by simp; omega
        simp only [e1]
        exact h3.2 _ _ _
      · rw [if_neg (by rintro ⟨_, h8, h9⟩; exact c1 ⟨h8, h9⟩)]
        have h10 := hrep k hlt p (by rw [hde]; omega)
        simp only [hde] at h10
        refine ⟨h10.1, keep ?_⟩
        by_cases c2 : p < j
        · rw [List.getElem_append_left (by simp; omega), List.getElem_append_left (by simp; omega), List.getElem_take]
          exact h10.2
        · rw [List.getElem_append_right (by simp; omega), List.getElem_drop]
          have e1 : (List.take j ds ++ d.parts).length = j + len := by simp; omega
          simp only [e1]
          have e2 : j + len + (p - (j + len)) = p := by omega
          simp only [e2]
          exact h10.2
    · simp only [hik, if_false] at hp ⊢
      rw [if_neg (by rintro ⟨h8, _⟩; exact hik h8.symm)]
      exact ⟨(hrep i hi p hp).1, keep (hrep i hi p hp).2⟩

/-- A new own row. -/
theorem R0.newRow {cx : Cx} {F : Nat → Prop} {ρ : Nat → Value} {e : Env} {σ : Obs} {a : Act} {w w' : World} (hr : R0 cx F ρ e σ a w) {id dst el size : Nat} {els : List (List D)} {v : Value} (hid : ∀ p ∈ σ, p.1 ≠ id) (hd : dst < cx.N) (hbel : Below w.heap.size w w')
    (hob : ObOk cx.B F (fun j => if j = id then v else ρ j) w' id (.row el size els)) (hnew : ∀ g, blk v = some g → w.heap.size ≤ g) (hfx : cx.free id = true) :
    ∃ ρ', R0 cx F ρ' ((e.kill id).put (some dst) (.own id)) ((id, .row el size els) :: Obs.kill id σ) (a.put (some dst) v) w' := by
  refine ⟨fun j => if j = id then v else ρ j, ?_⟩
  have hE : Ext F w F w' := Ext.of_below hr.lt hbel
  have h2 := hr.turn (ρ' := fun j => if j = id then v else ρ j) (id := id) (ob := .row el size els) (row := none) (w' := w') (F' := F) (fun j hj => by simp [hj])
    ⟨hE.below.os, hE.below.tape, hE.below.output, hE.below.size, fun k hk _ => hE.below.block k hk⟩ hfx (fun g hg => by simp at hg) (fun b hb => hb) (fun b hb => .inl hb) hE.lt hob
    (fun g hg => by rw [if_pos rfl] at hg; exact .inr (hnew g hg)) ((id, .row el size els) :: Obs.kill id σ) (fun p hp => by
      cases hp with
      | head => exact .inl rfl
      | tail _ hp => obtain ⟨q, hq, rfl⟩ := Obs.mem_kill hp; exact .inr ⟨q, hq, hid q hq, rfl⟩)
  exact h2.put (o := ⟨some dst, .ready 0, 0, "", #[], none⟩) (v := v) (s := .own id) (Ext.refl h2.lt) (by
      have := RepS.own (F := F) (ρ := fun j => if j = id then v else ρ j) (w := w') id
      simpa using this) (by simpa [DstOk, Nat.blt_eq] using hd)

/-- make([]T, 0, c). -/
theorem AOps.make0 {t el : TypeId} {l c : Operand} {size bytes dst : Nat} {z : Value} {n : Int} (id : Nat) (hg : o.guard = none) (ht : o.dst = some dst) (hdn : Nat.blt dst cx.N = true) (ho : o.op = .makeSlice t l c) (T : ElemTy cx.P t el size bytes z)
    (hl : e.ev l = .d (.v (.int .i64 0))) (hc : e.ev c = .d (.v (.int .i64 n))) (h0 : 0 ≤ n) (hb : (bytes : Int) * n ≤ 281474976710656) (hn : n ≤ 9223372036854775807) (hid : Obs.fresh id σ = true)
    (k : AOps cx ops rest ((e.kill id).put (some dst) (.own id)) ((id, .row el size []) :: Obs.kill id σ) Q) (hfx : cx.free id = true := by rfl) : AOps cx ops (o :: rest) e σ Q := by
  intro a w ⟨F, ρ, hr⟩
  have hdn' : dst < cx.N := by simpa [Nat.blt_eq] using hdn
  have r1 := ev_rep (e := e) (x := l) (a := a) (fun t _ => hr.env t)
  have r2 := ev_rep (e := e) (x := c) (a := a) (fun t _ => hr.env t)
  rw [hl] at r1
  rw [hc] at r2
  obtain ⟨i, hi, hz0, hz1, hz2⟩ := info_parts T.hi
  have hrun := run_make (P := cx.P) w t el i z T.ht hi hz0 .i64 .i64 0 n (Int.le_refl _) h0 (by rw [hz2]; exact hb) hn
  rw [hz1] at hrun
  have hrow : (w.alloc (.cells (madeCells z.cells (n.toNat * size)) el)).ownsRow cx.B el size (.slice (some ⟨w.heap.size, 0, none⟩) (0 : Int).toNat n.toNat) 0 [] :=
    ⟨by simp, .inr ⟨w.heap.size, n.toNat, _, rfl, hr.hB, heap_alloc_new w _, Nat.zero_le _, by unfold maxLen; omega, by simp [madeCells], by simp⟩⟩
  obtain ⟨ρ', h5⟩ := hr.newRow (v := .slice (some ⟨w.heap.size, 0, none⟩) (0 : Int).toNat n.toNat) (els := []) (Obs.fresh_spec hid) hdn' ((Below.refl _ _).alloc (Nat.le_refl _) (.cells (madeCells z.cells (n.toNat * size)) el))
    ⟨fun _ _ => undef, by dsimp only; rw [if_pos rfl]; exact hrow, fun i hi => by simp at hi, fun i hi => by simp at hi, fun g hg hf => by dsimp only at hg; rw [if_pos rfl] at hg; simp [blk] at hg; have := hr.lt g hf; omega⟩
    (fun g hg => by simp [blk] at hg; omega) hfx
  refine wpList_plain hg fun K hK => ?_
  unfold Oper.wp execOp
  simp only [ho, repS_v r1, repS_v r2, Sem.run_bind, hrun, Result.andThen_ok, Sem.run_pure]
  have := k _ _ ⟨F, ρ', h5⟩
  rw [← ht] at this
  exact hK _ _ this
/-- make([]T, n), n told as an integer. -/
theorem AOps.makeI {t el : TypeId} {l c : Operand} {size bytes dst : Nat} {z : Value} {m : Int} (id n : Nat) (hg : o.guard = none) (ht : o.dst = some dst) (hdn : Nat.blt dst cx.N = true) (ho : o.op = .makeSlice t l c) (T : ElemTy cx.P t el size bytes z)
    (hl : e.ev l = .d (.v (.int .i64 m))) (hc : e.ev c = .d (.v (.int .i64 m))) (hmn : m = n) (hb : bytes * n ≤ 281474976710656) (hn : n ≤ 9223372036854775807) (h1 : z.cells.toList.all (·.oneCell') = true) (hid : Obs.fresh id σ = true)
    (k : AOps cx ops rest ((e.kill id).put (some dst) (.own id)) ((id, .row el size (List.replicate n (z.cells.toList.map D.v))) :: Obs.kill id σ) Q) (hfx : cx.free id = true := by rfl) : AOps cx ops (o :: rest) e σ Q := by
  subst hmn
  exact .make id hg ht hdn ho T hl hc hb hn h1 hid k hfx
end

section
variable {P : Program} {B : Nat} {ops : Array Oper} {o : Oper} {e : Env} {σ : Obs}
/-- An array type's elements. -/
structure ArrT (P : Program) (t el n size : Nat) : Prop where
  ht : P.underlying t = some (.array n el)
  hs : ∀ w, (sizeOf el).run P w = .ok size w
theorem ArrT.of {t el n size : Nat} (h : P.underlying t = some (.array n el)) (h2 : (P.info? el).map (·.size) = some size) : ArrT P t el n size := ⟨h, SizeT.of h2⟩
/-- The address of an element of an own array. -/
theorem AOp.indexArrP {t el n size id off : Nat} {x ix : Operand} {m : Int} {ik : IntKind} (ho : o.op = .indexAddr t x ix) (T : ArrT P t el n size) (hx : e.ev x = .ptr id off) (hi : e.ev ix = .d (.v (.int ik m))) (k : Nat) (hk : m = k) (hlt : k < n) :
    AOp P B ops o e σ (.ptr id (off + k * size)) :=
  .value fun F ρ w a hF hr _ => by
  have h1 := hr x (by rw [ho]; simp [Op.operands])
  have h2 := hr ix (by rw [ho]; simp [Op.operands])
  rw [hx] at h1
  rw [hi] at h2
  obtain ⟨g, hb, hv⟩ := ptr_blk h1
  refine ⟨.pointer (some ⟨g, off + k * size, none⟩), F, w, ?_, .ptr id _ g hb, Ext.refl hF⟩
  unfold execOp
  simp only [ho, hv, repS_v h2, hk]
  simp [Instr.indexAt, run_underlying T.ht, asIntOf, Instr.sureAddr, hlt, T.hs, addr_add]
/-- An element of an array value, of one cell. -/
theorem AOp.indexArr {t el n : Nat} {x ix : Operand} {m : Int} {ik : IntKind} {ds : List D} {d : D} (ho : o.op = .index t x ix) (T : ArrT P t el n 1) (hsc : Scal P el) (hx : e.ev x = .d (.agg ds)) (hi : e.ev ix = .d (.v (.int ik m))) (k : Nat) (hk : m = k) (hlt : k < n) (hd : ds[k]? = some d) :
    AOp P B ops o e σ (.d d) :=
  .value fun F ρ w a hF hr _ => by
  have h1 := hr x (by rw [ho]; simp [Op.operands])
  have h2 := hr ix (by rw [ho]; simp [Op.operands])
  rw [hx] at h1
  rw [hi] at h2
  have h3 := repS_d h1
  generalize hv : a.eval x = v at h3
  cases h3 with
  | agg cs _ hl hone h =>
    have hlt2 : k < ds.length := (List.getElem?_eq_some_iff.1 hd).1
    have hde : ds[k] = d := (List.getElem?_eq_some_iff.1 hd).2
    have hlt' : k < cs.length := by omega
    refine ⟨cs[k], F, w, ?_, .d (by rw [← hde]; exact h k hlt' hlt2), Ext.refl hF⟩
    unfold execOp
    simp only [ho, hv, repS_v h2, hk]
    simp [Instr.index, run_underlying T.ht, asIntOf, hlt, T.hs, part, hsc w, hlt']
end
end Go.Proofs.YtagdgclfnbiahaaDoor

namespace Go.Proofs.YtagdgclfnbiahaaDoor
open Go.RowKit

def ownB (σ : Obs) (ρ : Nat → Value) (b : Nat) : Prop := ∃ p ∈ σ, blk (ρ p.1) = some b
def RepSL (F : Nat → Prop) (ρ : Nat → Value) (w : World) (vs : List Value) (ss : List S) : Prop := vs.length = ss.length ∧ ∀ i (h1 : i < vs.length) (h2 : i < ss.length), RepS F ρ w vs[i] ss[i]

/-- How such a call ends: what was frozen stays; of the rest only the told objects may have changed. -/
structure XEnd (B : Nat) (F : Nat → Prop) (ρ : Nat → Value) (w : World) (σ : Obs) (F' : Nat → Prop) (ρ' : Nat → Value) (w' : World) (σ' : Obs) (chg : Nat → Bool) : Prop where
  up : ∀ b, F b → F' b
  new : ∀ b, F' b → F b ∨ (w.heap.size ≤ b ∨ ownB σ ρ b)
  lt : ∀ b, F' b → b < w'.heap.size
  kept : Kept (fun b => w.heap.size ≤ b ∨ ownB σ ρ b) w w'
  obs : ObsOk B F' ρ' w' σ'
  own : ∀ p ∈ σ', ∀ g, blk (ρ' p.1) = some g → w.heap.size ≤ g ∨ ownB σ ρ g
  same : ∀ i, chg i = false → ρ' i = ρ i

/-- f, called with what reads as ss, where the caller's objects are σ, returns what reads as d; the objects are σ' then. -/
def XCall (P : Program) (f : FuncId) (ss : List S) (σ σ' : Obs) (chg : Nat → Bool) (d : D) : Prop := Enters P f ∧
  ∀ (F : Nat → Prop) (ρ : Nat → Value) (B : Nat) (w : World) (vs : List Value), (∀ b, F b → b < w.heap.size) → B ≤ w.heap.size → ObsOk B F ρ w σ → RepSL F ρ w vs ss →
    Calls P f vs.toArray w fun e w' => ∃ v F' ρ', e = .returned v ∧ Rep F' w' v d ∧ XEnd B F ρ w σ F' ρ' w' σ' chg

theorem ObOk.more {B : Nat} {F F2 : Nat → Prop} {ρ : Nat → Value} {w : World} {id : Nat} {o : Ob} (h : ObOk B F ρ w id o) (hF : ∀ b, F b → b < w.heap.size) (hu : ∀ b, F b → F2 b) (hn : ∀ g, blk (ρ id) = some g → ¬ F2 g) : ObOk B F2 ρ w id o := by
  cases o with
  | row e size els =>
    obtain ⟨xs, h1, h2, h3, h4⟩ := h
    exact ⟨xs, h1, h2, fun k hk j hj => ⟨(h3 k hk j hj).1, (h3 k hk j hj).2.mono hu fun _ _ => rfl⟩, hn⟩
  | cells ss =>
    obtain ⟨g, e, cs, h1, h2, h3, h4, h5, h6⟩ := h
    exact ⟨g, e, cs, h1, h2, hn g (by rw [h1]; rfl), h4, h5, fun j hj hj' => ⟨(h6 j hj hj').1, RepS.turn (row := none) (h6 j hj hj').2 hF (fun g hg => by simp at hg) ⟨rfl, rfl, rfl, Nat.le_refl _, fun _ _ _ => rfl⟩ hu⟩⟩
  | cellsT ty0 ss =>
    obtain ⟨g, cs, h1, h2, h3, h4, h5, h6⟩ := h
    exact ⟨g, cs, h1, h2, hn g (by rw [h1]; rfl), h4, h5, fun j hj hj' => ⟨(h6 j hj hj').1, RepS.turn (row := none) (h6 j hj hj').2 hF (fun g hg => by simp at hg) ⟨rfl, rfl, rfl, Nat.le_refl _, fun _ _ _ => rfl⟩ hu⟩⟩
  | map M =>
    obtain ⟨g, es, cl, h1, h2, h3, h4, h5, h6⟩ := h
    exact ⟨g, es, cl, h1, h2, hn g (by rw [h1]; rfl), h4, h5, fun j hj hj' => ⟨(h6 j hj hj').1, (h6 j hj hj').2.mono hu fun _ _ => rfl⟩⟩
  | rowS e size els =>
    obtain ⟨xs, h1, h2, h3, h4⟩ := h
    exact ⟨xs, h1, h2, fun k hk j hj => ⟨(h3 k hk j hj).1, RepS.turn (row := none) (h3 k hk j hj).2 hF (fun g hg => by simp at hg) ⟨rfl, rfl, rfl, Nat.le_refl _, fun _ _ _ => rfl⟩ hu⟩, hn⟩
  | bts l =>
    obtain ⟨g, e, cap, cur, fz, h1, h2, h3, h4, h5⟩ := h
    exact ⟨g, e, cap, cur, fz, h1, h2, hn g (by rw [h1]; rfl), h4, h5⟩
  | val ss =>
    obtain ⟨cs, h1, h2, h3⟩ := h
    exact ⟨cs, h1, h2, fun j hj hj' => ⟨(h3 j hj hj').1, RepS.turn (row := none) (h3 j hj hj').2 hF (fun g hg => by simp at hg) ⟨rfl, rfl, rfl, Nat.le_refl _, fun _ _ _ => rfl⟩ hu⟩⟩
  | iter M done =>
    obtain ⟨g, b, es, cl, sn, c0, h1, h2, h3, h4, h5, h6, h7, h8⟩ := h
    exact ⟨g, b, es, cl, sn, c0, h1, h2, hn g (by rw [h1]; rfl), h4, hu b h5, h6, h7, fun j hj hj' => ⟨(h8 j hj hj').1, (h8 j hj hj').2.mono hu fun _ _ => rfl⟩⟩

def Env.argsS : Nat → List S → Env
  | _, [] => fun _ => .d .any
  | k, d :: ds => fun u => match Nat.beq u k with | true => d | false => Env.argsS (k + 1) ds u
theorem Env.argsS_get : ∀ (ds : List S) (k t : Nat), (h : t < ds.length) → Env.argsS k ds (k + t) = ds[t]
  | [], _, _, h => absurd h (by simp)
  | d :: ds, k, t, h => by
    cases t with
    | zero => simp [Env.argsS]
    | succ t =>
      have hb : Nat.beq (k + (t + 1)) k = false := by rw [Bool.eq_false_iff]; intro hh; have := Nat.eq_of_beq_eq_true hh; omega
      simp only [Env.argsS, hb]
      have := Env.argsS_get ds (k + 1) t (by simpa using h)
      rw [show k + (t + 1) = k + 1 + t by omega, this]
      simp
theorem Env.argsS_out : ∀ (ds : List S) (k t : Nat), (h : ds.length ≤ t) → Env.argsS k ds (k + t) = .d .any
  | [], _, _, _ => rfl
  | d :: ds, k, t, h => by
    have hb : Nat.beq (k + t) k = false := by rw [Bool.eq_false_iff]; intro hh; have := Nat.eq_of_beq_eq_true hh; simp at h; omega
    simp only [Env.argsS, hb]
    have := Env.argsS_out ds (k + 1) (t - 1) (by simp at h; omega)
    rw [show k + t = k + 1 + (t - 1) by simp at h; omega, this]

def RetDX (e : Env) (σ σ' : Obs) (t : Nat) (d : D) : Prop := (∃ d0, e t = .d d0 ∧ Le d0 d) ∨ ∃ id ee size els, e t = .own id ∧ (id, Ob.row ee size els) ∈ σ ∧ (∀ q ∈ σ', q.1 ≠ id) ∧ d = .sl els
theorem RetDX.eq {e : Env} {σ σ' : Obs} {t : Nat} {d d' : D} (h : e t = .d d) (hd : d = d') : RetDX e σ σ' t d' := .inl ⟨d, h, Le.of_eq hd⟩
theorem RetDX.own {e : Env} {σ σ' : Obs} {t id ee size : Nat} {els els' : List (List D)} (h : e t = .own id) (hm : (id, Ob.row ee size els) ∈ σ) (hn : Obs.fresh id σ' = true) (hd : els = els') : RetDX e σ σ' t (.sl els') :=
  .inr ⟨id, ee, size, els, h, hm, Obs.fresh_spec hn, by rw [hd]⟩
def RetLX (e : Env) (σ σ' : Obs) : List Nat → List D → Prop
  | [], [] => True
  | t :: ts, d :: ds => RetDX e σ σ' t d ∧ RetLX e σ σ' ts ds
  | _, _ => False
def AllIn (σ : Obs) : Obs → Prop
  | [] => True
  | p :: l => p ∈ σ ∧ AllIn σ l
theorem AllIn.mem {σ : Obs} : ∀ {l : Obs}, AllIn σ l → ∀ p ∈ l, p ∈ σ
  | [], _, p, hp => by cases hp
  | x :: l, h, p, hp => by
    cases hp with
    | head => exact h.1
    | tail _ hp => exact h.2.mem p hp
def RetX (ts : List Nat) (ds : List D) (σ' : Obs) : Post := fun ex e σ => match ex with
  | .ret => RetLX e σ σ' ts ds ∧ AllIn σ σ'
  | .normal => RetLX e σ σ' ts ds ∧ AllIn σ σ'
  | _ => False

def endFX (F : Nat → Prop) (ρ : Nat → Value) (σ σ' : Obs) : Nat → Prop := fun b => F b ∨ ∃ p ∈ σ, (∀ q ∈ σ', q.1 ≠ p.1) ∧ blk (ρ p.1) = some b

theorem RetDX.rep {cx : Cx} {F : Nat → Prop} {ρ : Nat → Value} {e : Env} {σ σ' : Obs} {a : Act} {w : World} (h : R0 cx F ρ e σ a w) {t : Nat} {d : D} (hd : RetDX e σ σ' t d) : Rep (endFX F ρ σ σ') w (a.tmps.getD t undef) d := by
  have hx := h.env t
  rcases hd with ⟨d0, h1, h2⟩ | ⟨id, ee, size, els, h1, h2, h3, rfl⟩
  · rw [h1] at hx
    exact h2 _ _ _ ((repS_d hx).mono (fun b hb => .inl hb) fun _ _ => rfl)
  · rw [h1] at hx
    generalize a.tmps.getD t undef = x at hx
    cases hx
    exact h.rep_row h2 (fun b hb => .inl hb) (fun g hg => .inr ⟨_, h2, h3, hg⟩)
theorem RetLX.rep {cx : Cx} {F : Nat → Prop} {ρ : Nat → Value} {e : Env} {σ σ' : Obs} {a : Act} {w : World} (h : R0 cx F ρ e σ a w) : ∀ {ts : List Nat} {ds : List D}, RetLX e σ σ' ts ds → RepL (endFX F ρ σ σ') w (ts.map fun t => a.tmps.getD t undef) ds
  | [], [], _ => RepL.nil
  | _ :: _, _ :: _, hd => RepL.cons (hd.1.rep h) (RetLX.rep h hd.2)
  | [], _ :: _, hd => hd.elim
  | _ :: _, [], hd => hd.elim

theorem xcall_of {P : Program} {f : FuncId} {fn : Func} {c : Code} {n : Nat} {ss : List S} {σ σ' : Obs} {chg : Nat → Bool} {ds' : List D} (hf : P.funcs[f]? = some fn) (hb : fn.body = some c) (hn : (fn.name == "runtime.NumGoroutine") = false) (hN : fn.ntmps = n)
    (ts : List Nat) (hr : fn.results = (ts.map ResultVar.tmp).toArray) (hle' : Nat.ble ss.length n = true)
    (h : ∀ B w0 F0 fr ρ0, AWP ⟨P, n, B, w0, F0, fr, fun i => !(chg i), ρ0⟩ c (Env.argsS 0 ss) σ (RetX ts ds' σ')) : XCall P f ss σ σ' chg (retOf ds') := by
  have hle : ss.length ≤ n := Nat.le_of_ble_eq_true hle'
  refine ⟨Enters.of hf hn (by rw [hb]; rfl), fun F ρ B w vs hF hB hσ hv => ?_⟩
  refine calls_of_wp hf hb ?_
  have hR : R ⟨P, n, B, w, F, (fun b => w.heap.size ≤ b ∨ ownB σ ρ b), fun i => !(chg i), ρ⟩ (Env.argsS 0 ss) σ { tmps := vs.toArray ++ Array.replicate (fn.ntmps - vs.toArray.size) undef, defers := [] } w := by
    refine ⟨F, ρ, ?_, rfl, hF, fun b hb => hb, fun b hb => .inl hb, Kept.refl _ _, hB, fun t => ?_, hσ, fun b hb => .inl hb, fun p hp g hg => .inr ⟨p, hp, hg⟩, fun i _ => rfl⟩
    · simp [hN, hv.1]; omega
    · by_cases ht : t < ss.length
      · have := Env.argsS_get ss 0 t ht
        rw [Nat.zero_add] at this
        rw [this]
        have hvt : t < vs.length := by rw [hv.1]; exact ht
        have : (vs.toArray ++ Array.replicate (fn.ntmps - vs.toArray.size) undef).getD t undef = vs[t] := by
          rw [Array.getD_eq_getD_getElem?, Array.getElem?_append_left (by simpa using hvt)]
          simp [hvt]
        rw [this]
        exact hv.2 t hvt ht
      · have := Env.argsS_out ss 0 t (by omega)
        rw [Nat.zero_add] at this
        rw [this]
        exact .d (.any _)
  refine wp_mono (h _ _ _ _ _ _ _ hR) ?_
  rintro ex a w' ⟨e', σe, hq, F', ρ', hr'⟩
  have hres : (results fn a.tmps).run P w' = .ok (match ts.map fun t => a.tmps.getD t undef with | [x] => x | l => .tuple l.toArray) w' := by
    have key : ∀ (ts : List Nat), (List.mapM (fun r => match r with | .tmp t => pure (a.tmps.getD t undef) | .cell b t => do loadVar t (← asAddr (a.tmps.getD b undef))) (ts.map ResultVar.tmp) : Sem (List Value)).run P w' = .ok (ts.map fun t => a.tmps.getD t undef) w' := by
      intro ts
      induction ts with
      | nil => rfl
      | cons t ts ih =>
        rw [List.map_cons, List.mapM_cons, Sem.run_bind]
        simp only [Sem.run_pure, Result.andThen_ok, Sem.run_bind, ih, List.map_cons]
    unfold results
    rw [hr, Sem.run_bind]
    have h2 : (Array.mapM (fun r => match r with | ResultVar.tmp t => pure (a.tmps.getD t undef) | ResultVar.cell b t => do loadVar t (← asAddr (a.tmps.getD b undef))) (ts.map ResultVar.tmp).toArray : Sem (Array Value)).run P w' = .ok (ts.map fun t => a.tmps.getD t undef).toArray w' := by
      rw [List.mapM_toArray, Sem.run_map, key]
      rfl
    have h3 := h2
    refine (congrArg (fun r => Result.andThen r _) h3).trans ?_
    simp only [Result.andThen_ok]
    rcases ts with _ | ⟨t, _ | ⟨t2, ts⟩⟩ <;> rfl
  have hends : RetLX e' σe σ' ts ds' ∧ AllIn σe σ' → bodyPost P fn (fun e w' => ∃ v F' ρ', e = .returned v ∧ Rep F' w' v (retOf ds') ∧ XEnd B F ρ w σ F' ρ' w' σ' chg) .ret a w' := by
    rintro ⟨hq, hin⟩
    have hl := hq.rep hr'
    have hin := hin.mem
    refine ⟨hr'.defers, _, hres, _, endFX F' ρ' σe σ', ρ', rfl, ?_, ?_⟩
    · generalize (ts.map fun t => a.tmps.getD t undef) = vs' at hl
      obtain ⟨h1, h2⟩ := hl
      rcases ds' with _ | ⟨d, _ | ⟨d2, ds'⟩⟩
      · have : vs' = [] := List.eq_nil_of_length_eq_zero h1
        subst this
        exact .tup [] [] rfl (fun i h1 => absurd h1 (by simp))
      · rcases vs' with _ | ⟨x, _ | ⟨y, vs'⟩⟩ <;> simp at h1
        exact h2 0 (by simp) (by simp)
      · rcases vs' with _ | ⟨x, _ | ⟨y, vs'⟩⟩
        · simp at h1
        · simp at h1
        · exact .tup _ _ h1 h2
    · have hlt : ∀ b, endFX F' ρ' σe σ' b → b < w'.heap.size := by
        rintro b (hb | ⟨p, hp, _, hb⟩)
        · exact hr'.lt b hb
        · exact ((hr'.obs.ok p hp).blk_lt hb).2
      refine ⟨fun b hb => .inl (hr'.base b hb), ?_, hlt, hr'.below, ⟨fun p hp => ?_, fun p hp q hq => hr'.obs.apart p (hin p hp) q (hin q hq), fun p hp q hq => hr'.obs.uniq p (hin p hp) q (hin q hq)⟩, fun p hp => hr'.kown p (hin p hp), fun i hi => hr'.fixed i (by show (!(chg i)) = true; rw [hi]; rfl)⟩
      · rintro b (hb | ⟨p, hp, _, hb⟩)
        · exact hr'.new b hb
        · exact .inr (hr'.kown p hp b hb)
      · refine (hr'.obs.ok p (hin p hp)).more hr'.lt (fun b hb => .inl hb) ?_
        rintro g hg (hf | ⟨q, hq, hne, hb⟩)
        · exact (hr'.obs.ok p (hin p hp)).nF hg hf
        · exact hr'.obs.apart p (hin p hp) q hq (hne p hp) g hg hb
  cases ex with
  | ret => exact hends hq
  | normal => exact hends hq
  | exit id => exact hq.elim
  | goto l => exact hq.elim
  | panic c => exact hq.elim
  | outgrown => exact hq.elim

/-! ## The caller -/
def S.killP (c : Nat → Bool) : S → S
  | .own i => match c i with | true => .d .any | false => .own i
  | .ptr i off => match c i with | true => .d .any | false => .ptr i off
  | .d x => .d x
  | .clo f caps => match Cap.anyP c caps with | true => .d .any | false => .clo f caps
def Env.killP (c : Nat → Bool) (e : Env) : Env := fun t => (e t).killP c
def Ob.killP (c : Nat → Bool) : Ob → Ob
  | .row e size els => .row e size els
  | .cells ss => .cells (ss.map (S.killP c))
  | .cellsT e ss => .cellsT e (ss.map (S.killP c))
  | .map M => .map M
  | .rowS e size els => .rowS e size (els.map fun ss => ss.map (S.killP c))
  | .bts l => .bts l
  | .val ss => .val (ss.map (S.killP c))
  | .iter M done => .iter M done
def Obs.killP (c : Nat → Bool) : Obs → Obs
  | [] => []
  | p :: l => (p.1, p.2.killP c) :: Obs.killP c l
def Obs.dels : Obs → Obs → Obs
  | [], σ => σ
  | p :: l, σ => Obs.dels l (Obs.del p.1 σ)
def Obs.join : Obs → Obs → Obs
  | [], σ => σ
  | p :: l, σ => p :: Obs.join l σ
def Obs.allIds (c : Nat → Bool) : Obs → Bool
  | [] => true
  | p :: l => c p.1 && Obs.allIds c l
theorem Obs.allIds_mem {c : Nat → Bool} : ∀ {σ : Obs}, Obs.allIds c σ = true → ∀ p ∈ σ, c p.1 = true
  | [], _, p, hp => by cases hp
  | x :: l, h, p, hp => by
    simp only [Obs.allIds, Bool.and_eq_true] at h
    cases hp with
    | head => exact h.1
    | tail _ hp => exact Obs.allIds_mem h.2 p hp
theorem Obs.mem_join {a b : Obs} {p : Nat × Ob} : p ∈ Obs.join a b → p ∈ a ∨ p ∈ b := by
  induction a with
  | nil => exact fun h => .inr h
  | cons x l ih =>
    intro h
    cases h with
    | head => exact .inl (.head _)
    | tail _ h => exact (ih h).imp (.tail _) id
theorem Obs.mem_killP {c : Nat → Bool} : ∀ {σ : Obs} {p : Nat × Ob}, p ∈ Obs.killP c σ → ∃ q ∈ σ, p = (q.1, q.2.killP c)
  | [], _, h => by cases h
  | x :: l, p, h => by
    unfold Obs.killP at h
    cases h with
    | head => exact ⟨x, by simp, rfl⟩
    | tail _ h => obtain ⟨q, hq, he⟩ := Obs.mem_killP h; exact ⟨q, List.mem_cons_of_mem _ hq, he⟩
theorem Obs.mem_dels : ∀ {l σ : Obs} {p : Nat × Ob}, p ∈ Obs.dels l σ → p ∈ σ ∧ ∀ q ∈ l, p.1 ≠ q.1
  | [], _, _, h => ⟨h, fun q hq => by cases hq⟩
  | x :: l, σ, p, h => by
    obtain ⟨h1, h2⟩ := Obs.mem_dels (l := l) h
    obtain ⟨h3, h4⟩ := Obs.mem_del h1
    refine ⟨h3, fun q hq => ?_⟩
    cases hq with
    | head => exact h4
    | tail _ hq => exact h2 q hq

theorem RepS.over {F F' : Nat → Prop} {ρ ρ' : Nat → Value} {w w' : World} {x : Value} {s : S} {chg : Nat → Bool} (h : RepS F ρ w x s) (hu : ∀ b, F b → F' b) (hw : ∀ b, F b → w'.heap[b]? = w.heap[b]?) (hρ : ∀ i, chg i = false → ρ' i = ρ i) : RepS F' ρ' w' x (s.killP chg) := by
  cases h with
  | d h => exact .d (h.mono hu hw)
  | own i =>
    cases hb : chg i with
    | true => simp only [S.killP, hb]; exact .d (.any _)
    | false => simp only [S.killP, hb]; rw [← hρ i hb]; exact .own i
  | ptr i off g h =>
    cases hb : chg i with
    | true => simp only [S.killP, hb]; exact .d (.any _)
    | false => simp only [S.killP, hb]; exact .ptr i off g (by rw [hρ i hb]; exact h)
  | clo f cs caps h =>
    cases hb : Cap.anyP chg caps with
    | true => simp only [S.killP, hb]; exact .d (.any _)
    | false => simp only [S.killP, hb]; exact .clo f cs caps (h.to chg (fun _ _ h => h.mono hu hw) hρ hb)

theorem ObOk.over {B : Nat} {F F' : Nat → Prop} {ρ ρ' : Nat → Value} {w w' : World} {id : Nat} {o : Ob} {chg : Nat → Bool} (h : ObOk B F ρ w id o) (hid : chg id = false) (hu : ∀ b, F b → F' b) (hw : ∀ b, F b → w'.heap[b]? = w.heap[b]?) (hρ : ∀ i, chg i = false → ρ' i = ρ i)
    (hg : ∀ g, blk (ρ id) = some g → w'.heap[g]? = w.heap[g]? ∧ ¬ F' g) : ObOk B F' ρ' w' id (o.killP chg) := by
  cases o with
  | row e size els =>
    obtain ⟨xs, h1, h2, h3, h4⟩ := h
    refine ⟨xs, ?_, h2, fun k hk j hj => ⟨(h3 k hk j hj).1, (h3 k hk j hj).2.mono hu hw⟩, fun g hg' => (hg g (by rw [← hρ id hid]; exact hg')).2⟩
    rw [hρ id hid]
    refine ⟨h1.1, ?_⟩
    rcases h1.2 with h5 | ⟨g, cap, cur, h5, h6, h7, h8⟩
    · exact .inl h5
    · refine .inr ⟨g, cap, cur, h5, h6, ?_, h8⟩
      rw [(hg g (by rw [h5]; rfl)).1]
      exact h7
  | cells ss =>
    obtain ⟨g, e, cs, h1, h2, h3, h4, h5, h6⟩ := h
    have hgg := hg g (by rw [h1]; rfl)
    refine ⟨g, e, cs, by rw [hρ id hid]; exact h1, h2, hgg.2, by rw [hgg.1]; exact h4, by simp [h5], fun j hj hj' => ⟨(h6 j hj (by simpa using hj')).1, ?_⟩⟩
    rw [List.getElem_map]
    exact (h6 j hj (by simpa using hj')).2.over hu hw hρ
  | cellsT ty0 ss =>
    obtain ⟨g, cs, h1, h2, h3, h4, h5, h6⟩ := h
    have hgg := hg g (by rw [h1]; rfl)
    refine ⟨g, cs, by rw [hρ id hid]; exact h1, h2, hgg.2, by rw [hgg.1]; exact h4, by simp [h5], fun j hj hj' => ⟨(h6 j hj (by simpa using hj')).1, ?_⟩⟩
    rw [List.getElem_map]
    exact (h6 j hj (by simpa using hj')).2.over hu hw hρ
  | map M =>
    obtain ⟨g, es, cl, h1, h2, h3, h4, h5, h6⟩ := h
    have hgg := hg g (by rw [h1]; rfl)
    exact ⟨g, es, cl, by rw [hρ id hid]; exact h1, h2, hgg.2, by rw [hgg.1]; exact h4, h5, fun j hj hj' => ⟨(h6 j hj hj').1, (h6 j hj hj').2.mono hu hw⟩⟩
  | rowS e size els =>
    obtain ⟨xs, h1, h2, h3, h4⟩ := h
    refine ⟨xs, ?_, fun k hk => by rw [List.getElem_map, List.length_map]; exact h2 k (by simpa using hk), fun k hk j hj => ?_, fun g hg' => (hg g (by rw [← hρ id hid]; exact hg')).2⟩
    · rw [hρ id hid, List.length_map]
      refine ⟨h1.1, ?_⟩
      rcases h1.2 with h5 | ⟨g, cap, cur, h5, h6, h7, h8⟩
      · exact .inl h5
      · refine .inr ⟨g, cap, cur, h5, h6, ?_, h8⟩
        rw [(hg g (by rw [h5]; rfl)).1]
        exact h7
    · have hk' : k < els.length := by simpa using hk
      have hj' : j < els[k].length := by simpa using hj
      simp only [List.getElem_map]
      exact ⟨(h3 k hk' j hj').1, (h3 k hk' j hj').2.over hu hw hρ⟩
  | bts l =>
    obtain ⟨g, e, cap, cur, fz, h1, h2, h3, h4, h5⟩ := h
    have hgg := hg g (by rw [h1]; rfl)
    exact ⟨g, e, cap, cur, fz, by rw [hρ id hid]; exact h1, h2, hgg.2, by rw [hgg.1]; exact h4, h5⟩
  | val ss =>
    obtain ⟨cs, h1, h2, h3⟩ := h
    refine ⟨cs, by rw [hρ id hid]; exact h1, by simp [h2], fun j hj hj' => ⟨(h3 j hj (by simpa using hj')).1, ?_⟩⟩
    rw [List.getElem_map]
    exact (h3 j hj (by simpa using hj')).2.over hu hw hρ
  | iter M done =>
    obtain ⟨g, b, es, cl, sn, c0, h1, h2, h3, h4, h5, h6, h7, h8⟩ := h
    have hgg := hg g (by rw [h1]; rfl)
    exact ⟨g, b, es, cl, sn, c0, by rw [hρ id hid]; exact h1, h2, hgg.2, by rw [hgg.1]; exact h4, hu b h5, by rw [hw b h5]; exact h6, h7, fun j hj hj' => ⟨(h8 j hj hj').1, (h8 j hj hj').2.mono hu hw⟩⟩

theorem ObsOk.sub {B : Nat} {F : Nat → Prop} {ρ : Nat → Value} {w : World} {σ σ' : Obs} (h : ObsOk B F ρ w σ) (hs : ∀ p ∈ σ', p ∈ σ) : ObsOk B F ρ w σ' :=
  ⟨fun p hp => h.ok p (hs p hp), fun p hp q hq => h.apart p (hs p hp) q (hs q hq), fun p hp q hq => h.uniq p (hs p hp) q (hs q hq)⟩

/-- After such a call. -/
theorem R0.after {cx : Cx} {F F' : Nat → Prop} {ρ ρ' : Nat → Value} {e : Env} {σ σc σ' : Obs} {a : Act} {w w' : World} {chg : Nat → Bool} (hr : R0 cx F ρ e σ a w) (hin : ∀ p ∈ σc, p ∈ σ) (hx : XEnd cx.B F ρ w σc F' ρ' w' σ' chg)
    (h1 : Obs.allIds (fun i => !(chg i)) (Obs.dels σc σ) = true) (h2 : Obs.allIds (fun i => Obs.allIds (fun j => !(Nat.beq i j)) (Obs.dels σc σ)) σ' = true) (h3 : ∀ i, chg i = true → cx.fixp i = false) :
    R0 cx F' ρ' (e.killP chg) (Obs.join σ' (Obs.killP chg (Obs.dels σc σ))) a w' := by
  have hown : ∀ b, ownB σc ρ b → cx.fr b ∧ ¬ F b ∧ b < w.heap.size := fun b ⟨p, hp, hb⟩ => ⟨hr.kown p (hin p hp) b hb, (hr.obs.ok p (hin p hp)).nF hb, ((hr.obs.ok p (hin p hp)).blk_lt hb).2⟩
  have hfr : ∀ b, (w.heap.size ≤ b ∨ ownB σc ρ b) → cx.fr b := fun b hb => by
    rcases hb with hb | hb
    · exact hr.up _ (Nat.le_trans hr.below.size hb)
    · exact (hown b hb).1
  have hw : ∀ b, F b → w'.heap[b]? = w.heap[b]? := fun b hb => hx.kept.block b (hr.lt b hb) (fun hh => by
    rcases hh with hh | hh
    · have := hr.lt b hb; omega
    · exact (hown b hh).2.1 hb)
  have hrest : ∀ p ∈ Obs.dels σc σ, p ∈ σ ∧ (∀ q ∈ σc, p.1 ≠ q.1) ∧ chg p.1 = false := fun p hp => by
    obtain ⟨h4, h5⟩ := Obs.mem_dels hp
    have := Obs.allIds_mem h1 p hp
    exact ⟨h4, h5, by simpa using this⟩
  have hblk : ∀ p ∈ Obs.dels σc σ, ∀ g, blk (ρ p.1) = some g → g < w.heap.size ∧ ¬ ownB σc ρ g ∧ ¬ F g := fun p hp g hg => by
    obtain ⟨h4, h5, _⟩ := hrest p hp
    exact ⟨((hr.obs.ok p h4).blk_lt hg).2, fun ⟨q, hq, hb⟩ => hr.obs.apart p h4 q (hin q hq) (h5 q hq) g hg hb, (hr.obs.ok p h4).nF hg⟩
  refine ⟨hr.size, hr.defers, hx.lt, fun b hb => hx.up b (hr.base b hb), fun b hb => ?_, ?_, Nat.le_trans hr.hB hx.kept.size, fun t => (hr.env t).over hx.up hw hx.same, ?_, hr.up, fun p hp g hg => ?_, fun i hi => ?_⟩
  · rcases hx.new b hb with h4 | h4
    · exact hr.new b h4
    · exact .inr (hfr b h4)
  · exact ⟨hx.kept.os.trans hr.below.os, hx.kept.tape.trans hr.below.tape, hx.kept.output.trans hr.below.output, Nat.le_trans hr.below.size hx.kept.size, fun k hk hf => by
      rw [hx.kept.block k (Nat.lt_of_lt_of_le hk hr.below.size) (fun hh => hf (hfr k hh)), hr.below.block k hk hf]⟩
  · have hmix : ∀ p ∈ σ', ∀ q ∈ Obs.dels σc σ, p.1 ≠ q.1 ∧ ∀ g, blk (ρ' p.1) = some g → blk (ρ' q.1) ≠ some g := fun p hp q hq => by
      refine ⟨fun he => ?_, fun g hg hg2 => ?_⟩
      · have := Obs.allIds_mem (Obs.allIds_mem h2 p hp) q hq
        rw [he] at this
        simp at this
      · rw [hx.same _ (hrest q hq).2.2] at hg2
        obtain ⟨h4, h5, _⟩ := hblk q hq g hg2
        rcases hx.own p hp g hg with h6 | h6
        · omega
        · exact h5 h6
    refine ⟨fun p hp => ?_, fun p hp q hq hne g hg => ?_, fun p hp q hq he => ?_⟩
    · rcases Obs.mem_join hp with hp | hp
      · exact hx.obs.ok p hp
      · obtain ⟨q, hq, rfl⟩ := Obs.mem_killP hp
        obtain ⟨h4, h5, h6⟩ := hrest q hq
        refine (hr.obs.ok q h4).over h6 hx.up hw hx.same fun g hg => ?_
        obtain ⟨h7, h8, h9⟩ := hblk q hq g hg
        have hnn : ¬ (w.heap.size ≤ g ∨ ownB σc ρ g) := fun hh => by
          rcases hh with hh | hh
          · omega
          · exact h8 hh
        refine ⟨hx.kept.block g h7 hnn, fun hf => ?_⟩
        rcases hx.new g hf with h10 | h10
        · exact h9 h10
        · exact hnn h10
    · rcases Obs.mem_join hp with hp | hp
      · rcases Obs.mem_join hq with hq | hq
        · exact hx.obs.apart p hp q hq hne g hg
        · obtain ⟨q', hq', rfl⟩ := Obs.mem_killP hq
          exact (hmix p hp q' hq').2 g hg
      · obtain ⟨p', hp', rfl⟩ := Obs.mem_killP hp
        rcases Obs.mem_join hq with hq | hq
        · exact fun he => (hmix q hq p' hp').2 g he hg
        · obtain ⟨q', hq', rfl⟩ := Obs.mem_killP hq
          simp only at hg hne ⊢
          rw [hx.same _ (hrest p' hp').2.2] at hg
          rw [hx.same _ (hrest q' hq').2.2]
          exact hr.obs.apart p' (hrest p' hp').1 q' (hrest q' hq').1 hne g hg
    · rcases Obs.mem_join hp with hp | hp
      · rcases Obs.mem_join hq with hq | hq
        · exact hx.obs.uniq p hp q hq he
        · obtain ⟨q', hq', rfl⟩ := Obs.mem_killP hq
          exact absurd he (hmix p hp q' hq').1
      · obtain ⟨p', hp', rfl⟩ := Obs.mem_killP hp
        rcases Obs.mem_join hq with hq | hq
        · exact absurd he.symm (hmix q hq p' hp').1
        · obtain ⟨q', hq', rfl⟩ := Obs.mem_killP hq
          have := hr.obs.uniq p' (hrest p' hp').1 q' (hrest q' hq').1 he
          rw [this]
  · rcases Obs.mem_join hp with hp | hp
    · exact hfr g (hx.own p hp g hg)
    · obtain ⟨q, hq, rfl⟩ := Obs.mem_killP hp
      simp only at hg
      rw [hx.same _ (hrest q hq).2.2] at hg
      exact hr.kown q (hrest q hq).1 g hg
  · have : chg i = false := by
      cases hc : chg i with
      | false => rfl
      | true => rw [h3 i hc] at hi; simp at hi
    rw [hx.same i this]
    exact hr.fixed i hi

def ArgsS (e : Env) : List Operand → List S → Prop
  | [], [] => True
  | x :: xs, s :: ss => SLe (e.ev x) s ∧ ArgsS e xs ss
  | _, _ => False
theorem ArgsS.nil {e : Env} : ArgsS e [] [] := trivial
theorem ArgsS.cons {e : Env} {x : Operand} {s : S} {xs : List Operand} {ss : List S} (h : SLe (e.ev x) s) (k : ArgsS e xs ss) : ArgsS e (x :: xs) (s :: ss) := ⟨h, k⟩
theorem ArgsS.rep {e : Env} {F : Nat → Prop} {ρ : Nat → Value} {w : World} {a : Act} (ha : ∀ t, RepS F ρ w (a.tmps.getD t undef) (e t)) : ∀ {xs : List Operand} {ss : List S}, ArgsS e xs ss → RepSL F ρ w (xs.map a.eval) ss
  | [], [], _ => ⟨rfl, fun i h => absurd h (by simp)⟩
  | x :: xs, s :: ss, h => by
    have h1 := ArgsS.rep ha h.2
    refine ⟨by simp [h1.1], fun i h2 h3 => ?_⟩
    cases i with
    | zero => exact h.1 _ _ _ _ (ev_rep fun t _ => ha t)
    | succ i => exact h1.2 i (by simpa using h2) (by simpa using h3)
  | [], _ :: _, h => h.elim
  | _ :: _, [], h => h.elim

section
variable {cx : Cx} {ops : Array Oper} {o : Oper} {rest : List Oper} {e : Env} {σ : Obs} {Q : Post}
theorem AOps.callX {f : FuncId} {xs : List Operand} {ts : Array TypeId} {ss : List S} {σc σ' : Obs} {chg : Nat → Bool} {d : D} (hg : o.guard = none) (hd : DstOk cx.N o)
    (ho : o.op = .call { callee := .value (.func f), args := xs.toArray, argTypes := ts }) (ha : ArgsS e xs ss) (h : XCall cx.P f ss σc σ' chg d) (hin : AllIn σ σc)
    (h1 : Obs.allIds (fun i => !(chg i)) (Obs.dels σc σ) = true) (h2 : Obs.allIds (fun i => Obs.allIds (fun j => !(Nat.beq i j)) (Obs.dels σc σ)) σ' = true) (h3 : ∀ i, chg i = true → cx.fixp i = false)
    (k : AOps cx ops rest ((e.killP chg).put o.dst (.d d)) (Obs.join σ' (Obs.killP chg (Obs.dels σc σ))) Q) : AOps cx ops (o :: rest) e σ Q := by
  intro a w ⟨F, ρ, hr⟩
  have h4 := h.2 F ρ cx.B w _ hr.lt hr.hB (hr.obs.sub hin.mem) (ArgsS.rep hr.env ha)
  have h5 := h.1 (xs.map a.eval).toArray w
  have hx : (execOp a.eval o).run cx.P w = .ok (.enter f (xs.map a.eval).toArray) w := by
    unfold execOp
    simp only [ho, resolve, Deferred.ofValue, Act.eval, invoke, Sem.run_bind, Sem.run_pure, Result.andThen_ok]
    simpa using h5
  refine wpList_plain hg fun K hK => ?_
  unfold Oper.wp
  rw [hx]
  refine h4.mono fun _ w' ⟨v, F', ρ', he, hv, hE⟩ => ?_
  subst he
  exact hK _ _ (k _ _ ⟨F', ρ', (hr.after hin.mem hE h1 h2 h3).put (Ext.refl hE.lt) (.d hv) hd⟩)
end

end Go.Proofs.YtagdgclfnbiahaaDoor

namespace Go.Proofs.YtagdgclfnbiahaaDoor
open Go.RowKit
section
variable {P : Program} {B : Nat} {ops : Array Oper} {o : Oper} {e : Env} {σ : Obs}
theorem eqGuard_bool (op : BinOp) (t : TypeId) (x y : Operand) (a b : Bool) (w : World) : (eqGuard op t x y (.bool a) (.bool b)).run P w = .ok () w := by
  unfold eqGuard; cases op <;> rfl
theorem AOp.bneq {t ty : TypeId} {x y : Operand} {a b : Bool} (ho : o.op = .binOp .neq t x y ty) (ht : P.underlying t = some .bool) (hx : e.ev x = .d (.v (.bool a))) (hy : e.ev y = .d (.v (.bool b))) :
    AOp P B ops o e σ (.d (.v (.bool (decide (a ≠ b))))) := .bin ho hx hy fun w => by
  rw [Sem.run_bind, eqGuard_bool]
  have h : (Op.equal t (.bool a) (.bool b)).run P w = .ok (a == b) w := run_equalIn_bool w 9999 t a b ht
  simp only [Result.andThen_ok, binOp, Sem.run_bind, h, Sem.run_pure]
  cases a <;> cases b <;> rfl
theorem AOp.nilCheckP {x : Operand} {id off : Nat} (ho : o.op = .nilCheck x) (hx : e.ev x = .ptr id off) : AOp P B ops o e σ (.ptr id off) := .value fun F ρ w a hF hr _ => by
  have h1 := hr x (by rw [ho]; simp [Op.operands])
  rw [hx] at h1
  refine ⟨a.eval x, F, w, ?_, h1, Ext.refl hF⟩
  unfold execOp
  simp only [ho]
  generalize a.eval x = v at h1
  cases h1
  rfl
end
end Go.Proofs.YtagdgclfnbiahaaDoor

namespace Go.Proofs.YtagdgclfnbiahaaDoor
open Go.RowKit

/-- One cell an element, each of a plain value: the elder word for it. -/
theorem sl_of_rep {α : Type} {F : Nat → Prop} {w : World} {x : Value} (l : List α) (f : α → Value) (h : Rep F w x (.sl (l.map fun a => [D.v (f a)]))) : Sl w 1 x l.length (l.map f) := by
  refine ⟨by simp, ?_⟩
  rcases rep_sl_sl h with ⟨rfl, h2⟩ | ⟨ad, cap, size, vs, rfl, hc, hm, hF, hs, hcell, hone, hrep⟩
  · have : l = [] := by simpa using h2
    subst this
    exact .inl ⟨rfl, rfl⟩
  · rw [List.length_map] at hc hcell
    refine .inr ⟨ad, cap, by simp, hc, hm, fun i hi => ?_⟩
    rw [List.length_map] at hi
    have hs1 : size = 1 := by rw [← hs i (by simpa using hi)]; simp
    subst hs1
    have h3 := hcell i 0 hi (by omega)
    have h4 := hrep i (by simpa using hi) 0 (by simp)
    simp only [List.getElem_map, List.getElem_cons_zero] at h4
    rw [Nat.mul_one, Nat.add_zero] at h3
    rw [h3, rep_v h4]
    simp

def u8D (c : UInt8) : List D := [.v (.int .u8 (c.toNat : Int))]
def u32D (n : Nat) : List D := [.v (.int .u32 (n : Int))]
def intD (n : Int) : List D := [.v (.int .i64 n)]

theorem at_map {α : Type} {l : List α} {f : α → List D} {k : Nat} (h : k < l.length) : (l.map f)[k]? = some (f l[k]) := by simp [h]

section
variable {P : Program} {B : Nat} {ops : Array Oper} {o : Oper} {e : Env} {σ : Obs}
/-- string(b), b frozen bytes. -/
theorem AOp.bytesStr {s t el : TypeId} {x : Operand} {l : List UInt8} (ho : o.op = .convert s t x) (hs : P.underlying s = some (.slice el)) (he : P.underlying el = some (.int .u8)) (hd : P.underlying t = some .string) (hx : e.ev x = .d (.sl (l.map u8D))) :
    AOp P B ops o e σ (.d (.v (.string ⟨l.toArray⟩))) := .value fun F ρ w a hF hr _ => by
  have h1 := hr x (by rw [ho]; simp [Op.operands])
  rw [hx] at h1
  have h2 := sl_of_rep l (fun c => .int .u8 (c.toNat : Int)) (repS_d h1)
  refine ⟨_, F, w, ?_, .d (.v _), Ext.refl hF⟩
  unfold execOp
  simp only [ho]
  rw [Sem.run_bind]
  rcases h2.2 with ⟨h3, h4⟩ | ⟨ad, cap, h3, h4, h5, h6⟩
  · have : l = [] := List.eq_nil_of_length_eq_zero h4
    subst this
    rw [h3, run_convert_bytes_nil w s el hs he 0 0 t hd]
    rfl
  · rw [h3, run_convert_bytes_back w s t el ad cap l hs he hd (fun j hj => by
      have := h6 j (by simpa using hj)
      simpa using this)]
    rfl
end
end Go.Proofs.YtagdgclfnbiahaaDoor

namespace Go.Proofs.YtagdgclfnbiahaaDoor
open Go.ChangeShapes Go.WideShapes Go.ChangeAt Go.RowKit

theorem blk_append {H : Type} (l r : List (DataW H)) : Rows.uptoBulkAll (l ++ r) = Rows.uptoBulkAll l + Rows.uptoBulkAll r := by
  induction l with
  | nil => simp [Rows.uptoBulkAll]
  | cons x l ih => simp only [List.cons_append, Rows.uptoBulkAll, ih]; omega
def sumOf {α : Type} (B : α → Nat) : List α → Nat
  | [] => 0
  | x :: l => B x + sumOf B l
theorem sumOf_append {α : Type} (B : α → Nat) (l r : List α) : sumOf B (l ++ r) = sumOf B l + sumOf B r := by
  induction l with
  | nil => simp [sumOf]
  | cons x l ih => simp only [List.cons_append, sumOf, ih]; omega
theorem cells?_all {w : World} {base n : Nat} {ad : Addr} {cs : List Value} (h : w.cells? base ad n = some cs) : cs.length = n ∧ ∀ j (hj : j < cs.length), w.cell? (ad.add j) = some cs[j] := by
  unfold World.cells? at h
  split at h
  · have hl := mapM_some_length h
    simp at hl
    refine ⟨hl, fun j hj => ?_⟩
    have h2 := mapM_some_get h j j (by rw [List.getElem?_range (by omega)])
    rw [h2, List.getElem?_eq_getElem hj]
  · cases h

/-- All blocks that are there. -/
abbrev allF (w : World) : Nat → Prop := fun b => b < w.heap.size

/-- A reading of the type t is one of enc. -/
structure Opens {α : Type} (P : Program) (t size : Nat) (enc : α → List D) (ok : α → Prop) (B : α → Nat) : Prop where
  len : ∀ y, (enc y).length = size
  get : ∀ {H : Type} {encH : TypeId × Value → H} {w : World} {n : Nat} {cs : List Value} {x : DataW H × List MemPlace}, DataW.trod encH P w 0 (fun _ => true) true n t cs = some x → cs.length = size →
    ∃ y, ok y ∧ RepL (allF w) w cs (enc y) ∧ (∀ u ∈ cs, u.oneCell' = true) ∧ B y ≤ Rows.uptoBulk x.1

theorem Opens.map {α β : Type} {P : Program} {t size : Nat} {enc : α → List D} {ok : α → Prop} {B : α → Nat} {enc' : β → List D} {ok' : β → Prop} {B' : β → Nat} (O : Opens P t size enc ok B) (f : α → β) (h : ∀ y, enc' (f y) = enc y) (hl : ∀ y, (enc' y).length = size) (ho : ∀ y, ok y → ok' (f y)) (hb : ∀ y, B' (f y) ≤ B y) :
    Opens P t size enc' ok' B' :=
  ⟨hl, fun hx hc => by
    obtain ⟨y, h1, h2, h3, h4⟩ := O.get hx hc
    exact ⟨f y, ho y h1, by rw [h]; exact h2, h3, Nat.le_trans (hb y) h4⟩⟩

section
variable {P : Program} {t : Nat}
theorem opens_i64 (ht : P.underlying t = some (.int .i64)) : Opens P t 1 intD (fun n => -9223372036854775808 ≤ n ∧ n ≤ 9223372036854775807) (fun _ => 1) :=
  ⟨fun _ => rfl, fun hx _ => by
    obtain ⟨n, rfl, rfl, h1⟩ := DataW.trod_int ht hx
    have h2 : -9223372036854775808 ≤ n ∧ n ≤ 9223372036854775807 := by simpa [Lit.wf, IntKind.min, IntKind.max, IntKind.signed, IntKind.bits] using h1
    exact ⟨n, h2, RepL.cons (.v _) RepL.nil, fun u hu => by simp at hu; rw [hu]; rfl, by simp [Rows.uptoBulk]⟩⟩
def boolD (b : Bool) : List D := [.v (.bool b)]
def strD (s : ByteArray) : List D := [.v (.string s)]
theorem opens_str (ht : P.underlying t = some .string) : Opens P t 1 strD (fun s => s.size ≤ 9223372036854775807) (fun s => s.size + 1) :=
  ⟨fun _ => rfl, fun hx _ => by
    obtain ⟨s, rfl, rfl, h1⟩ := DataW.trod_string ht hx
    refine ⟨s, by unfold maxLen at h1; omega, RepL.cons (.v _) RepL.nil, fun u hu => by simp at hu; rw [hu]; rfl, ?_⟩
    simp only [Rows.uptoBulk, Array.length_toList]
    exact Nat.le_refl _⟩

def slD {α : Type} (enc : α → List D) (l : List α) : List D := [.sl (l.map enc)]
theorem opens_slice {α : Type} {e size : Nat} {enc : α → List D} {ok : α → Prop} {B : α → Nat} (ht : P.underlying t = some (.slice e)) (hc : P.cellsOf e = size) (hs : 0 < size) (O : Opens P e size enc ok B) :
    Opens P t 1 (slD enc) (fun l => ∀ y ∈ l, ok y) (fun l => sumOf B l + 1) :=
  ⟨fun _ => rfl, fun {H encH w n cs x} hx _ => by
    rcases DataW.trod_slice ht hx with ⟨rfl, rfl⟩ | ⟨a, len, cap, elems, rest, n', _, rfl, rfl, _, hl, hm, hlen, hel, _, _⟩
    · exact ⟨[], fun y hy => by simp at hy, RepL.cons .nil RepL.nil, fun u hu => by simp at hu; rw [hu]; rfl, by simp [sumOf, Rows.uptoBulk]⟩
    · have each : ∀ m, m ≤ len → ∃ l : List α, l.length = m ∧ (∀ y ∈ l, ok y) ∧ (∀ i (hi : i < l.length), ∃ cs : List Value, cs.length = size ∧ (∀ j (hj : j < cs.length), w.cell? ((a.add (i * size)).add j) = some cs[j]) ∧ RepL (allF w) w cs (enc l[i]) ∧ ∀ u ∈ cs, u.oneCell' = true) ∧
          sumOf B l ≤ Rows.uptoBulkAll ((elems.take m).map (·.1)) := by
        intro m
        induction m with
        | zero => intro _; exact ⟨[], rfl, fun y hy => by simp at hy, fun i hi => absurd hi (by simp), by simp [sumOf]⟩
        | succ m ih =>
          intro hm1
          obtain ⟨l, h1, h2, h3, h4⟩ := ih (by omega)
          have hme : m < elems.length := by omega
          have hh := hel m (by omega)
          rw [hc, List.getElem?_eq_getElem hme, Option.bind_eq_some_iff] at hh
          obtain ⟨cs, hcs, htr⟩ := hh
          obtain ⟨hcl, hcg⟩ := cells?_all hcs
          obtain ⟨y, hy1, hy2, hy3, hy4⟩ := O.get htr hcl
          refine ⟨l ++ [y], by simp [h1], fun z hz => ?_, fun i hi => ?_, ?_⟩
          · rw [List.mem_append] at hz
            rcases hz with hz | hz
            · exact h2 z hz
            · simp at hz; rw [hz]; exact hy1
          · rw [List.length_append, List.length_singleton] at hi
            by_cases hlt : i < l.length
            · rw [List.getElem_append_left hlt]; exact h3 i hlt
            · have he : i = m := by omega
              subst he
              refine ⟨cs, hcl, hcg, ?_, hy3⟩
              rw [List.getElem_append_right (by omega)]
              simpa using hy2
          · rw [List.take_succ_eq_append_getElem hme, List.map_append, blk_append, sumOf_append]
            simp only [sumOf, List.map_cons, List.map_nil, Rows.uptoBulkAll]
            omega
      obtain ⟨l, h1, h2, h3, h4⟩ := each len (Nat.le_refl _)
      have h6 : elems.take len = elems := List.take_of_length_le (by omega)
      rw [h6] at h4
      refine ⟨l, h2, RepL.cons ?_ RepL.nil, fun u hu => by simp at hu; rw [hu]; rfl, by simp only [Rows.uptoBulk]; omega⟩
      have hch : ∀ i : Nat, ∃ cs : List Value, ∀ (hi : i < l.length), cs.length = size ∧ (∀ j (hj : j < cs.length), w.cell? ((a.add (i * size)).add j) = some cs[j]) ∧ RepL (allF w) w cs (enc l[i]) ∧ ∀ u ∈ cs, u.oneCell' = true := fun i => by
        by_cases hi : i < l.length
        · obtain ⟨cs, h⟩ := h3 i hi; exact ⟨cs, fun _ => h⟩
        · exact ⟨[], fun h => absurd h hi⟩
      let f : Nat → List Value := fun i => Classical.choose (hch i)
      have hf : ∀ i (hi : i < l.length), (f i).length = size ∧ (∀ j (hj : j < (f i).length), w.cell? ((a.add (i * size)).add j) = some (f i)[j]) ∧ RepL (allF w) w (f i) (enc l[i]) ∧ ∀ u ∈ f i, u.oneCell' = true := fun i hi => Classical.choose_spec (hch i) hi
      have hll : (l.map enc).length = len := by simp [h1]
      have := Rep.sl (F := allF w) (w := w) a cap size (l.map enc) (fun i j => (f i).getD j undef) (by omega) (by unfold maxLen at hm; omega) (fun h0 => by
          rw [List.length_map] at h0
          obtain ⟨g1, g2, _⟩ := hf 0 h0
          have h7 := World.block_lt_of_cell? w _ (g2 0 (by omega))
          rw [addr_block, addr_block] at h7
          exact h7) (fun i hi => by rw [List.getElem_map]; exact O.len _) (fun i j hi hj => by
          rw [List.length_map] at hi
          obtain ⟨g1, g2, _⟩ := hf i hi
          rw [← addr_add_add, g2 j (by omega), List.getD_eq_getElem?_getD, List.getElem?_eq_getElem (by omega), Option.getD_some]) (fun i j hi hj => by
          rw [List.length_map] at hi
          obtain ⟨g1, _, _, g4⟩ := hf i hi
          rw [List.getD_eq_getElem?_getD, List.getElem?_eq_getElem (by omega), Option.getD_some]
          exact g4 _ (List.getElem_mem _)) (fun i hi j hj => by
          rw [List.length_map] at hi
          obtain ⟨g1, _, g3, _⟩ := hf i hi
          simp only [List.getElem_map] at hj ⊢
          have hj' : j < (f i).length := by rw [g3.1]; exact hj
          rw [List.getD_eq_getElem?_getD, List.getElem?_eq_getElem hj', Option.getD_some]
          exact g3.2 j hj' hj)
      rw [hll] at this
      exact this⟩

/-- A struct's fields, from one on. -/
structure OpensF {α : Type} (P : Program) (fs : List (Nat × Nat × Nat)) (off total : Nat) (enc : α → List D) (ok : α → Prop) (B : α → Nat) : Prop where
  len : ∀ y, off + (enc y).length = total
  get : ∀ {H : Type} {encH : TypeId × Value → H} {w : World} {n : Nat} {cs : List Value} {xs : List (DataW H × List MemPlace)}, cs.length = total → xs.length = fs.length →
    (∀ (i : Nat) (f : Nat × Nat × Nat), fs[i]? = some f → DataW.trod encH P w 0 (fun _ => true) true n f.1 ((cs.drop f.2.1).take f.2.2) = xs[i]?) → ∃ y, ok y ∧ RepL (allF w) w (cs.drop off) (enc y) ∧ (∀ u ∈ cs.drop off, u.oneCell' = true) ∧ B y ≤ Rows.uptoBulkAll (xs.map (·.1))
theorem OpensF.nil {total : Nat} : OpensF (α := Unit) P [] total total (fun _ => []) (fun _ => True) (fun _ => 0) :=
  ⟨fun _ => rfl, fun {H encH w n cs xs} hc _ _ => ⟨(), trivial, by rw [List.drop_eq_nil_of_le (by omega)]; exact RepL.nil, fun u hu => by rw [List.drop_eq_nil_of_le (by omega)] at hu; simp at hu, Nat.zero_le _⟩⟩
theorem OpensF.cons {α β : Type} {ft off size total : Nat} {fs : List (Nat × Nat × Nat)} {enc : α → List D} {ok : α → Prop} {B : α → Nat} {enc2 : β → List D} {ok2 : β → Prop} {B2 : β → Nat} (O : Opens P ft size enc ok B) (R : OpensF P fs (off + size) total enc2 ok2 B2) :
    OpensF (α := α × β) P ((ft, off, size) :: fs) off total (fun y => enc y.1 ++ enc2 y.2) (fun y => ok y.1 ∧ ok2 y.2) (fun y => B y.1 + B2 y.2) :=
  ⟨fun y => by have := R.len y.2; rw [List.length_append, O.len]; omega, fun {H encH w n cs xs} hc hl h => by
    rcases xs with _ | ⟨x, xs⟩
    · simp at hl
    have h0 := h 0 (ft, off, size) rfl
    simp only [List.getElem?_cons_zero] at h0
    obtain ⟨y2, k1, k2, k3, k4⟩ := R.get (encH := encH) (w := w) (n := n) (xs := xs) hc (by simpa using hl) (fun i f hf => by
      have := h (i + 1) f (by simpa using hf)
      simpa using this)
    have hle := R.len y2
    obtain ⟨y1, g1, g2, g3, g4⟩ := O.get h0 (by rw [List.length_take, List.length_drop]; omega)
    have hsplit : cs.drop off = (cs.drop off).take size ++ cs.drop (off + size) := by
      rw [← List.drop_drop]; exact (List.take_append_drop size (cs.drop off)).symm
    refine ⟨(y1, y2), ⟨g1, k1⟩, ?_, fun u hu => ?_, ?_⟩
    · rw [hsplit]; exact g2.append k2
    · rw [hsplit, List.mem_append] at hu
      rcases hu with hu | hu
      · exact g3 u hu
      · exact k3 u hu
    · simp only [List.map_cons, Rows.uptoBulkAll]; omega⟩

def structF (P : Program) (t total : Nat) (fs : List (Nat × Nat × Nat)) : Bool :=
  match P.underlying t with
  | some (.struct gs) => gs.size == fs.length && (gs.toList.zip fs).all (fun (g, f) => g.type == f.1 && g.offset == f.2.1 && P.cellsOf g.type == f.2.2) && P.cellsOf t == total
  | _ => false
theorem opens_struct {α : Type} {total : Nat} {fs : List (Nat × Nat × Nat)} {enc : α → List D} {ok : α → Prop} {B : α → Nat} (hb : structF P t total fs = true) (O : OpensF P fs 0 total enc ok B) : Opens P t total enc ok (fun y => B y + 1) :=
  ⟨fun y => by have := O.len y; omega, fun {H encH w n cs x} hx hc => by
    unfold structF at hb
    split at hb
    · rename_i gs hu
      simp only [Bool.and_eq_true, beq_iff_eq, List.all_eq_true] at hb
      obtain ⟨⟨h1, h2⟩, h3⟩ := hb
      obtain ⟨xs, n', _, rfl, _, hl, hf⟩ := DataW.trod_struct hu hx
      obtain ⟨y, k1, k2, k3, k4⟩ := O.get (encH := encH) (w := w) (n := n') (cs := cs) (xs := xs) hc (by omega) (fun i f hf' => by
        have hi : i < fs.length := (List.getElem?_eq_some_iff.1 hf').1
        have hfe : fs[i] = f := (List.getElem?_eq_some_iff.1 hf').2
        have hi' : i < gs.size := by omega
        have h4 := h2 (gs[i], f) (by
          rw [List.mem_iff_getElem]
          exact ⟨i, by simp; omega, by simp [hfe]⟩)
        simp only at h4
        have h5 := hf i gs[i] (by simp [hi'])
        rw [h4.2, h4.1.1, h4.1.2] at h5
        exact h5)
      rw [List.drop_zero] at k2 k3
      exact ⟨y, k1, k2, k3, by simp only [Rows.uptoBulk]; omega⟩
    · simp at hb⟩

theorem one_of {F : Nat → Prop} {w : World} {v : Value} {d : D} (h : RepL F w v.cells.toList [d]) (hc : v.cells = #[v]) : Rep F w v d := by
  rw [hc] at h
  exact h.2 0 (by simp) (by simp)
theorem agg_of {F : Nat → Prop} {w : World} {cs : Array Value} {ds : List D} (h : RepL F w (Value.agg cs).cells.toList ds) (h1 : ∀ u ∈ (Value.agg cs).cells.toList, u.oneCell' = true) : Rep F w (.agg cs) (.agg ds) := by
  have e : cs = cs.toList.toArray := by simp
  rw [e]
  exact .agg _ _ h.1 (fun i hi => h1 _ (List.getElem_mem hi)) h.2

/-- An argument that came in. -/
theorem Opens.arg {α : Type} {size : Nat} {enc : α → List D} {ok : α → Prop} {B : α → Nat} (O : Opens P t size enc ok B) {H : Type} {encH : TypeId × Value → H} {w : World} {v : Value} {d : DataW H} {p : List MemPlace} (h : DataW.Trod encH P w 0 (fun _ => true) true t v d p) (hc : v.cells.size = size) :
    ∃ y, ok y ∧ RepL (allF w) w v.cells.toList (enc y) ∧ (∀ u ∈ v.cells.toList, u.oneCell' = true) ∧ B y ≤ Rows.uptoBulk d := by
  obtain ⟨fuel, hf⟩ := h
  exact O.get hf (by rw [Array.length_toList]; exact hc)
end
end Go.Proofs.YtagdgclfnbiahaaDoor

namespace Go.Proofs.YtagdgclfnbiahaaDoor
open Go.RowKit
set_option linter.unusedVariables false

/-! Types. -/
namespace TyXA
end TyXA
open TyXA

set_option linter.unusedSimpArgs false
structure Snd where
  rate : Int
  tracks : List (List Int)
def sI (n : Int) : List D := [.v (.int .i64 n)]
def trD (t : List Int) : List D := [.sl (t.map sI)]
def Snd.ds (s : Snd) : List D := [.v (.int .i64 s.rate), .sl (s.tracks.map trD)]
def fst (f : Nat → Int) : Nat → Int
  | 0 => 0
  | n + 1 => if fst f n = 0 then f n else fst f n
theorem fst_next {f : Nat → Int} {k : Nat} (h : fst f k = 0) (h2 : f k = 0) : fst f (k + 1) = 0 := by simp [fst, h, h2]
theorem fst_hit {f : Nat → Int} {k : Nat} (h : fst f k = 0) (h2 : f k ≠ 0) : ∀ n, k < n → fst f n = f k
  | 0, hn => by omega
  | n + 1, hn => by
    unfold fst
    by_cases hk : k = n
    · subst hk; rw [if_pos h]
    · rw [fst_hit h h2 n (by omega), if_neg h2]
theorem fst_all {f : Nat → Int} : ∀ n, fst f n = 0 → ∀ k, k < n → f k = 0
  | 0, _, k, hk => by omega
  | n + 1, h, k, hk => by
    unfold fst at h
    by_cases h0 : fst f n = 0
    · rw [if_pos h0] at h
      by_cases hk2 : k = n
      · subst hk2; exact h
      · exact fst_all n h0 k (by omega)
    · rw [if_neg h0] at h; exact absurd h h0
/-- How long a sound is. -/
def Snd.len (s : Snd) : Nat := (s.tracks.headD []).length
def smF (t : List Int) (i : Nat) : Int := if h : i < t.length then (if -8388608 ≤ t[i] ∧ t[i] ≤ 8388607 then 0 else 1) else 0
def tkF (n : Nat) (l : List (List Int)) (k : Nat) : Int := if h : k < l.length then (if l[k].length ≠ n then 3 else fst (smF l[k]) l[k].length) else 0
def sndF (s : Snd) : Int := if ¬ (1 ≤ s.rate ∧ s.rate ≤ 1000000) then 1 else if s.tracks.length = 0 then 9 else if 16 < s.tracks.length ∨ 100000 < s.len then 2 else fst (tkF s.len s.tracks) s.tracks.length
structure SndOk (s : Snd) : Prop where
  rate : 1 ≤ s.rate ∧ s.rate ≤ 1000000
  tl : 0 < s.tracks.length ∧ s.tracks.length ≤ 16
  len : s.len ≤ 100000
  eq : ∀ t ∈ s.tracks, t.length = s.len
  smp : ∀ t ∈ s.tracks, ∀ x ∈ t, -8388608 ≤ x ∧ x ≤ 8388607
theorem sndOk {s : Snd} (h : sndF s = 0) : SndOk s := by
  unfold sndF at h
  split at h
  · exact absurd h (by decide)
  rename_i h1
  split at h
  · exact absurd h (by decide)
  rename_i h2
  split at h
  · exact absurd h (by decide)
  rename_i h3
  have key : ∀ t ∈ s.tracks, t.length = s.len ∧ ∀ x ∈ t, -8388608 ≤ x ∧ x ≤ 8388607 := fun t ht => by
    obtain ⟨k, hk, rfl⟩ := List.mem_iff_getElem.1 ht
    have h4 := fst_all _ h k hk
    unfold tkF at h4
    rw [dif_pos hk] at h4
    by_cases h5 : s.tracks[k].length ≠ s.len
    · rw [if_pos h5] at h4; exact absurd h4 (by decide)
    rw [if_neg h5] at h4
    refine ⟨Decidable.not_not.1 h5, fun x hx => ?_⟩
    obtain ⟨i, hi, rfl⟩ := List.mem_iff_getElem.1 hx
    have h6 := fst_all _ h4 i hi
    unfold smF at h6
    rw [dif_pos hi] at h6
    by_cases h7 : -8388608 ≤ s.tracks[k][i] ∧ s.tracks[k][i] ≤ 8388607
    · exact h7
    · rw [if_neg h7] at h6; exact absurd h6 (by decide)
  exact ⟨Decidable.not_not.1 h1, by omega, by omega, fun t ht => (key t ht).1, fun t ht => (key t ht).2⟩
theorem fst_zero {f : Nat → Int} : ∀ n, (∀ k, k < n → f k = 0) → fst f n = 0
  | 0, _ => rfl
  | n + 1, h => fst_next (fst_zero n fun k hk => h k (by omega)) (h n (by omega))
theorem sndF_ok {s : Snd} (h : SndOk s) : sndF s = 0 := by
  unfold sndF
  rw [if_neg (fun hh => hh h.rate), if_neg (by have := h.tl; omega), if_neg (by have := h.tl; have := h.len; omega)]
  refine fst_zero _ fun k hk => ?_
  unfold tkF
  rw [dif_pos hk, if_neg (fun hh => hh (h.eq _ (List.getElem_mem hk)))]
  refine fst_zero _ fun i hi => ?_
  unfold smF
  rw [dif_pos hi, if_pos (h.smp _ (List.getElem_mem hk) _ (List.getElem_mem hi))]
/-! ## Levels -/
def absI (x : Int) : Int := max x (-x)
/-- What the samples before i of a track add to the level j. -/
def pre (p : Nat) (t : List Int) : Nat → Nat → Int
  | 0, _ => 0
  | i + 1, j => pre p t i j + if i / p = j then absI (t.getD i 0) else 0
def sumT (p n : Nat) : List (List Int) → Nat → Int
  | [], _ => 0
  | t :: l, j => pre p t n j + sumT p n l j
def absB (t : List Int) : Prop := ∀ x ∈ t, -8388608 ≤ x ∧ x ≤ 8388607
def cutT (a n : Nat) (t : List Int) : List Int := (t.drop a).take n
def cutS (s : Snd) (a n : Nat) : Snd := ⟨s.rate, s.tracks.map (cutT a n)⟩
/-- The level j of a sound. -/
def levS (s : Snd) (p j : Nat) : Int := sumT p (s.len / p * p) s.tracks j
/-! ## Marks -/
def mkB (f : Nat → Int) (k : Nat) : Nat → Int
  | 0 => 0
  | i + 1 => mkB f k i + if f (k + i) < f (k + i + 1) then 2 ^ i else 0
def mkV (f : Nat → Int) (k : Nat) : Int := mkB f k 8
def mrkN (s : Snd) (p : Nat) : Nat := s.len / p - 8
def mrkL (s : Snd) (p : Nat) : List Int := (List.range (mrkN s p)).map (mkV (levS s p))
/-! ## Where marks are found -/
/-- The first least one of the first k + 1. -/
def bst (f : Nat → Int) : Nat → Nat
  | 0 => 0
  | k + 1 => if f (k + 1) < f (bst f k) then k + 1 else bst f k
end Go.Proofs.YtagdgclfnbiahaaDoor

namespace Go.Proofs.YtagdgclfnbiahaaDoor
open Go.RowKit
set_option linter.unusedVariables false

/-- f, called with an own row of the caller's (whichever) and data, turns the row's elements from els to els' and returns d. -/
def RCall (P : Program) (f : FuncId) (e size : Nat) (els els' : List (List D)) (ds : List D) (d : D) : Prop :=
  ∀ id, XCall P f (.own id :: ds.map S.d) [(id, .row e size els)] [(id, .row e size els')] (fun _ => false) d

theorem mem_row_eq {id e size : Nat} {els els' : List (List D)} {σ : Obs} (h : (id, Ob.row e size els) ∈ σ) (hd : els = els') : (id, Ob.row e size els') ∈ σ := hd ▸ h

end Go.Proofs.YtagdgclfnbiahaaDoor

namespace Go.Proofs.YtagdgclfnbiahaaDoor
open Go.RowKit
set_option linter.unusedVariables false

/-- An operation that writes: from the objects σ to σ'; whatever else the slots hold. -/
def EOp (cx : Cx) (ops : Array Oper) (o : Oper) (e : Env) (σ σ' : Obs) : Prop :=
  ∀ (F : Nat → Prop) (ρ : Nat → Value) (a : Act) (w : World) (e0 : Env), R0 cx F ρ e0 σ a w → (∀ t, t ∈ o.looksAt ops → RepS F ρ w (a.tmps.getD t undef) (e t)) →
    o.wp cx.P a w (fun a' w' => a' = a ∧ ∀ e2, R0 cx F ρ e2 σ a w → ∃ F' ρ', R0 cx F' ρ' e2 σ' a w') (fun _ _ _ => False)

theorem EOp.same {cx : Cx} {ops : Array Oper} {o : Oper} {e e' : Env} {σ σ' : Obs} (h : EOp cx ops o e σ σ') (he : ∀ t, t ∈ o.looksAt ops → e' t = e t) : EOp cx ops o e' σ σ' :=
  fun F ρ a w e0 hr ha => h F ρ a w e0 hr fun t ht => by rw [← he t ht]; exact ha t ht
theorem AOp.same {P : Program} {B : Nat} {ops : Array Oper} {o : Oper} {e e' : Env} {σ : Obs} {s : S} (h : AOp P B ops o e σ s) (he : ∀ t, t ∈ o.looksAt ops → e' t = e t) : AOp P B ops o e' σ s :=
  fun F ρ w a hF ha hσ => h F ρ w a hF (fun t ht => by rw [← he t ht]; exact ha t ht) hσ

/-- One step; sl: who reads objects, ef: who writes them. -/
def GStep (cx : Cx) (ops : Array Oper) (sl ef : Nat → Bool) (k : Nat) (o : Oper) (e : Env) (σ : Obs) (e' : Env) (σ' : Obs) : Prop :=
  (GW ops o e true ∧ ∃ s, ((sl k = true ∧ AOp cx.P cx.B ops o e σ s) ∨ (∀ τ, AOp cx.P cx.B ops o e τ s)) ∧ e' = e.put o.dst s ∧ σ' = σ) ∨
  (GW ops o e false ∧ e' = e.put o.dst (.d (.v undef)) ∧ σ' = σ) ∨
  (GW ops o e true ∧ ef k = true ∧ o.dst = none ∧ EOp cx ops o e σ σ' ∧ e' = e)

def GRun (cx : Cx) (ops : Array Oper) (sl ef : Nat → Bool) : Nat → List Oper → Env → Obs → (Env → Obs → Prop) → Prop
  | _, [], e, σ, Q => Q e σ
  | k, o :: l, e, σ, Q => DstOk cx.N o ∧ ∃ e' σ', GStep cx ops sl ef k o e σ e' σ' ∧ GRun cx ops sl ef (k + 1) l e' σ' Q

def anyG (cx : Cx) (ops : Array Oper) (sl ef : Nat → Bool) (Q : Env → Obs → Prop) : Nat → Array Bool → Env → Obs → Prop
  | 0, listed, e, σ => Region.ready .any ops listed = [] ∧ Q e σ
  | fuel + 1, listed, e, σ => (Region.ready .any ops listed = [] → Q e σ) ∧
      ∀ i ∈ Region.ready .any ops listed, ∀ o, ops[i]? = some o → ∃ e' σ', GStep cx ops sl ef i o e σ e' σ' ∧ anyG cx ops sl ef Q fuel (listed.setIfInBounds i true) e' σ'

theorem anyG_first {cx : Cx} {ops : Array Oper} {sl ef : Nat → Bool} (hse : ∀ k, ef k = true → sl k = true) {Q : Env → Obs → Prop} {i : Nat} {oi : Oper} (hi : ops[i]? = some oi) (late : Nat → Bool)
    (hclos : ∀ j oj, ops[j]? = some oj → late j = true → ∃ e ∈ oj.after, Region.binds .any e = true ∧ (e.on = i ∨ late e.on = true)) :
    ∀ (fuel : Nat) (listed : Array Bool) (e : Env) (σ : Obs) (e1 : Env) (σ1 : Obs), (∀ j, late j = true → listed.getD j false = false) →
      (∀ j oj, ops[j]? = some oj → j ≠ i → listed.getD j true = false → (∀ e ∈ oj.after, Region.binds .any e = true → e.on ≠ i) → oi.apart ops oj = true ∧ (late j = false → (ef i = false ∨ sl j = false) ∧ (sl i = false ∨ ef j = false))) →
      i ∈ Region.ready .any ops listed → GStep cx ops sl ef i oi e σ e1 σ1 → anyG cx ops sl ef Q fuel (listed.setIfInBounds i true) e1 σ1 → anyG cx ops sl ef Q (fuel + 1) listed e σ := by
  intro fuel
  induction fuel with
  | zero =>
    intro listed e σ e1 σ1 _ _ hr hy H
    refine ⟨fun h => (by rw [h] at hr; cases hr), fun j hj o ho => ?_⟩
    by_cases hji : j = i
    · subst hji
      rw [hi] at ho; cases ho
      exact ⟨e1, σ1, hy, H⟩
    · have := ready_mono hj hji
      rw [H.1] at this
      cases this
  | succ fuel ih =>
    intro listed e σ e1 σ1 hlate hfree hr hy H
    refine ⟨fun h => (by rw [h] at hr; cases hr), fun j hj oj hoj => ?_⟩
    by_cases hji : j = i
    · subst hji
      rw [hi] at hoj; cases hoj
      exact ⟨e1, σ1, hy, H⟩
    · obtain ⟨e2, σ2, h1, h2⟩ := H.2 j (ready_mono hj hji) oj hoj
      obtain ⟨hjun, oj', hoj', hall⟩ := mem_ready.1 hj
      rw [hoj] at hoj'; cases hoj'
      have hnot : ∀ e ∈ oj.after, Region.binds .any e = true → e.on ≠ i := fun e he hb heq => by
        have h1 := hall e he hb
        have h0 := (mem_ready.1 hr).1
        rw [heq] at h1
        rcases Nat.lt_or_ge i listed.size with h' | h'
        · simp [h'] at h0 h1; rw [h0] at h1; cases h1
        · simp [Array.getElem?_eq_none h'] at h1
      have hjl : late j = false := by
        cases hl : late j with
        | false => rfl
        | true =>
          obtain ⟨e, he, hb, hh⟩ := hclos j oj hoj hl
          rcases hh with hh | hh
          · exact absurd hh (hnot e he hb)
          · have h3 := hall e he hb
            rw [hlate _ hh] at h3
            simp at h3
      obtain ⟨hap, hss⟩ := hfree j oj hoj hji hjun hnot
      obtain ⟨hs1, hs2⟩ := hss hjl
      obtain ⟨a1, a2, a3⟩ := Oper.apart_spec hap
      have fin : ∀ ej σj, GStep cx ops sl ef j oj e σ ej σj → GStep cx ops sl ef i oi ej σj e2 σ2 → ∃ e' σ', GStep cx ops sl ef j oj e σ e' σ' ∧ anyG cx ops sl ef Q (fuel + 1) (listed.setIfInBounds j true) e' σ' := fun ej σj hsj hsi => by
        refine ⟨ej, σj, hsj, ?_⟩
        refine ih (listed.setIfInBounds j true) ej σj e2 σ2 (fun k hk => ?_) (fun k ok hk hki hun hno => ?_) (ready_mono hr (Ne.symm hji)) hsi ?_
        · have hkj : j ≠ k := fun h => by rw [h, hk] at hjl; simp at hjl
          rw [getD_set_ne false hkj]
          exact hlate k hk
        · refine hfree k ok hk hki ?_ hno
          by_cases hjk : j = k
          · subst hjk; exact hjun
          · rw [getD_set_ne true hjk] at hun; exact hun
        · rw [Array.setIfInBounds_comm _ _ hji]
          exact h2
      rcases hy with ⟨hgi, s, hopi, rfl, rfl⟩ | ⟨hgi, rfl, rfl⟩ | ⟨hgi, hefi, hdi, hopi, rfl⟩
      · rcases h1 with ⟨hgj, sj, hopj, rfl, rfl⟩ | ⟨hgj, rfl, rfl⟩ | ⟨hgj, hefj, hdj, hopj, rfl⟩
        · refine fin (e.put oj.dst sj) _ (.inl ⟨hgj.same fun t ht => (put_looks a1 t ht).symm, sj, ?_, rfl, rfl⟩) (.inl ⟨hgi.same (put_looks a3), s, ?_, (Env.put_comm e oi.dst oj.dst s sj a2), rfl⟩)
          · exact hopj.imp (fun h => ⟨h.1, h.2.same fun t ht => (put_looks a1 t ht).symm⟩) (fun h τ => (h τ).same fun t ht => (put_looks a1 t ht).symm)
          · exact hopi.imp (fun h => ⟨h.1, h.2.same (put_looks a3)⟩) (fun h τ => (h τ).same (put_looks a3))
        · refine fin (e.put oj.dst (.d (.v undef))) _ (.inr (.inl ⟨hgj.same fun t ht => (put_looks a1 t ht).symm, rfl, rfl⟩)) (.inl ⟨hgi.same (put_looks a3), s, ?_, (Env.put_comm e oi.dst oj.dst s _ a2), rfl⟩)
          exact hopi.imp (fun h => ⟨h.1, h.2.same (put_looks a3)⟩) (fun h τ => (h τ).same (put_looks a3))
        · have hsi : sl i = false := by
            rcases hs2 with h | h
            · exact h
            · rw [hefj] at h; simp at h
          refine fin e σ2 (.inr (.inr ⟨hgj.same fun t ht => (put_looks a1 t ht).symm, hefj, hdj, hopj.same fun t ht => (put_looks a1 t ht).symm, rfl⟩)) (.inl ⟨hgi, s, .inr ?_, rfl, rfl⟩)
          rcases hopi with h | h
          · rw [h.1] at hsi; simp at hsi
          · exact h
      · rcases h1 with ⟨hgj, sj, hopj, rfl, rfl⟩ | ⟨hgj, rfl, rfl⟩ | ⟨hgj, hefj, hdj, hopj, rfl⟩
        · refine fin (e.put oj.dst sj) _ (.inl ⟨hgj.same fun t ht => (put_looks a1 t ht).symm, sj, ?_, rfl, rfl⟩) (.inr (.inl ⟨hgi.same (put_looks a3), (Env.put_comm e oi.dst oj.dst _ sj a2), rfl⟩))
          exact hopj.imp (fun h => ⟨h.1, h.2.same fun t ht => (put_looks a1 t ht).symm⟩) (fun h τ => (h τ).same fun t ht => (put_looks a1 t ht).symm)
        · exact fin (e.put oj.dst (.d (.v undef))) _ (.inr (.inl ⟨hgj.same fun t ht => (put_looks a1 t ht).symm, rfl, rfl⟩)) (.inr (.inl ⟨hgi.same (put_looks a3), (Env.put_comm e oi.dst oj.dst _ _ a2), rfl⟩))
        · exact fin e σ2 (.inr (.inr ⟨hgj.same fun t ht => (put_looks a1 t ht).symm, hefj, hdj, hopj.same fun t ht => (put_looks a1 t ht).symm, rfl⟩)) (.inr (.inl ⟨hgi, rfl, rfl⟩))
      · have hsj : sl j = false := by
          rcases hs1 with h | h
          · rw [hefi] at h; simp at h
          · exact h
        rcases h1 with ⟨hgj, sj, hopj, rfl, rfl⟩ | ⟨hgj, rfl, rfl⟩ | ⟨hgj, hefj, hdj, hopj, rfl⟩
        · have hall : ∀ τ, AOp cx.P cx.B ops oj e1 τ sj := by
            rcases hopj with h | h
            · rw [h.1] at hsj; simp at hsj
            · exact h
          exact fin (e1.put oj.dst sj) σ (.inl ⟨hgj, sj, .inr hall, rfl, rfl⟩) (.inr (.inr ⟨hgi.same (put_looks a3), hefi, hdi, hopi.same (put_looks a3), rfl⟩))
        · exact fin (e1.put oj.dst (.d (.v undef))) σ (.inr (.inl ⟨hgj, rfl, rfl⟩)) (.inr (.inr ⟨hgi.same (put_looks a3), hefi, hdi, hopi.same (put_looks a3), rfl⟩))
        · rw [hse j hefj] at hsj; simp at hsj

/-- Who comes after k, directly or not. -/
def Region.lateOf (ops : Array Oper) (k : Nat) : List Nat :=
  (List.range ops.size).foldl (fun acc j => if ((ops[j]?).map fun o => o.after.any fun e => Region.binds .any e && (Nat.beq e.on k || acc.any fun i => Nat.beq i e.on)).getD false then j :: acc else acc) []
/-- No two operations, of which one writes and the other one reads or writes, are free to change places. -/
def Region.sensFree (ops : Array Oper) (sl ef : Nat → Bool) (listed : Array Bool) (k : Nat) (late : Nat → Bool) : Bool :=
  (List.range ops.size).all fun j =>
    (!(late j) || (!(listed.getD j false) && ((ops[j]?).map fun o => o.after.any fun e => Region.binds .any e && (Nat.beq e.on k || late e.on)).getD true)) &&
    (Nat.beq j k || listed.getD j true || late j || (!(ef k && sl j) && !(sl k && ef j)))
def Region.lateB (ops : Array Oper) (k j : Nat) : Bool := Nat.blt j ops.size && (Region.lateOf ops k).any fun i => Nat.beq i j
def Region.sensFrom (ops : Array Oper) (sl ef : Nat → Bool) : Nat → Nat → Array Bool → Bool
  | 0, _, _ => true
  | fuel + 1, k, listed => (if sl k || ef k then Region.sensFree ops sl ef listed k (Region.lateB ops k) else true) && Region.sensFrom ops sl ef fuel (k + 1) (listed.setIfInBounds k true)
theorem Region.sensFree_spec {ops : Array Oper} {sl ef : Nat → Bool} {listed : Array Bool} {k : Nat} {late : Nat → Bool} (h : Region.sensFree ops sl ef listed k late = true) (hl : ∀ j, late j = true → j < ops.size) :
    (∀ j oj, ops[j]? = some oj → late j = true → ∃ e ∈ oj.after, Region.binds .any e = true ∧ (e.on = k ∨ late e.on = true)) ∧ (∀ j, late j = true → listed.getD j false = false) ∧
    ∀ j oj, ops[j]? = some oj → j ≠ k → listed.getD j true = false → late j = false → (ef k = false ∨ sl j = false) ∧ (sl k = false ∨ ef j = false) := by
  have h1 : ∀ j, j < ops.size → _ := fun j hj => List.all_eq_true.1 h j (List.mem_range.2 hj)
  simp only [Bool.and_eq_true] at h1
  refine ⟨fun j oj hoj hlj => ?_, fun j hlj => ?_, fun j oj hoj hjk hun hlj => ?_⟩
  · have h2 := (h1 j (Array.getElem?_eq_some_iff.1 hoj).1).1
    rw [hlj, hoj] at h2
    simp only [Bool.not_true, Bool.false_or, Option.map_some, Option.getD_some, Bool.and_eq_true, Array.any_eq_true'] at h2
    obtain ⟨_, e, he, hb⟩ := h2
    simp only [Bool.or_eq_true] at hb
    exact ⟨e, he, hb.1, hb.2.imp Nat.eq_of_beq_eq_true (fun x => x)⟩
  · have h2 := (h1 j (hl j hlj)).1
    rw [hlj] at h2
    simp only [Bool.not_true, Bool.false_or, Bool.and_eq_true, Bool.not_eq_true'] at h2
    exact h2.1
  · have h2 := (h1 j (Array.getElem?_eq_some_iff.1 hoj).1).2
    have hb : Nat.beq j k = false := by rw [Bool.eq_false_iff]; exact fun hh => hjk (Nat.eq_of_beq_eq_true hh)
    rw [hb, hun, hlj] at h2
    simp only [Bool.false_or, Bool.and_eq_true, Bool.not_eq_true', Bool.and_eq_false_iff] at h2
    exact h2

theorem anyG_lex {cx : Cx} {ops : Array Oper} {sl ef : Nat → Bool} (hse : ∀ k, ef k = true → sl k = true) {Q : Env → Obs → Prop} : ∀ (l : List Oper) (k : Nat) (listed : Array Bool) (e : Env) (σ : Obs), (∀ j, l[j]? = ops[k + j]?) →
    Region.lexFrom .any ops l.length k listed = true → Region.sensFrom ops sl ef l.length k listed = true → GRun cx ops sl ef k l e σ Q → anyG cx ops sl ef Q l.length listed e σ
  | [], _, _, _, _, _, hB, _, h => ⟨by simpa [Region.lexFrom] using hB, h⟩
  | o :: l, k, listed, e, σ, hl, hB, hS, h => by
    have h0 : ops[k]? = some o := by simpa using (hl 0).symm
    simp only [List.length_cons, Region.lexFrom, Bool.and_eq_true] at hB
    simp only [List.length_cons, Region.sensFrom, Bool.and_eq_true] at hS
    obtain ⟨⟨hr, hf⟩, hB'⟩ := hB
    have hl' : ∀ j, l[j]? = ops[k + 1 + j]? := fun j => by have := hl (j + 1); simpa [Nat.add_assoc, Nat.add_comm 1 j] using this
    obtain ⟨_, e', σ', hs, hK⟩ := h
    have hgo := anyG_lex hse l (k + 1) _ _ _ hl' hB' hS.2 hK
    by_cases hc : (sl k || ef k) = true
    · have h1 := hS.1
      rw [if_pos hc] at h1
      obtain ⟨k1, k2, k3⟩ := Region.sensFree_spec h1 (fun j hj => by
        unfold Region.lateB at hj
        simp only [Bool.and_eq_true, Nat.blt_eq] at hj
        exact hj.1)
      exact anyG_first hse h0 _ k1 l.length listed e σ e' σ' k2 (fun j oj hj hji hun hno => ⟨Region.free_spec h0 hf j oj hj hji hun hno, fun hl => k3 j oj hj hji hun hl⟩) (by simpa using hr) hs hgo
    · have h2 : sl k = false ∧ ef k = false := by simpa using hc
      exact anyG_first hse h0 (fun _ => false) (fun _ _ _ h => by simp at h) l.length listed e σ e' σ' (fun _ h => by simp at h) (fun j oj hj hji hun hno => ⟨Region.free_spec h0 hf j oj hj hji hun hno, fun _ => ⟨.inl h2.2, .inl h2.1⟩⟩) (by simpa using hr) hs hgo

theorem GRun.dsts {cx : Cx} {ops : Array Oper} {sl ef : Nat → Bool} {Q : Env → Obs → Prop} : ∀ (l : List Oper) (k : Nat) (e : Env) (σ : Obs), GRun cx ops sl ef k l e σ Q → ∀ o ∈ l, DstOk cx.N o
  | [], _, _, _, _, o, ho => by cases ho
  | x :: l, k, e, σ, h, o, ho => by
    obtain ⟨h1, _, _, _, h2⟩ := h
    cases ho with
    | head => exact h1
    | tail _ ho => exact GRun.dsts l _ _ _ h2 o ho

theorem wpAny_of_G {cx : Cx} {ops : Array Oper} {sl ef : Nat → Bool} {Q : Post} (hd : ∀ o ∈ ops.toList, DstOk cx.N o) : ∀ (fuel : Nat) (listed : Array Bool) (e : Env) (σ : Obs) (a : Act) (w : World), R cx e σ a w →
    anyG cx ops sl ef (fun e σ => Q .normal e σ) fuel listed e σ → wpAny cx.P .any ops (lift cx Q) fuel listed a w
  | 0, _, e, σ, _, _, hr, h => ⟨h.1, e, σ, h.2, hr⟩
  | fuel + 1, listed, e, σ, a, w, hr, h => by
    refine ⟨fun h0 => ⟨e, σ, h.1 h0, hr⟩, fun i hi => ?_⟩
    obtain ⟨_, o, ho, _⟩ := mem_ready.1 hi
    obtain ⟨e', σ', hs, hk⟩ := h.2 i hi o ho
    have hdo : DstOk cx.N o := hd o (Array.mem_toList_iff.2 (Array.mem_of_getElem? ho))
    unfold wpOp
    simp only [ho]
    obtain ⟨F, ρ, hr⟩ := hr
    rcases hs with ⟨hg, s, hop, rfl, rfl⟩ | ⟨hg, rfl, rfl⟩ | ⟨hg, _, hdst, hop, rfl⟩
    · rw [if_pos (hg.wanted (fun t _ => hr.env t))]
      have hop' : AOp cx.P cx.B ops o e σ' s := by
        rcases hop with h | h
        · exact h.2
        · exact h _
      refine .inl (wp_to ?_ (fun _ _ _ => False.elim) (hop' F ρ w a hr.lt (fun t _ => hr.env t) hr.obs))
      rintro a' w' ⟨v, F', rfl, hv, he⟩
      exact wpAny_of_G hd fuel _ _ _ _ _ ⟨F', ρ, hr.put he hv hdo⟩ hk
    · rw [if_neg (by rw [hg.wanted (fun t _ => hr.env t)]; simp)]
      exact wpAny_of_G hd fuel _ _ _ _ _ ⟨F, ρ, hr.put (Ext.refl hr.lt) repS_undef hdo⟩ hk
    · rw [if_pos (hg.wanted (fun t _ => hr.env t))]
      refine .inl (wp_to ?_ (fun _ _ _ => False.elim) (hop F ρ a w e' hr (fun t _ => hr.env t)))
      rintro a' w' ⟨rfl, h3⟩
      obtain ⟨F', ρ', h4⟩ := h3 e' hr
      exact wpAny_of_G hd fuel _ _ _ _ _ ⟨F', ρ', h4⟩ hk

/-- A region that draws its order and writes, walked once, in the order of the text. -/
theorem AWP.drawG {cx : Cx} {id : Nat} {l : List Oper} {e : Env} {σ : Obs} {Q : Post} (sl ef : Nat → Bool) (hse : ∀ k, ef k = true → sl k = true) (hm : cx.P.follows .mixedOrders = true) (hB : Region.lexB .any l.toArray = true)
    (hS : Region.sensFrom l.toArray sl ef l.length 0 (Array.replicate l.length false) = true) (h : GRun cx l.toArray sl ef 0 l e σ (fun e σ => Q .normal e σ)) : AWP cx (.region id l.toArray true) e σ Q := by
  intro a w ⟨F, ρ, hr⟩
  simp only [Region.lexB, Bool.and_eq_true] at hB
  have h1 := anyG_lex hse l 0 (Array.replicate l.toArray.size false) e σ (by simp) (by simpa using hB.2) (by simpa using hS) h
  exact wp_region_any hm (wpAny_of_G (by simpa using GRun.dsts l 0 e σ h) _ _ e σ a _ ⟨F, ρ, hr.drew⟩ (by simpa using h1))
end Go.Proofs.YtagdgclfnbiahaaDoor

namespace Go.Proofs.YtagdgclfnbiahaaDoor
open Go.RowKit
set_option linter.unusedVariables false
section
variable {cx : Cx} {ops : Array Oper} {o : Oper} {rest : List Oper} {e : Env} {σ : Obs} {sl ef : Nat → Bool} {n : Nat} {l : List Oper} {Q : Env → Obs → Prop}
theorem GRun.nil (h : Q e σ) : GRun cx ops sl ef n [] e σ Q := h
/-- It reads no object. -/
theorem GRun.step {s : S} {t : Nat} (hg : GW ops o e true) (ht : o.dst = some t) (hd : Nat.blt t cx.N = true) (h : ∀ τ, AOp cx.P cx.B ops o e τ s) (k : GRun cx ops sl ef (n + 1) l (e.put (some t) s) σ Q) : GRun cx ops sl ef n (o :: l) e σ Q :=
  ⟨by unfold DstOk; rw [ht]; exact hd, _, _, .inl ⟨hg, s, .inr h, rfl, rfl⟩, by rw [ht]; exact k⟩
/-- It reads objects. -/
theorem GRun.stepS {s : S} {t : Nat} (hs : sl n = true) (hg : GW ops o e true) (ht : o.dst = some t) (hd : Nat.blt t cx.N = true) (h : AOp cx.P cx.B ops o e σ s) (k : GRun cx ops sl ef (n + 1) l (e.put (some t) s) σ Q) : GRun cx ops sl ef n (o :: l) e σ Q :=
  ⟨by unfold DstOk; rw [ht]; exact hd, _, _, .inl ⟨hg, s, .inl ⟨hs, h⟩, rfl, rfl⟩, by rw [ht]; exact k⟩
/-- It writes. -/
theorem GRun.eff {σ' : Obs} (hf : ef n = true) (hg : GW ops o e true) (ht : o.dst = none) (h : EOp cx ops o e σ σ') (k : GRun cx ops sl ef (n + 1) l e σ' Q) : GRun cx ops sl ef n (o :: l) e σ Q :=
  ⟨by unfold DstOk; rw [ht], _, _, .inr (.inr ⟨hg, hf, ht, h, rfl⟩), k⟩
end
section
variable {cx : Cx} {ops : Array Oper} {o : Oper} {e : Env} {σ : Obs}
/-- b[k] = v in such a region. -/
theorem EOp.storeRow {t id off ee size len : Nat} {x y : Operand} {d : D} {els : List (List D)} {ds : List D} (ht : o.dst = none) (ho : o.op = .store t x y) (hs : ∀ w, (sizeOf t).run cx.P w = .ok len w) (hx : e.ev x = .ptr id off) (hm : (id, Ob.row ee size els) ∈ σ)
    (hy : e.ev y = .d d) (h1 : d.one = true) (hl : d.parts.length = len) (k j : Nat) (hoff : off = k * size + j) (hd : els[k]? = some ds) (hj : j + len ≤ size) :
    EOp cx ops o e σ (Obs.upd id (.row ee size (els.set k (ds.take j ++ d.parts ++ ds.drop (j + len)))) σ) := by
  intro F ρ a w e0 hr ha
  have hop : ∀ y ∈ o.op.operands.toList, RepS F ρ w (a.eval y) (e.ev y) := fun y hy => ev_rep fun t ht => ha t (looks_op (by rw [← ht]; exact hy))
  have r1 := hop x (by rw [ho]; simp [Op.operands])
  have r2 := hop y (by rw [ho]; simp [Op.operands])
  rw [hx] at r1
  rw [hy] at r2
  obtain ⟨h3, h4⟩ := parts_rep (repS_d r2) h1
  have hlt : k < els.length := (List.getElem?_eq_some_iff.1 hd).1
  have hde : els[k] = ds := (List.getElem?_eq_some_iff.1 hd).2
  obtain ⟨xs, hown, hlen, hrep, hnF⟩ := hr.obs.ok _ hm
  dsimp only at hown hnF
  have hown' : w.ownsRow cx.B ee size (ρ id) els.length (flat xs els.length size) := hown
  rcases hown'.2 with ⟨_, h0⟩ | ⟨g, cap, cur, hv, hB, hh, hn, hmx, hcs, htk⟩
  · omega
  have hblk : blk (ρ id) = some g := by rw [hv]; rfl
  have hxv := ptr_at r1 hblk
  have hsz : (a.eval y).cells.size = len := by have := h3.1; rw [Array.length_toList] at this; omega
  have hle : k * size + size ≤ els.length * size := by rw [← Nat.succ_mul]; exact Nat.mul_le_mul_right _ hlt
  have hcap : els.length * size ≤ cap * size := Nat.mul_le_mul_right _ hn
  obtain ⟨w', h5, h6, h7⟩ := storeVar_run (P := cx.P) (off := off) hs hsz (cur := cur.toList) (by simpa using hh) (by rw [Array.length_toList]; omega) h4
  unfold Oper.wp execOp
  simp only [ho, Instr.storeAt, hxv, Instr.sureAddr, Sem.run_bind, Sem.run_pure, Result.andThen_ok, h5]
  refine ⟨by rw [ht]; rfl, fun e2 hr2 => ⟨F, ρ, ?_⟩⟩
  have hvl : (a.eval y).cells.toList.length = len := by rw [Array.length_toList]; exact hsz
  have keep : ∀ {u : Value} {d : D}, Rep F w u d → Rep F w' u d := fun h => h.mono (fun b hb => hb) fun b hb => h6.block b (hr.lt b hb) (fun he => hnF g hblk (by rw [← Option.some.inj he]; exact hb))
  refine hr2.writeOb hblk hm hB (hnF g hblk) h6 ⟨fun i p => if i = k ∧ j ≤ p ∧ p < j + (a.eval y).cells.toList.length then (a.eval y).cells.toList.getD (p - j) undef else xs i p, ?_, fun i hi => ?_, fun i hi p hp => ?_, hnF⟩
  · rw [List.length_set]
    have hst := flat_store xs els.length size k j (a.eval y).cells.toList hlt (by omega)
    refine ⟨flat_length _ _ _, .inr ⟨g, cap, _, hv, hB, h7, hn, hmx, ?_, ?_⟩⟩
    · simp only [List.size_toArray, List.length_append, List.length_take, List.length_drop, Array.length_toList, hcs, hsz]
      omega
    · refine Eq.trans ?_ hst
      rw [← htk]
      have hcl : cur.toList.length = cap * size := by rw [Array.length_toList]; exact hcs
      rw [hoff, ← hvl]
      apply List.ext_getElem?
      intro p
      by_cases hp : p < els.length * size
      · rw [List.getElem?_take, if_pos hp, get3, get3]
        simp only [List.length_take, hcl, List.getElem?_take, List.getElem?_drop]
        rw [Nat.min_eq_left (show k * size + j ≤ cap * size by omega), Nat.min_eq_left (show k * size + j ≤ min (els.length * size) (cap * size) by omega)]
        by_cases c1 : p < k * size + j
        · simp [c1, hp]
        · by_cases c2 : p < k * size + j + (a.eval y).cells.toList.length
          · simp only [c1, c2, if_false, if_true]
          · simp only [c1, c2, if_false]
            rw [if_pos (by omega)]
      · rw [List.getElem?_eq_none (by rw [List.length_take]; omega), List.getElem?_eq_none (by
          simp only [List.length_append, List.length_take, List.length_drop, hcl]
          omega)]
  · rw [List.getElem_set]
    split
    · rw [List.length_append, List.length_append, List.length_take, List.length_drop, hl]
      have := hlen k hlt
      rw [hde] at this
      omega
    · exact hlen i _
  · rw [List.length_set] at hi
    have hk2 := hlen k hlt
    rw [hde] at hk2
    simp only [List.getElem_set] at hp ⊢
    by_cases hik : k = i
    · subst hik
      simp only [if_true] at hp ⊢
      rw [List.length_append, List.length_append, List.length_take, List.length_drop, hl] at hp
      by_cases c1 : j ≤ p ∧ p < j + (a.eval y).cells.toList.length
      · simp only [c1, and_self, if_true]
        have hpl : p - j < (a.eval y).cells.toList.length := by omega
        rw [List.getD_eq_getElem?_getD, List.getElem?_eq_getElem hpl, Option.getD_some]
        refine ⟨h4 _ (List.getElem_mem _), keep ?_⟩
        rw [List.getElem_append_left (by simp; omega), List.getElem_append_right (by simp; omega)]
        have e1 : (List.take j ds).length = j := by simp; omega
        simp only [e1]
        exact h3.2 _ _ _
      · rw [if_neg (by rintro ⟨_, h8, h9⟩; exact c1 ⟨h8, h9⟩)]
        have h10 := hrep k hlt p (by rw [hde]; omega)
        simp only [hde] at h10
        refine ⟨h10.1, keep ?_⟩
        by_cases c2 : p < j
        · rw [List.getElem_append_left (by simp; omega), List.getElem_append_left (by simp; omega), List.getElem_take]
          exact h10.2
        · rw [List.getElem_append_right (by simp; omega), List.getElem_drop]
          have e1 : (List.take j ds ++ d.parts).length = j + len := by simp; omega
          simp only [e1]
          have e2 : j + len + (p - (j + len)) = p := by omega
          simp only [e2]
          exact h10.2
    · simp only [hik, if_false] at hp ⊢
      rw [if_neg (by rintro ⟨h8, _⟩; exact hik h8.symm)]
      exact ⟨(hrep i hi p hp).1, keep (hrep i hi p hp).2⟩
end
end Go.Proofs.YtagdgclfnbiahaaDoor

namespace Go.Proofs.YtagdgclfnbiahaaDoor
open Go.RowKit
set_option linter.unusedVariables false
section
variable {P : Program} {B : Nat} {ops : Array Oper} {o : Oper} {e : Env} {σ : Obs}
/-- An element that is a struct, loaded whole out of an own row. -/
theorem AOp.loadRowAgg {t : TypeId} {x : Operand} {id off ee size : Nat} {els : List (List D)} {ds : List D} (ho : o.op = .load t x) (hT : AggT P t size) (hx : e.ev x = .ptr id off) (hm : (id, Ob.row ee size els) ∈ σ) (k : Nat) (hoff : off = k * size) (hk : els[k]? = some ds) :
    AOp P B ops o e σ (.d (.agg ds)) :=
  .value fun F ρ w a hF hr hσ => by
  have h1 := hr x (by rw [ho]; simp [Op.operands])
  rw [hx] at h1
  obtain ⟨xs, h3, h4, h5, h6⟩ := hσ.ok _ hm
  dsimp only at h3
  have hlt : k < els.length := (List.getElem?_eq_some_iff.1 hk).1
  have hde : els[k] = ds := (List.getElem?_eq_some_iff.1 hk).2
  have hsz := h4 k hlt
  rw [hde] at hsz
  rcases h3.2 with ⟨_, h7⟩ | ⟨g, cap, cur, h7, _, h8, _⟩
  · omega
  · have hv := ptr_at h1 (g := g) (by rw [h7]; rfl)
    have hl' : (loadCells ⟨g, off, none⟩ ((List.range size).map (xs k)).length).run P w = .ok ((List.range size).map (xs k)).toArray w := run_loadCells_list w _ _ (fun j v hj => by
      have hjl := (List.getElem?_eq_some_iff.1 hj).1
      simp at hjl
      have hc := row_cell h3 h7 h8 hlt hjl
      rw [addr_add, hoff, hc, ← hj]
      simp [hjl])
    simp only [List.length_map, List.length_range] at hl'
    refine ⟨.agg ((List.range size).map (xs k)).toArray, F, w, ?_, .d (.agg _ _ (by simp [hsz]) (fun i hi => ?_) (fun i hi hi2 => ?_)), Ext.refl hF⟩
    · unfold execOp
      simp only [ho, hv, Instr.loadAt, Instr.sureAddr, loadVar, Sem.run_bind, Sem.run_pure, Result.andThen_ok, hT.agg w, hT.size w, if_true, hl']
    · simp at hi ⊢
      exact (h5 k hlt i (by rw [hde, hsz]; exact hi)).1
    · simp at hi ⊢
      have := (h5 k hlt i (by rw [hde, hsz]; exact hi)).2
      simp only [hde] at this
      exact this
end
end Go.Proofs.YtagdgclfnbiahaaDoor

namespace Go.Proofs.YtagdgclfnbiahaaDoor
open Go.RowKit
set_option linter.unusedVariables false
section
variable {P : Program} {B : Nat} {ops : Array Oper} {o : Oper} {e : Env} {σ : Obs}
/-- A number that fits, turned into another kind. -/
theorem AOp.convSame {s t : TypeId} {x : Operand} {k k0 : IntKind} {n : Int} (ho : o.op = .convert s t x) (hc : convB P s t k = true) (hx : e.ev x = .d (.v (.int k0 n))) (hw : k.wrap n = n) : AOp P B ops o e σ (.d (.v (.int k n))) := by
  have := AOp.convInt (P := P) (B := B) (ops := ops) (σ := σ) ho hc hx
  rwa [hw] at this
theorem wrapU64 {n : Int} (h0 : 0 ≤ n) (h1 : n ≤ 9223372036854775807) : IntKind.u64.wrap n = n := by rw [IntKind.wrap_u64]; omega
end
end Go.Proofs.YtagdgclfnbiahaaDoor

namespace Go.Proofs.YtagdgclfnbiahaaDoor
open Go.RowKit
/-- A plain field's kind. -/
inductive Kd where
  | int (k : IntKind)
  | str
  | bool
def Kd.fits : Kd → Value → Bool
  | .int k, .int k' _ => decide (k' = k)
  | .str, .string _ => true
  | .bool, .bool _ => true
  | _, _ => false
def Kd.ofType (P : Program) (t : TypeId) : Kd → Bool
  | .int k => match P.underlying t with | some (.int k') => decide (k' = k) | _ => false
  | .str => match P.underlying t with | some .string => true | _ => false
  | .bool => match P.underlying t with | some .bool => true | _ => false
def kindsB : List Kd → List Value → Bool
  | [], [] => true
  | k :: ks, v :: vs => k.fits v && kindsB ks vs
  | _, _ => false
def fieldsB (P : Program) : Nat → List Kd → List Field → Bool
  | _, [], [] => true
  | i, k :: ks, f :: fs => (f.name != "_") && (f.offset == i) && k.ofType P f.type && fieldsB P (i + 1) ks fs
  | _, _, _ => false
def sameV : Value → Value → Bool
  | .int _ a, .int _ b => decide (a = b)
  | .string a, .string b => decide (a = b)
  | .bool a, .bool b => decide (a = b)
  | _, _ => false
def sameL : List Value → List Value → Bool
  | [], [] => true
  | a :: l, b :: r => sameV a b && sameL l r
  | _, _ => false
theorem run_eqCell {P : Program} (w : World) {k : Kd} {t : TypeId} (hk : k.ofType P t = true) {a b : Value} (ha : k.fits a = true) (hb : k.fits b = true) (d : Nat) : (Op.equalIn (d + 1) t a b).run P w = .ok (sameV a b) w := by
  cases k with
  | int q =>
    simp only [Kd.ofType] at hk
    split at hk
    · rename_i q' hu
      have hq := of_decide_eq_true hk
      subst hq
      cases a <;> simp only [Kd.fits, Bool.false_eq_true] at ha
      cases b <;> simp only [Kd.fits, Bool.false_eq_true] at hb
      have h1 := of_decide_eq_true ha
      have h2 := of_decide_eq_true hb
      subst h1
      rename_i x _ y
      subst h2
      rw [run_equalIn_int w d t _ _ x y hu]
      rw [show (x == y) = decide (x = y) by by_cases hxy : x = y <;> simp [hxy]]; rfl
    · cases hk
  | str =>
    simp only [Kd.ofType] at hk
    split at hk
    · rename_i hu
      cases a <;> simp only [Kd.fits, Bool.false_eq_true] at ha
      cases b <;> simp only [Kd.fits, Bool.false_eq_true] at hb
      rename_i x y
      rw [run_equalIn_string w d t x y hu, toList_eq]
      rfl
    · cases hk
  | bool =>
    simp only [Kd.ofType] at hk
    split at hk
    · rename_i hu
      cases a <;> simp only [Kd.fits, Bool.false_eq_true] at ha
      cases b <;> simp only [Kd.fits, Bool.false_eq_true] at hb
      rename_i x y
      rw [run_equalIn_bool w d t x y hu]
      cases x <;> cases y <;> rfl
    · cases hk
theorem ofType_plain {P : Program} {t : TypeId} {k : Kd} (h : k.ofType P t = true) : P.plainKey t = true := by
  unfold Program.plainKey
  cases k <;> simp only [Kd.ofType] at h <;> split at h <;> first | cases h; done | simp_all
theorem run_eqFields_same {P : Program} (w : World) (d : Nat) : ∀ (ks : List Kd) (fs : List Field) (pre pre' us vs : List Value), pre.length = pre'.length → fieldsB P pre.length ks fs = true → kindsB ks us = true → kindsB ks vs = true →
    (Op.eqFields (d + 1) (pre ++ us).toArray (pre' ++ vs).toArray fs).run P w = .ok (sameL us vs) w
  | [], [], _, _, [], [], _, _, _, _ => by simp [Op.eqFields, sameL]
  | k :: ks, f :: fs, pre, pre', u :: us, v :: vs, hl, hf, hu, hv => by
    simp only [fieldsB, kindsB, Bool.and_eq_true, bne_iff_ne, beq_iff_eq] at hf hu hv
    obtain ⟨⟨⟨hn, ho⟩, hk⟩, hf⟩ := hf
    have ih := run_eqFields_same w d ks fs (pre ++ [u]) (pre' ++ [v]) us vs (by simp [hl]) (by simpa using hf) hu.2 hv.2
    have p1 : (part f.type (pre ++ u :: us).toArray f.offset).run P w = .ok u w := run_part_plain w (ofType_plain hk) (by rw [ho]; simp)
    have p2 : (part f.type (pre' ++ v :: vs).toArray f.offset).run P w = .ok v w := run_part_plain w (ofType_plain hk) (by rw [ho, hl]; simp)
    rw [List.append_assoc, List.append_assoc] at ih
    simp only [List.cons_append, List.nil_append] at ih
    simp only [Op.eqFields, hn, ne_eq, not_false_eq_true, if_true, Sem.run_bind, p1, p2, run_eqCell w hk hu.1 hv.1, Result.andThen_ok, sameL]
    cases sameV u v
    · simp
    · simpa using ih
  | [], _ :: _, _, _, _, _, _, h, _, _ => by simp [fieldsB] at h
  | _ :: _, [], _, _, _, _, _, h, _, _ => by simp [fieldsB] at h
  | [], [], _, _, _ :: _, _, _, _, h, _ => by simp [kindsB] at h
  | [], [], _, _, [], _ :: _, _, _, _, h => by simp [kindsB] at h
  | _ :: _, _ :: _, _, _, [], _, _, _, h, _ => by simp [kindsB] at h
  | _ :: _, _ :: _, _, _, _ :: _, [], _, _, _, h => by simp [kindsB] at h
def eqStructB (P : Program) (t : TypeId) (ks : List Kd) : Bool :=
  (match P.underlying t with | some (.struct fs) => fieldsB P 0 ks fs.toList | _ => false) && !P.stoodInHeld t && !P.eqGuardType P.depth t
/-- Structs of plain fields compare field by field. -/
structure EqT (P : Program) (t : TypeId) (ks : List Kd) : Prop where
  guard : ∀ (op : BinOp) (x y : Operand) (us vs : Array Value) (w : World), (eqGuard op t x y (.agg us) (.agg vs)).run P w = .ok () w
  run : ∀ (us vs : List Value) (w : World), kindsB ks us = true → kindsB ks vs = true → (Op.equal t (.agg us.toArray) (.agg vs.toArray)).run P w = .ok (sameL us vs) w
theorem EqT.of {P : Program} {t : TypeId} {ks : List Kd} (h : eqStructB P t ks = true) : EqT P t ks := by
  unfold eqStructB at h
  simp only [Bool.and_eq_true, Bool.not_eq_true'] at h
  obtain ⟨⟨h1, h2⟩, h3⟩ := h
  split at h1
  · rename_i fs hu
    have hfs : P.fieldsOf t = fs := by simp [Program.fieldsOf, hu]
    refine ⟨fun op x y us vs w => ?_, fun us vs w hk1 hk2 => ?_⟩
    · unfold eqGuard
      cases op <;> first | rfl | (simp [run_program, h3])
    · have h4 := run_eqFields_same w 9998 ks fs.toList [] [] us vs rfl (by simpa using h1) hk1 hk2
      unfold Op.equal
      rw [show Op.maxDepth = 9999 + 1 from rfl, run_equalIn_struct w 9999 t us.toArray vs.toArray (by rw [hfs]; exact hu) h2, hfs]
      simpa using h4
  · cases h1
/-- Two cell lists whose values compare as b. -/
def EqD (P : Program) (t : TypeId) (ds1 ds2 : List D) (b : Bool) : Prop := ∃ us vs : List Value, ds1 = us.map D.v ∧ ds2 = vs.map D.v ∧ (∀ (op : BinOp) (x y : Operand) (w : World), (eqGuard op t x y (.agg us.toArray) (.agg vs.toArray)).run P w = .ok () w) ∧
  ∀ w, (Op.equal t (.agg us.toArray) (.agg vs.toArray)).run P w = .ok b w
theorem EqD.of {P : Program} {t : TypeId} {ks : List Kd} {ds1 ds2 : List D} {b : Bool} (T : EqT P t ks) (us vs : List Value) (h1 : ds1 = us.map D.v) (h2 : ds2 = vs.map D.v) (k1 : kindsB ks us = true) (k2 : kindsB ks vs = true) (hb : sameL us vs = b) : EqD P t ds1 ds2 b :=
  ⟨us, vs, h1, h2, fun op x y w => T.guard op x y _ _ w, fun w => by rw [T.run us vs w k1 k2, hb]⟩
theorem rep_vs {F : Nat → Prop} {w : World} {x : Value} {us : List Value} (h : Rep F w x (.agg (us.map D.v))) : x = .agg us.toArray := by
  cases h with
  | agg cs ds hl hone h =>
    congr 2
    rw [List.length_map] at hl
    refine List.ext_getElem hl fun i h1 h2 => ?_
    have := h i h1 (by rw [List.length_map]; exact h2)
    rw [List.getElem_map] at this
    exact rep_v this
section
variable {P : Program} {B : Nat} {ops : Array Oper} {o : Oper} {e : Env} {σ : Obs}
theorem AOp.aggNeq {t ty : TypeId} {x y : Operand} {ds1 ds2 : List D} {b : Bool} (ho : o.op = .binOp .neq t x y ty) (hx : e.ev x = .d (.agg ds1)) (hy : e.ev y = .d (.agg ds2)) (E : EqD P t ds1 ds2 b) : AOp P B ops o e σ (.d (.v (.bool (!b)))) := .value fun F ρ w a hF hr _ => by
  obtain ⟨us, vs, rfl, rfl, hg, hq⟩ := E
  have h1 := hr x (by rw [ho]; simp [Op.operands])
  have h2 := hr y (by rw [ho]; simp [Op.operands])
  rw [hx] at h1
  rw [hy] at h2
  refine ⟨.bool (!b), F, w, ?_, .d (.v _), Ext.refl hF⟩
  unfold execOp
  simp only [ho, rep_vs (repS_d h1), rep_vs (repS_d h2)]
  rw [Sem.run_bind, Sem.run_bind, hg]
  simp only [Result.andThen_ok, binOp, Sem.run_bind, hq, Sem.run_pure]
end
end Go.Proofs.YtagdgclfnbiahaaDoor

namespace Go.Proofs.YtagdgclfnbiahaaDoor
open Go.RowKit
set_option linter.unusedVariables false

theorem wp_to2 {P : Program} {o : Oper} {a : Act} {w : World} {K K' : Act → World → Prop} {Q Q' : Exit → Act → World → Prop} (h : ∀ a w, K a w → K' a w) (hq : ∀ e a w, e ≠ .normal → Q e a w → Q' e a w)
    (hh : o.wp P a w K Q) : o.wp P a w K' Q' := by
  unfold Oper.wp at *
  generalize (execOp a.eval o).run P w = r at *
  cases r with
  | ok n w' =>
    cases n <;> simp only [Oper.upon] at hh ⊢ <;>
      first
        | exact h _ _ hh
        | exact Calls.mono hh (fun e w'' he => by cases e <;> first | exact h _ _ he | exact hq _ _ _ (by simp) he | exact he.imp fun _ => Exists.imp fun _ => hq _ _ _ (by simp))
        | exact Rows.mono hh (fun _ _ he => h _ _ he)
  | halt x w' => cases x <;> simp only [Oper.upon] at hh ⊢ <;> first | exact hq _ _ _ (by simp) hh | exact hh

def Region.edge (ops : Array Oper) (m j : Nat) : Bool := ((ops[m]?).map fun o => o.after.any fun e => Region.binds .any e && Nat.beq e.on j).getD false
/-- Who must come before lies before. -/
def Region.downB (ops : Array Oper) : Bool := (List.range ops.size).all fun i =>
  ((ops[i]?).map fun o => (o.after.all fun e => !Region.binds .any e || Nat.blt e.on i) && (match o.guard with | none => true | some p => Nat.blt p.1 i)).getD true
/-- From k on each one waits for all before it. -/
def Region.chainB (ops : Array Oper) (k : Nat) : Bool := Region.downB ops && Nat.ble k ops.size && (List.range (ops.size - 1)).all fun j =>
  (List.range ops.size).any fun m => Nat.blt j m && (Nat.ble m k || Nat.ble m (j + 1)) && Region.edge ops m j
theorem Region.edge_spec {ops : Array Oper} {m j : Nat} (h : Region.edge ops m j = true) : ∃ o, ops[m]? = some o ∧ ∃ e ∈ o.after, Region.binds .any e = true ∧ e.on = j := by
  unfold Region.edge at h
  cases ho : ops[m]? with
  | none => rw [ho] at h; simp at h
  | some o =>
    rw [ho] at h
    simp only [Option.map_some, Option.getD_some, Array.any_eq_true'] at h
    obtain ⟨e, he, hb⟩ := h
    simp only [Bool.and_eq_true] at hb
    exact ⟨o, rfl, e, he, hb.1, Nat.eq_of_beq_eq_true hb.2⟩
theorem Region.down_spec {ops : Array Oper} (h : Region.downB ops = true) {i : Nat} {o : Oper} (ho : ops[i]? = some o) : (∀ e ∈ o.after, Region.binds .any e = true → e.on < i) ∧ ∀ p, o.guard = some p → p.1 < i := by
  have h1 := List.all_eq_true.1 h i (List.mem_range.2 (Array.getElem?_eq_some_iff.1 ho).1)
  rw [ho] at h1
  simp only [Option.map_some, Option.getD_some, Bool.and_eq_true] at h1
  refine ⟨fun e he hb => ?_, fun p hp => ?_⟩
  · have := Array.all_eq_true_iff_forall_mem.1 h1.1 e he
    rw [hb] at this
    simpa [Nat.blt_eq] using this
  · have h2 := h1.2
    rw [hp] at h2
    simpa [Nat.blt_eq] using h2
structure Chain (ops : Array Oper) (k : Nat) : Prop where
  down : Region.downB ops = true
  le : k ≤ ops.size
  next : ∀ j, j < ops.size - 1 → ∃ m, j < m ∧ (m ≤ k ∨ m ≤ j + 1) ∧ Region.edge ops m j = true
theorem Chain.of {ops : Array Oper} {k : Nat} (h : Region.chainB ops k = true) : Chain ops k := by
  unfold Region.chainB at h
  simp only [Bool.and_eq_true] at h
  obtain ⟨⟨h1, h2⟩, h3⟩ := h
  refine ⟨h1, Nat.le_of_ble_eq_true h2, fun j hj => ?_⟩
  have h4 := List.all_eq_true.1 h3 j (List.mem_range.2 hj)
  obtain ⟨m, _, hm⟩ := List.any_eq_true.1 h4
  simp only [Bool.and_eq_true, Bool.or_eq_true, Nat.blt_eq] at hm
  exact ⟨m, hm.1.1, hm.1.2.imp Nat.le_of_ble_eq_true Nat.le_of_ble_eq_true, hm.2⟩

def Closed (ops : Array Oper) (listed : Array Bool) : Prop := ∀ i o, ops[i]? = some o → listed.getD i false = true → ∀ e ∈ o.after, Region.binds .any e = true → listed.getD e.on false = true
theorem getD_tf {listed : Array Bool} {j : Nat} (h : j < listed.size) (a b : Bool) : listed.getD j a = listed.getD j b := by simp [Array.getD_eq_getD_getElem?, h]
theorem Closed.set {ops : Array Oper} {listed : Array Bool} (h : Closed ops listed) {i : Nat} (hi : i ∈ Region.ready .any ops listed) : Closed ops (listed.setIfInBounds i true) := by
  intro m o ho hm e he hb
  by_cases hmi : i = m
  · subst hmi
    obtain ⟨_, o', ho', hall⟩ := mem_ready.1 hi
    rw [ho] at ho'; cases ho'
    exact getD_set_true (hall e he hb)
  · rw [getD_set_ne false hmi] at hm
    exact getD_set_true (h m o ho hm e he hb)
theorem Chain.before {ops : Array Oper} {k : Nat} (hC : Chain ops k) {listed : Array Bool} (hc : Closed ops listed) {i : Nat} (hi : i ∈ Region.ready .any ops listed) (hk : k ≤ i) : ∀ d j, j + d = i → 0 < d → listed.getD j false = true := by
  obtain ⟨_, oi, hoi, hall⟩ := mem_ready.1 hi
  have hlt : i < ops.size := (Array.getElem?_eq_some_iff.1 hoi).1
  intro d
  induction d using Nat.strongRecOn with
  | ind d ih =>
    intro j hj hd
    obtain ⟨m, h1, h2, h3⟩ := hC.next j (by omega)
    obtain ⟨o, ho, e, he, hb, heq⟩ := Region.edge_spec h3
    by_cases hmi : m = i
    · subst hmi
      rw [hoi] at ho; cases ho
      rw [← heq]; exact hall e he hb
    · have := ih (i - m) (by omega) m (by omega) (by omega)
      rw [← heq]; exact hc m o ho this e he hb
theorem ready_least {ops : Array Oper} (hd : Region.downB ops = true) {listed : Array Bool} (hs : listed.size = ops.size) : ∀ j, j < ops.size → listed.getD j true = false → ∃ m, m ≤ j ∧ m ∈ Region.ready .any ops listed := by
  intro j
  induction j using Nat.strongRecOn with
  | ind j ih =>
    intro hj hu
    by_cases hr : j ∈ Region.ready .any ops listed
    · exact ⟨j, Nat.le_refl _, hr⟩
    · have ho : ops[j]? = some ops[j] := Array.getElem?_eq_getElem hj
      have : ¬ ∀ e ∈ ops[j].after, Region.binds .any e = true → listed.getD e.on false = true := fun hh => hr (mem_ready.2 ⟨hu, _, ho, hh⟩)
      simp only [Classical.not_forall] at this
      obtain ⟨e, he, hb, hn⟩ := this
      have hlt := (Region.down_spec hd ho).1 e he hb
      obtain ⟨m, h1, h2⟩ := ih e.on hlt (by omega) (by
        rw [getD_tf (by omega) true false]
        simpa using hn)
      exact ⟨m, by omega, h2⟩
section
variable {P : Program} {ops : Array Oper} {Q Q0 : Exit → Act → World → Prop} {k : Nat}
theorem wpAny_chain (hC : Chain ops k) : ∀ (l : List Oper) (i : Nat) (listed : Array Bool) (fuel : Nat) (a : Act) (w : World), (∀ j, l[j]? = ops[i + j]?) → i + l.length = ops.size → k ≤ i → listed.size = ops.size →
    (∀ j, j < i → listed.getD j false = true) → (∀ j, i ≤ j → j < ops.size → listed.getD j true = false) → Closed ops listed → l.length ≤ fuel → wpList P ops Q l a w → wpAny P .any ops Q fuel listed a w
  | [], i, listed, fuel, a, w, hl, hsz, hk, hls, h1, h2, hc, hf, h => by
    have hr : Region.ready .any ops listed = [] := by
      refine List.eq_nil_iff_forall_not_mem.2 fun m hm => ?_
      obtain ⟨hu, o, ho, _⟩ := mem_ready.1 hm
      have hlt : m < ops.size := (Array.getElem?_eq_some_iff.1 ho).1
      have := h1 m (by simp at hsz; omega)
      rw [getD_tf (by omega) false true, hu] at this
      simp at this
    cases fuel with
    | zero => exact ⟨hr, h⟩
    | succ f => exact ⟨fun _ => h, fun m hm => by rw [hr] at hm; cases hm⟩
  | o :: l, i, listed, fuel, a, w, hl, hsz, hk, hls, h1, h2, hc, hf, h => by
    have h0 : ops[i]? = some o := by simpa using (hl 0).symm
    have hlt : i < ops.size := (Array.getElem?_eq_some_iff.1 h0).1
    have hl' : ∀ j, l[j]? = ops[i + 1 + j]? := fun j => by have := hl (j + 1); simpa [Nat.add_assoc, Nat.add_comm 1 j] using this
    have hui := h2 i (Nat.le_refl _) hlt
    have hir : i ∈ Region.ready .any ops listed := mem_ready.2 ⟨hui, o, h0, fun e he hb => h1 _ ((Region.down_spec hC.down h0).1 e he hb)⟩
    have hnext : ∀ (a' : Act) (w' : World), wpList P ops Q l a' w' → wpAny P .any ops Q (fuel - 1) (listed.setIfInBounds i true) a' w' := fun a' w' h' =>
      wpAny_chain hC l (i + 1) _ _ a' w' hl' (by simp at hsz; omega) (by omega) (by simp [hls]) (fun j hj => by
        by_cases hji : i = j
        · subst hji
          simp [Array.getD_eq_getD_getElem?, hls, hlt]
        · rw [getD_set_ne false hji]; exact h1 j (by omega)) (fun j hj hj2 => by rw [getD_set_ne true (by omega)]; exact h2 j (by omega) hj2) (hc.set hir) (by simp at hf; omega) h'
    obtain ⟨f, rfl⟩ : ∃ f, fuel = f + 1 := ⟨fuel - 1, by simp at hf; omega⟩
    refine ⟨fun hr => (by rw [hr] at hir; cases hir), fun m hm => ?_⟩
    obtain ⟨hu, o', ho', _⟩ := mem_ready.1 hm
    have hm2 : m = i := by
      have hmlt : m < ops.size := (Array.getElem?_eq_some_iff.1 ho').1
      rcases Nat.lt_trichotomy m i with hh | hh | hh
      · have := h1 m hh
        rw [getD_tf (by omega) false true, hu] at this
        simp at this
      · exact hh
      · have := hC.before hc hm (by omega) (m - i) i (by omega) (by omega)
        rw [getD_tf (by omega) false true, hui] at this
        simp at this
    subst hm2
    unfold wpOp
    simp only [h0]
    unfold wpList at h
    by_cases hw : Region.wanted o (yielded ops a.tmps) = true
    · rw [if_pos hw] at h ⊢
      exact h.imp (Oper.wp_mono hnext) id
    · rw [if_neg hw] at h ⊢
      exact hnext _ _ h
theorem wanted_same {ops0 : Array Oper} {o : Oper} {tmps : Array Value} (h : ∀ p, o.guard = some p → ops0[p.1]? = ops[p.1]?) : Region.wanted o (yielded ops0 tmps) = Region.wanted o (yielded ops tmps) := by
  unfold Region.wanted
  cases hg : o.guard with
  | none => rfl
  | some p =>
    obtain ⟨j, want⟩ := p
    have := h (j, want) hg
    dsimp only at this ⊢
    unfold yielded
    rw [this]
theorem wpAny_split (hC : Chain ops k) {ops0 : Array Oper} (h0 : ops0.size = k) (hpre : ∀ j, j < k → ops0[j]? = ops[j]?) (hN : ∀ a w, Q0 .normal a w → wpList P ops Q (ops.toList.drop k) a w) (hE : ∀ e a w, e ≠ .normal → Q0 e a w → Q e a w) :
    ∀ (fuel0 : Nat) (listed0 listed : Array Bool) (fuel : Nat) (a : Act) (w : World), listed0.size = k → listed.size = ops.size → (∀ j, j < k → ∀ d, listed0.getD j d = listed.getD j d) → (∀ j, k ≤ j → j < ops.size → listed.getD j true = false) →
      Closed ops listed → fuel0 + (ops.size - k) ≤ fuel → wpAny P .any ops0 Q0 fuel0 listed0 a w → wpAny P .any ops Q fuel listed a w := by
  have hle := hC.le
  have hd0 : Region.downB ops0 = true := by
    unfold Region.downB
    refine List.all_eq_true.2 fun i hi => ?_
    have hik := List.mem_range.1 hi
    have h1 := List.all_eq_true.1 hC.down i (List.mem_range.2 (by omega))
    rw [hpre i (by omega)]
    exact h1
  have all : ∀ (fuel0 : Nat) (listed0 listed : Array Bool) (fuel : Nat) (a : Act) (w : World), listed0.size = k → listed.size = ops.size → (∀ j, j < k → ∀ d, listed0.getD j d = listed.getD j d) → (∀ j, k ≤ j → j < ops.size → listed.getD j true = false) →
      Closed ops listed → fuel0 + (ops.size - k) ≤ fuel → wpAny P .any ops0 Q0 fuel0 listed0 a w → (∀ j, j < k → listed.getD j false = true) → wpAny P .any ops Q fuel listed a w := by
    intro fuel0 listed0 listed fuel a w hs0 hs hag hun hc hf H hall
    have hr0 : Region.ready .any ops0 listed0 = [] := by
      refine List.eq_nil_iff_forall_not_mem.2 fun m hm => ?_
      obtain ⟨hu, o, ho, _⟩ := mem_ready.1 hm
      have hlt : m < ops0.size := (Array.getElem?_eq_some_iff.1 ho).1
      have h1 := hall m (by omega)
      rw [← hag m (by omega), getD_tf (by omega) false true, hu] at h1
      simp at h1
    have hQ : Q0 .normal a w := by
      cases fuel0 with
      | zero => exact H.2
      | succ f => exact H.1 hr0
    exact wpAny_chain hC (ops.toList.drop k) k listed fuel a w (fun j => by rw [List.getElem?_drop, Array.getElem?_toList]) (by rw [List.length_drop, Array.length_toList]; omega) (Nat.le_refl _) hs hall hun hc (by rw [List.length_drop, Array.length_toList]; omega) (hN a w hQ)
  intro fuel0
  induction fuel0 with
  | zero =>
    intro listed0 listed fuel a w hs0 hs hag hun hc hf H
    refine all 0 listed0 listed fuel a w hs0 hs hag hun hc hf H fun j hj => ?_
    cases hh : listed.getD j false with
    | true => rfl
    | false =>
      rw [← hag j hj, getD_tf (by omega) false true] at hh
      obtain ⟨m, _, hm⟩ := ready_least hd0 (by omega) j (by omega) hh
      rw [H.1] at hm; cases hm
  | succ fuel0 ih =>
    intro listed0 listed fuel a w hs0 hs hag hun hc hf H
    by_cases hall : ∀ j, j < k → listed.getD j false = true
    · exact all _ listed0 listed fuel a w hs0 hs hag hun hc hf H hall
    · simp only [Classical.not_forall] at hall
      obtain ⟨j, hj, hjn⟩ := hall
      have hju : listed.getD j true = false := by rw [getD_tf (by omega) true false]; simpa using hjn
      obtain ⟨f, rfl⟩ : ∃ f, fuel = f + 1 := ⟨fuel - 1, by omega⟩
      refine ⟨fun hr => ?_, fun m hm => ?_⟩
      · obtain ⟨m, _, hm⟩ := ready_least hC.down hs j (by omega) hju
        rw [hr] at hm; cases hm
      · obtain ⟨hu, o, ho, hdep⟩ := mem_ready.1 hm
        have hmlt : m < ops.size := (Array.getElem?_eq_some_iff.1 ho).1
        have hmk : m < k := by
          refine Nat.lt_of_not_le fun hkm => hjn ?_
          exact hC.before hc hm hkm (m - j) j (by omega) (by omega)
        have ho0 : ops0[m]? = some o := by rw [hpre m hmk]; exact ho
        have hm0 : m ∈ Region.ready .any ops0 listed0 := mem_ready.2 ⟨by rw [hag m hmk]; exact hu, o, ho0, fun e he hb => by
          have := (Region.down_spec hC.down ho).1 e he hb
          rw [hag _ (by omega)]; exact hdep e he hb⟩
        have h1 := H.2 m hm0
        unfold wpOp at h1 ⊢
        simp only [ho, ho0] at h1 ⊢
        rw [wanted_same (ops := ops) fun p hp => hpre _ (by have := (Region.down_spec hC.down ho).2 p hp; omega)] at h1
        have hnext : ∀ (a' : Act) (w' : World), wpAny P .any ops0 Q0 fuel0 (listed0.setIfInBounds m true) a' w' → wpAny P .any ops Q f (listed.setIfInBounds m true) a' w' := fun a' w' h' =>
          ih _ _ f a' w' (by simp [hs0]) (by simp [hs]) (fun j hj d => by
            by_cases hmj : m = j
            · subst hmj
              simp [Array.getD_eq_getD_getElem?, hs0, hs, hmk, hmlt]
            · rw [getD_set_ne d hmj, getD_set_ne d hmj]; exact hag j hj d) (fun j hj hj2 => by rw [getD_set_ne true (by omega)]; exact hun j hj hj2) (hc.set hm) (by omega) h'
        by_cases hw : Region.wanted o (yielded ops a.tmps) = true
        · rw [if_pos hw] at h1 ⊢
          exact h1.imp (wp_to2 hnext hE) fun h => ⟨h.1, h.2.imp fun _ => Exists.imp fun _ => hE _ _ _ (by simp)⟩
        · rw [if_neg hw] at h1 ⊢
          exact hnext _ _ h1
end
end Go.Proofs.YtagdgclfnbiahaaDoor

namespace Go.Proofs.YtagdgclfnbiahaaDoor
open Go.RowKit Go.MapKept
set_option linter.unusedVariables false

/-- m[key] = d: what the map holds then. -/
def MPut (M : List (Value × D)) (key : Value) (d : D) (M' : List (Value × D)) : Prop :=
  (∃ i d0, M[i]? = some (key, d0) ∧ (∀ (j : Nat) (p : Value × D), M[j]? = some p → p.1 = key → j = i) ∧ M' = M.set i (key, d)) ∨ ((∀ p ∈ M, p.1 ≠ key) ∧ M' = M ++ [(key, d)])
/-- m[key]; z: the zero value. -/
def MGet (M : List (Value × D)) (key : Value) (z d : D) : Prop := (∃ i, M[i]? = some (key, d) ∧ ∀ (j : Nat) (p : Value × D), M[j]? = some p → p.1 = key → j = i) ∨ ((∀ p ∈ M, p.1 ≠ key) ∧ d = z)

theorem entries_get {F : Nat → Prop} {w : World} {M : List (Value × D)} {es : Array MapEntry} (hl : es.size = M.length) (h : ∀ i (h : i < es.size) (h' : i < M.length), es[i].key = M[i].1 ∧ Rep F w es[i].val M[i].2) {j : Nat} {en : MapEntry} (hj : es.toList[j]? = some en) :
    ∃ p, M[j]? = some p ∧ en.key = p.1 ∧ Rep F w en.val p.2 := by
  rw [Array.getElem?_toList] at hj
  obtain ⟨h1, h2⟩ := Array.getElem?_eq_some_iff.1 hj
  refine ⟨M[j]'(by omega), List.getElem?_eq_getElem _, ?_, ?_⟩
  · rw [← h2]; exact (h j h1 (by omega)).1
  · rw [← h2]; exact (h j h1 (by omega)).2
theorem entries_keys {F : Nat → Prop} {w : World} {M : List (Value × D)} {es : Array MapEntry} {kd : TypeDesc} (hl : es.size = M.length) (h : ∀ i (h : i < es.size) (h' : i < M.length), es[i].key = M[i].1 ∧ Rep F w es[i].val M[i].2) (hg : ∀ p ∈ M, IsKey kd p.1) : ∀ x ∈ es.toList, IsKey kd x.key := fun x hx => by
  obtain ⟨j, hj⟩ := List.mem_iff_getElem?.1 hx
  obtain ⟨p, h1, h2, _⟩ := entries_get hl h hj
  rw [h2]; exact hg p (List.mem_of_getElem? h1)
theorem setObj_turn {w : World} {b : Nat} {o : Obj} : Turn w { w with heap := w.heap.setIfInBounds b o } (some b) :=
  ⟨rfl, rfl, rfl, by simp, fun k _ hne => by
    have : b ≠ k := fun h => hne (by rw [h])
    simp [this]⟩
section
variable {cx : Cx} {ops : Array Oper} {o : Oper} {rest : List Oper} {e : Env} {σ σ' : Obs} {Q : Post}
theorem AOps.eff (hg : o.guard = none) (ht : o.dst = none) (h : EOp cx ops o e σ σ') (k : AOps cx ops rest e σ' Q) : AOps cx ops (o :: rest) e σ Q := by
  intro a w ⟨F, ρ, hr⟩
  refine wpList_plain hg fun K hK => ?_
  refine wp_to ?_ (fun _ _ _ => False.elim) (h F ρ a w e hr (fun t _ => hr.env t))
  rintro a' w' ⟨rfl, h3⟩
  obtain ⟨F', ρ', h4⟩ := h3 e hr
  exact hK _ _ (k _ _ ⟨F', ρ', h4⟩)
theorem EOp.mapUpdate {t k et : TypeId} {id : Nat} {m x v : Operand} {key : Value} {d : D} {M M' : List (Value × D)} {kd : TypeDesc} (hdst : o.dst = none) (ho : o.op = .mapUpdate t m x v) (ht : cx.P.underlying t = some (.map k et)) (hk : cx.P.underlying k = some kd) (hm : e.ev m = .own id) (hmem : (id, Ob.map M) ∈ σ)
    (hx : e.ev x = .d (.v key)) (hv : e.ev v = .d d) (hg : IsKey kd key) (hgs : ∀ p ∈ M, IsKey kd p.1) (hp : MPut M key d M') : EOp cx ops o e σ (Obs.upd id (.map M') σ) := by
  intro F ρ a w e0 hr ha
  have hop : ∀ y ∈ o.op.operands.toList, RepS F ρ w (a.eval y) (e.ev y) := fun y hy => ev_rep fun t ht => ha t (looks_op (by rw [← ht]; exact hy))
  have r1 := hop m (by rw [ho]; simp [Op.operands])
  have r2 := hop x (by rw [ho]; simp [Op.operands])
  have r3 := hop v (by rw [ho]; simp [Op.operands])
  rw [hm] at r1
  rw [hx] at r2
  rw [hv] at r3
  obtain ⟨b, es, clock, hρ, hB, hF, hh, hMC, hall⟩ := hr.obs.ok _ hmem
  have hl := hMC.size
  dsimp only at hρ
  have hmv : a.eval m = .map (some b) := by rw [← hρ]; generalize a.eval m = u at r1; cases r1; rfl
  have hxv := repS_v r2
  have r3' := repS_d r3
  have hks := entries_keys hl hall hgs
  have hblk : blk (ρ id) = some b := by rw [hρ]; rfl
  unfold Oper.wp execOp
  simp only [ho, hmv, hxv]
  rcases MapKept.findNow_spec hg es.toList 0 hks with ⟨h1, h2⟩ | ⟨j, en, h1, h2, h3⟩
  · have hrun : (Instr.mapUpdate t (.map (some b)) key (a.eval v)).run cx.P w = .ok () { w with heap := w.heap.setIfInBounds b (.map (es.push { key := key, val := a.eval v, born := clock }) (clock + 1)) } := by
      simp [Instr.mapUpdate, run_underlying ht, MapKept.run_getObj_map hh, MapKept.run_checkKey hk hg, MapKept.run_findKey hk h1, MapKept.run_setObj_map _ hh, Result.andThen]
    rw [Sem.run_bind, hrun]
    refine ⟨by rw [hdst]; rfl, fun e2 hr2 => ⟨F, ρ, hr2.writeOb hblk hmem hB hF setObj_turn ?_⟩⟩
    have hM' : M' = M ++ [(key, d)] := by
      rcases hp with ⟨i, d0, hi, _, _⟩ | ⟨_, hM'⟩
      · exfalso
        have hil : i < M.length := (List.getElem?_eq_some_iff.1 hi).1
        have h4 := (hall i (by omega) hil).1
        have h5 : M[i] = (key, d0) := (List.getElem?_eq_some_iff.1 hi).2
        rw [h5] at h4
        exact h2 es[i] (by simp) h4
      · exact hM'
    have hkeep : ∀ {u : Value} {y : D}, Rep F w u y → Rep F { w with heap := w.heap.setIfInBounds b (.map (es.push { key := key, val := a.eval v, born := clock }) (clock + 1)) } u y := fun h => h.mono (fun _ h => h) fun c hc => by
      have : b ≠ c := fun h => hF (by rw [h]; exact hc)
      simp [this]
    subst hM'
    refine ⟨b, _, _, hρ, hB, hF, (MapKept.heap_set hh).1, by simpa using hMC.push key (a.eval v), fun i hi hi' => ?_⟩
    by_cases hc : i < es.size
    · have hc' : i < M.length := by omega
      rw [Array.getElem_push_lt hc, List.getElem_append_left hc']
      exact ⟨(hall i hc hc').1, hkeep (hall i hc hc').2⟩
    · have : i = es.size := by simp at hi; omega
      subst this
      rw [Array.getElem_push_eq, List.getElem_append_right (by omega)]
      simp only [hl, Nat.sub_self, List.getElem_cons_zero]
      exact ⟨trivial, hkeep r3'⟩
  · have hjs : j < es.size := by simpa using (List.getElem?_eq_some_iff.1 h2).1
    have hej : es[j] = en := by have := (List.getElem?_eq_some_iff.1 h2).2; simpa using this
    have hrun : (Instr.mapUpdate t (.map (some b)) key (a.eval v)).run cx.P w = .ok () { w with heap := w.heap.setIfInBounds b (.map (es.modify j fun e => { e with key := key, val := a.eval v }) clock) } := by
      have h0 : ((es[j]?).map (·.key)).getD key = key := by rw [Array.getElem?_eq_getElem hjs, hej]; simp [h3]
      simp only [Nat.zero_add] at h1
      simp only [Instr.mapUpdate, run_underlying ht, Sem.run_bind, Result.andThen_ok, MapKept.run_getObj_map hh, MapKept.run_checkKey hk hg, MapKept.run_findKey hk h1, h0, MapKept.run_keyThatStays hg, MapKept.run_setObj_map _ hh]
    rw [Sem.run_bind, hrun]
    refine ⟨by rw [hdst]; rfl, fun e2 hr2 => ⟨F, ρ, hr2.writeOb hblk hmem hB hF setObj_turn ?_⟩⟩
    have hjl : j < M.length := by omega
    have hkj : M[j].1 = key := by rw [← (hall j hjs hjl).1, hej]; exact h3
    have hM' : M' = M.set j (key, d) := by
      rcases hp with ⟨i, d0, hi, hu, hM'⟩ | ⟨hno, _⟩
      · have := hu j M[j] (List.getElem?_eq_getElem hjl) hkj
        rw [this]; exact hM'
      · exact absurd hkj (hno _ (List.getElem_mem hjl))
    have hkeep : ∀ {u : Value} {y : D}, Rep F w u y → Rep F { w with heap := w.heap.setIfInBounds b (.map (es.modify j fun e => { e with key := key, val := a.eval v }) clock) } u y := fun h => h.mono (fun _ h => h) fun c hc => by
      have : b ≠ c := fun h => hF (by rw [h]; exact hc)
      simp [this]
    subst hM'
    refine ⟨b, _, _, hρ, hB, hF, (MapKept.heap_set hh).1, by rw [List.length_set]; exact hMC.modify _ _ (fun _ => rfl), fun i hi hi' => ?_⟩
    have hc : i < es.size := by simpa using hi
    have hc' : i < M.length := by omega
    rw [Array.getElem_modify, List.getElem_set]
    by_cases hij : j = i
    · rw [if_pos hij, if_pos hij]
      exact ⟨rfl, hkeep r3'⟩
    · rw [if_neg hij, if_neg hij]
      exact ⟨(hall i hc hc').1, hkeep (hall i hc hc').2⟩
/-- make(map[K]V) -/
theorem AOps.makeMap {t dst : Nat} (id : Nat) (hg : o.guard = none) (ht : o.dst = some dst) (hdn : Nat.blt dst cx.N = true) (ho : o.op = .makeMap t none) (hid : Obs.fresh id σ = true)
    (k : AOps cx ops rest ((e.kill id).put (some dst) (.own id)) ((id, .map []) :: Obs.kill id σ) Q) (hfx : cx.free id = true := by rfl) : AOps cx ops (o :: rest) e σ Q := by
  intro a w ⟨F, ρ, h⟩
  refine wpList_plain hg fun K hK => ?_
  unfold Oper.wp execOp
  simp only [ho, Option.map_none, Sem.run_bind, run_makeMap, Result.andThen_ok, Sem.run_pure]
  refine hK _ _ (k _ _ ⟨F, fun j => if j = id then .map (some w.heap.size) else ρ j, ?_⟩)
  have hE : Ext F w F (w.alloc (.map #[] 0)) := Ext.of_below h.lt ((Below.refl _ _).alloc (Nat.le_refl _) _)
  have h2 := h.turn (ρ' := fun j => if j = id then .map (some w.heap.size) else ρ j) (id := id) (ob := .map []) (row := none) (w' := w.alloc (.map #[] 0)) (F' := F) (fun j hj => by simp [hj])
    ⟨hE.below.os, hE.below.tape, hE.below.output, hE.below.size, fun k hk _ => hE.below.block k hk⟩ hfx (fun g hg => by simp at hg) (fun b hb => hb) (fun b hb => .inl hb) hE.lt
    ⟨w.heap.size, #[], 0, by simp, h.hB, fun hf => by have := h.lt _ hf; omega, (MapKept.heap_alloc w _).1, MapC.nil 0, fun i hi => by simp at hi⟩
    (fun g hg => by simp [blk] at hg; exact .inr (by omega)) ((id, .map []) :: Obs.kill id σ) (fun p hp => by
      cases hp with
      | head => exact .inl rfl
      | tail _ hp => obtain ⟨q, hq, rfl⟩ := Obs.mem_kill hp; exact .inr ⟨q, hq, Obs.fresh_spec hid q hq, rfl⟩)
  have h3 := h2.put (o := ⟨some dst, .ready 0, 0, "", #[], none⟩) (v := .map (some w.heap.size)) (s := .own id) (Ext.refl h2.lt) (by
    have := RepS.own (F := F) (ρ := fun j => if j = id then Value.map (some w.heap.size) else ρ j) (w := w.alloc (.map #[] 0)) id
    simpa using this) (by simpa [DstOk, Nat.blt_eq] using hdn)
  rw [ht]
  exact h3
end
section
variable {P : Program} {B : Nat} {ops : Array Oper} {o : Oper} {e : Env} {σ : Obs}
theorem AOp.lookup {x ix : Operand} {t k et : TypeId} {id : Nat} {M : List (Value × D)} {key z : Value} {d : D} {kd : TypeDesc} (ho : o.op = .lookup t x ix false) (ht : P.underlying t = some (.map k et)) (hk : P.underlying k = some kd) (hz : (P.info? et).bind (·.zero) = some z) (hx : e.ev x = .own id) (hm : (id, Ob.map M) ∈ σ)
    (hi : e.ev ix = .d (.v key)) (hg : IsKey kd key) (hgs : ∀ p ∈ M, IsKey kd p.1) (hd : MGet M key (.v z) d) : AOp P B ops o e σ (.d d) := .value fun F ρ w a hF hr hσ => by
  have h1 := hr x (by rw [ho]; simp [Op.operands])
  have h2 := hr ix (by rw [ho]; simp [Op.operands])
  rw [hx] at h1
  rw [hi] at h2
  obtain ⟨b, es, clock, hρ, hB, hFb, hh, ⟨hl, _, _⟩, hall⟩ := hσ.ok _ hm
  dsimp only at hρ
  have hv : a.eval x = .map (some b) := by rw [← hρ]; generalize a.eval x = u at h1; cases h1; rfl
  have hks := entries_keys hl hall hgs
  obtain ⟨ti, hti, hzz⟩ := Option.bind_eq_some_iff.1 hz
  have hprog : (program : Sem Program).run P w = .ok P w := rfl
  rcases MapKept.findNow_spec hg es.toList 0 hks with ⟨h3, h4⟩ | ⟨j, en, h3, h4, h5⟩
  · refine ⟨z, F, w, ?_, ?_, Ext.refl hF⟩
    · unfold execOp
      simp only [ho, hv, repS_v h2, Sem.run_bind]
      simp [Instr.lookup, run_underlying ht, MapKept.run_getObj_map hh, MapKept.run_checkKey hk hg, MapKept.run_findKey hk h3, zeroValue, typeInfo, hti, hzz, Result.andThen]
    · rcases hd with ⟨i, hi2, _⟩ | ⟨_, rfl⟩
      · exfalso
        have hil : i < M.length := (List.getElem?_eq_some_iff.1 hi2).1
        have h6 := (hall i (by omega) hil).1
        rw [(List.getElem?_eq_some_iff.1 hi2).2] at h6
        exact h4 es[i] (by simp) h6
      · exact .d (.v _)
  · have hjs : j < es.size := by simpa using (List.getElem?_eq_some_iff.1 h4).1
    have hej : es[j] = en := by have := (List.getElem?_eq_some_iff.1 h4).2; simpa using this
    have hjl : j < M.length := by omega
    refine ⟨en.val, F, w, ?_, ?_, Ext.refl hF⟩
    · unfold execOp
      simp only [ho, hv, repS_v h2, Sem.run_bind]
      simp only [Nat.zero_add] at h3
      simp [Instr.lookup, run_underlying ht, MapKept.run_getObj_map hh, MapKept.run_checkKey hk hg, MapKept.run_findKey hk h3, Result.andThen]
    · have hkj : M[j].1 = key := by rw [← (hall j hjs hjl).1, hej]; exact h5
      rcases hd with ⟨i, hi2, hu⟩ | ⟨hno, _⟩
      · have := hu j M[j] (List.getElem?_eq_getElem hjl) hkj
        subst this
        have h6 := (hall j hjs hjl).2
        rw [(List.getElem?_eq_some_iff.1 hi2).2, hej] at h6
        exact .d h6
      · exact absurd hkj (hno _ (List.getElem_mem hjl))
/-! Closures. -/
def CapsOk (e : Env) : List Operand → List Cap → Prop
  | [], [] => True
  | x :: xs, .p id off :: cs => e.ev x = .ptr id off ∧ CapsOk e xs cs
  | x :: xs, .d y :: cs => e.ev x = .d y ∧ CapsOk e xs cs
  | _, _ => False
theorem CapsOk.nil : CapsOk e [] [] := trivial
theorem CapsOk.p {x : Operand} {xs : List Operand} {id off : Nat} {cs : List Cap} (h : e.ev x = .ptr id off) (k : CapsOk e xs cs) : CapsOk e (x :: xs) (.p id off :: cs) := ⟨h, k⟩
theorem CapsOk.rep {F : Nat → Prop} {ρ : Nat → Value} {w : World} {a : Act} : ∀ {xs : List Operand} {cs : List Cap}, CapsOk e xs cs → (∀ x ∈ xs, RepS F ρ w (a.eval x) (e.ev x)) → RepCL F ρ w (xs.map a.eval) cs
  | [], [], _, _ => trivial
  | x :: xs, .p id off :: cs, h, ha => by
    refine ⟨?_, CapsOk.rep h.2 fun y hy => ha y (List.mem_cons_of_mem _ hy)⟩
    have h1 := ha x (by simp)
    rw [h.1] at h1
    generalize a.eval x = v at h1
    cases h1 with
    | ptr _ _ g hg => exact .p id off g hg
  | x :: xs, .d y :: cs, h, ha => by
    refine ⟨?_, CapsOk.rep h.2 fun y hy => ha y (List.mem_cons_of_mem _ hy)⟩
    have h1 := ha x (by simp)
    rw [h.1] at h1
    exact .d (repS_d h1)
  | [], _ :: _, h, _ => h.elim
  | _ :: _, [], h, _ => h.elim
theorem AOp.makeClo {f : FuncId} {cs : List Operand} {caps : List Cap} (ho : o.op = .makeFunc (.func f) #[] cs.toArray) (hc : CapsOk e cs caps) : AOp P B ops o e σ (.clo f caps) := .value fun F ρ w a hF hr hσ => by
  refine ⟨.func (.func f) #[] (cs.map a.eval).toArray, F, w, ?_, .clo f _ caps (hc.rep fun x hx => hr x (by rw [ho]; simp [Op.operands, hx])), Ext.refl hF⟩
  unfold execOp
  simp only [ho]
  simp [Instr.makeFunc]
theorem AOp.moveC {x : Operand} {f : FuncId} {caps : List Cap} (ho : o.op = .move x) (hx : e.ev x = .clo f caps) : AOp P B ops o e σ (.clo f caps) := hx ▸ .move ho
theorem AOp.assignC {x : Operand} {f : FuncId} {caps : List Cap} (ho : o.op = .assign x) (hx : e.ev x = .clo f caps) : AOp P B ops o e σ (.clo f caps) := hx ▸ .assign ho
end
def Cap.toS : Cap → S
  | .p id off => .ptr id off
  | .d y => .d y
theorem RepCL.toS {F : Nat → Prop} {ρ : Nat → Value} {w : World} : ∀ {cs : List Value} {caps : List Cap}, RepCL F ρ w cs caps → RepSL F ρ w cs (caps.map Cap.toS)
  | [], [], _ => ⟨rfl, fun i h => absurd h (by simp)⟩
  | x :: xs, c :: cs, h => by
    have h1 := RepCL.toS h.2
    refine ⟨by simpa using h1.1, fun i h2 h3 => ?_⟩
    cases i with
    | zero =>
      have h4 := h.1
      cases c with
      | p id off => cases h4 with | p _ _ g hg => exact .ptr id off g hg
      | d y => cases h4 with | d h4 => exact .d h4
    | succ i => exact h1.2 i (by simpa using h2) (by simpa using h3)
  | [], _ :: _, h => h.elim
  | _ :: _, [], h => h.elim
theorem RepSL.append {F : Nat → Prop} {ρ : Nat → Value} {w : World} {vs vs' : List Value} {ss ss' : List S} (h : RepSL F ρ w vs ss) (k : RepSL F ρ w vs' ss') : RepSL F ρ w (vs ++ vs') (ss ++ ss') := by
  refine ⟨by simp [h.1, k.1], fun i h1 h2 => ?_⟩
  by_cases hi : i < vs.length
  · rw [List.getElem_append_left hi, List.getElem_append_left (by rw [← h.1]; exact hi)]
    exact h.2 _ _ _
  · rw [List.getElem_append_right (by omega), List.getElem_append_right (by rw [← h.1]; omega)]
    simp only [← h.1]
    exact k.2 _ _ _
section
variable {cx : Cx} {ops : Array Oper} {o : Oper} {rest : List Oper} {e : Env} {σ : Obs} {Q : Post}
/-- A call of such a closure. -/
theorem AOps.callXC {f : FuncId} {x : Operand} {caps : List Cap} {xs : List Operand} {ts : Array TypeId} {ss : List S} {σc σ' : Obs} {chg : Nat → Bool} {d : D} (hg : o.guard = none) (hd : DstOk cx.N o)
    (ho : o.op = .call { callee := .value x, args := xs.toArray, argTypes := ts }) (hx : e.ev x = .clo f caps) (ha : ArgsS e xs ss) (h : XCall cx.P f (ss ++ caps.map Cap.toS) σc σ' chg d) (hin : AllIn σ σc)
    (h1 : Obs.allIds (fun i => !(chg i)) (Obs.dels σc σ) = true) (h2 : Obs.allIds (fun i => Obs.allIds (fun j => !(Nat.beq i j)) (Obs.dels σc σ)) σ' = true) (h3 : ∀ i, chg i = true → cx.fixp i = false)
    (k : AOps cx ops rest ((e.killP chg).put o.dst (.d d)) (Obs.join σ' (Obs.killP chg (Obs.dels σc σ))) Q) : AOps cx ops (o :: rest) e σ Q := by
  intro a w ⟨F, ρ, hr⟩
  have hc := ev_rep (e := e) (x := x) (a := a) (fun t _ => hr.env t)
  rw [hx] at hc
  generalize hv : a.eval x = v at hc
  cases hc with
  | clo _ cs _ hcs =>
    have h4 := h.2 F ρ cx.B w _ hr.lt hr.hB (hr.obs.sub hin.mem) ((ArgsS.rep hr.env ha).append hcs.toS)
    have h5 := h.1 (xs.map a.eval ++ cs).toArray w
    have hx : (execOp a.eval o).run cx.P w = .ok (.enter f (xs.map a.eval ++ cs).toArray) w := by
      unfold execOp
      simp only [ho, resolve, Deferred.ofValue, hv, invoke, Sem.run_bind, Sem.run_pure, Result.andThen_ok]
      simpa using h5
    refine wpList_plain hg fun K hK => ?_
    unfold Oper.wp
    rw [hx]
    refine h4.mono fun _ w' ⟨v, F', ρ', he, hv, hE⟩ => ?_
    subst he
    exact hK _ _ (k _ _ ⟨F', ρ', (hr.after hin.mem hE h1 h2 h3).put (Ext.refl hE.lt) (.d hv) hd⟩)
end
/-! Cells. -/
theorem mem_ob_eq {id : Nat} {o o' : Ob} {σ : Obs} (h : (id, o) ∈ σ) (hd : o = o') : (id, o') ∈ σ := hd ▸ h
theorem R0.recell {cx : Cx} {F : Nat → Prop} {ρ : Nat → Value} {e : Env} {σ : Obs} {a : Act} {w : World} (hr : R0 cx F ρ e σ a w) {id off : Nat} {ss : List S} {s s' : S} (hm : (id, Ob.cells ss) ∈ σ) (hs : ss[off]? = some s) (h : ∀ x, RepS F ρ w x s → RepS F ρ w x s') :
    R0 cx F ρ e (Obs.upd id (.cells (ss.set off s')) σ) a w := by
  obtain ⟨g, ty, cs, h2, h3, h4, h5, h6, h7⟩ := hr.obs.ok _ hm
  dsimp only at h2
  refine hr.writeOb (g := g) (by rw [h2]; rfl) hm h3 h4 ⟨rfl, rfl, rfl, Nat.le_refl _, fun _ _ _ => rfl⟩ ⟨g, ty, cs, h2, h3, h4, h5, by simp [h6], fun j hj hj' => ⟨(h7 j hj (by simpa using hj')).1, ?_⟩⟩
  rw [List.getElem_set]
  by_cases hj2 : off = j
  · rw [if_pos hj2]
    subst hj2
    have h8 := (h7 off hj (by simpa using hj')).2
    rw [(List.getElem?_eq_some_iff.1 hs).2] at h8
    exact h _ h8
  · rw [if_neg hj2]
    exact (h7 j hj (by simpa using hj')).2
/-- A nil slice in an own cell, taken for an own row of nothing. -/
theorem R0.adoptCell {cx : Cx} {F : Nat → Prop} {ρ : Nat → Value} {e : Env} {σ : Obs} {a : Act} {w : World} (h : R0 cx F ρ e σ a w) {id off : Nat} {ss : List S} (id2 ee size : Nat) (hm : (id, Ob.cells ss) ∈ σ) (hs : ss[off]? = some (.d (.v (.slice none 0 0)))) (hid : ∀ p ∈ σ, p.1 ≠ id2) (hfx : cx.free id2 = true) :
    ∃ ρ', R0 cx F ρ' (e.kill id2) (Obs.upd id (.cells ((ss.map (S.kill id2)).set off (.own id2))) ((id2, .row ee size []) :: Obs.kill id2 σ)) a w := by
  refine ⟨fun j => if j = id2 then .slice none 0 0 else ρ j, ?_⟩
  have h1 := h.turn (ρ' := fun j => if j = id2 then .slice none 0 0 else ρ j) (id := id2) (ob := .row ee size []) (row := none) (w' := w) (F' := F) (fun j hj => by simp [hj])
    ⟨rfl, rfl, rfl, Nat.le_refl _, fun _ _ _ => rfl⟩ hfx (fun g hg => by simp at hg) (fun b hb => hb) (fun b hb => .inl hb) h.lt
    ⟨fun _ _ => undef, by simp [World.ownsRow], fun i hi => by simp at hi, fun i hi => by simp at hi, fun g hg => by simp [blk] at hg⟩ (fun g hg => by simp [blk] at hg) ((id2, .row ee size []) :: Obs.kill id2 σ) (fun p hp => by
      cases hp with
      | head => exact .inl rfl
      | tail _ hp => obtain ⟨q, hq, rfl⟩ := Obs.mem_kill hp; exact .inr ⟨q, hq, hid q hq, rfl⟩)
  have hmk : ∀ {σ : Obs}, (id, Ob.cells ss) ∈ σ → (id, Ob.cells (ss.map (S.kill id2))) ∈ Obs.kill id2 σ := by
    intro σ hh
    induction σ with
    | nil => cases hh
    | cons p l ih =>
      cases hh with
      | head => exact .head _
      | tail _ hh => exact .tail _ (ih hh)
  refine h1.recell (s := .d (.v (.slice none 0 0))) (.tail _ (hmk hm)) (by rw [List.getElem?_map, hs]; rfl) fun x hx => ?_
  rw [repS_v hx]
  have := RepS.own (F := F) (ρ := fun j => if j = id2 then Value.slice none 0 0 else ρ j) (w := w) id2
  simpa using this
theorem AOps.adoptCell {cx : Cx} {ops : Array Oper} {rest : List Oper} {e : Env} {σ : Obs} {Q : Post} (id2 ee size id off : Nat) {ss : List S} (hm : (id, Ob.cells ss) ∈ σ) (hs : ss[off]? = some (.d (.v (.slice none 0 0)))) (hid : Obs.fresh id2 σ = true)
    (k : AOps cx ops rest (e.kill id2) (Obs.upd id (.cells ((ss.map (S.kill id2)).set off (.own id2))) ((id2, .row ee size []) :: Obs.kill id2 σ)) Q) (hfx : cx.free id2 = true := by rfl) : AOps cx ops rest e σ Q := fun a w ⟨_, _, hr⟩ => by
  obtain ⟨ρ', h⟩ := hr.adoptCell id2 ee size hm hs (Obs.fresh_spec hid) hfx
  exact k a w ⟨_, ρ', h⟩
/-- An own block of cells that is written no more: it is data now. -/
theorem R0.freezeCells {cx : Cx} {F : Nat → Prop} {ρ : Nat → Value} {e : Env} {σ : Obs} {a : Act} {w : World} (h : R0 cx F ρ e σ a w) {t id : Nat} {ds : List D} (ht : e t = .ptr id 0) (hm : (id, Ob.cells (ds.map S.d)) ∈ σ) :
    ∃ F', R0 cx F' ρ (e.put (some t) (.d (.fp ds))) (Obs.del id σ) a w := by
  have hF2 : ∀ b, (F b ∨ blk (ρ id) = some b) → b < w.heap.size := fun b hb => by
    rcases hb with hb | hb
    · exact h.lt b hb
    · exact ((h.obs.ok _ hm).blk_lt hb).2
  have keep : ∀ {x : Value} {s : S}, RepS F ρ w x s → RepS (fun b => F b ∨ blk (ρ id) = some b) ρ w x s := fun hx =>
    RepS.turn (row := none) hx h.lt (fun g hg => by simp at hg) ⟨rfl, rfl, rfl, Nat.le_refl _, fun _ _ _ => rfl⟩ (fun b hb => .inl hb)
  refine ⟨fun b => F b ∨ blk (ρ id) = some b, h.size, h.defers, hF2, fun b hb => .inl (h.base b hb), fun b hb => ?_, h.below, h.hB, fun u => ?_, ?_, h.up, fun p hp => h.kown p (Obs.mem_del hp).1, h.fixed⟩
  · rcases hb with hb | hb
    · exact h.new b hb
    · exact .inr (h.kown _ hm b hb)
  · by_cases hu : u = t
    · subst hu
      rw [Env.put_same]
      have h1 := h.env u
      rw [ht] at h1
      obtain ⟨g, ty, cs, h2, h3, h4, h5, h6, h7⟩ := h.obs.ok _ hm
      dsimp only at h2
      have hv := ptr_at h1 (g := g) (by rw [h2]; rfl)
      rw [hv]
      refine .d (.fp ⟨g, 0, none⟩ ds (fun j => cs.getD j undef) (.inr (by rw [h2]; rfl)) (fun j hj => ?_) (fun j hj => ?_) (fun j hj => ?_))
      · have hjc : j < cs.length := by simp at h6; omega
        rw [addr_add, cell_of_row w g (0 + j) cs.toArray ty (0, 0) h5]
        simp [hjc]
      · have hjc : j < cs.length := by simp at h6; omega
        have := (h7 j hjc (by simpa using hj)).1
        simpa [hjc] using this
      · have hjc : j < cs.length := by simp at h6; omega
        have h8 := (h7 j hjc (by simpa using hj)).2
        rw [List.getElem_map] at h8
        have h9 := repS_d (keep h8)
        simpa [hjc] using h9
    · rw [Env.put_other _ _ _ _ hu]
      exact keep (h.env u)
  · refine ⟨fun p hp => ?_, fun p hp q hq => h.obs.apart p (Obs.mem_del hp).1 q (Obs.mem_del hq).1, fun p hp q hq => h.obs.uniq p (Obs.mem_del hp).1 q (Obs.mem_del hq).1⟩
    obtain ⟨h1, h2⟩ := Obs.mem_del hp
    exact (h.obs.ok p h1).more h.lt (fun b hb => .inl hb) fun g hg hf => by
      rcases hf with hf | hf
      · exact (h.obs.ok p h1).nF hg hf
      · exact h.obs.apart p h1 _ hm h2 g hg hf
theorem AOps.freezeCells {cx : Cx} {ops : Array Oper} {rest : List Oper} {e : Env} {σ : Obs} {Q : Post} (t : Nat) {id : Nat} {ds : List D} (ht : e t = .ptr id 0) (hm : (id, Ob.cells (ds.map S.d)) ∈ σ) (k : AOps cx ops rest (e.put (some t) (.d (.fp ds))) (Obs.del id σ) Q) : AOps cx ops rest e σ Q :=
  fun a w ⟨_, ρ, hr⟩ => by
    obtain ⟨F', h⟩ := hr.freezeCells ht hm
    exact k a w ⟨F', ρ, h⟩
end Go.Proofs.YtagdgclfnbiahaaDoor

namespace Go.Proofs.YtagdgclfnbiahaaDoor
open Go.RowKit
set_option linter.unusedVariables false

theorem S.kill_kill (id : Nat) (s : S) : (s.kill id).kill id = s.kill id := by
  cases s with
  | d x => rfl
  | own i => cases h : Nat.beq i id <;> simp only [S.kill, h]
  | ptr i off => cases h : Nat.beq i id <;> simp only [S.kill, h]
  | clo f caps => cases h : Cap.anyP (fun i => Nat.beq i id) caps <;> simp only [S.kill, h]
theorem R0.killEnv {cx : Cx} {F : Nat → Prop} {ρ : Nat → Value} {e : Env} {σ : Obs} {a : Act} {w : World} (h : R0 cx F ρ e σ a w) (id : Nat) : R0 cx F ρ (e.kill id) σ a w :=
  ⟨h.size, h.defers, h.lt, h.base, h.new, h.below, h.hB, fun t => (h.env t).kill id (fun _ _ => rfl), h.obs, h.up, h.kown, h.fixed⟩

/-- The operation that makes the block. -/
def QF (dst id : Nat) (s0 : S) (ob : Ob) (e0 : Env) (σ : Obs) : Post := fun ex e' σ' => match ex with
  | .normal => e' = (e0.kill id).put (some dst) s0 ∧ σ' = (id, ob) :: Obs.kill id σ
  | _ => False
/-- What a region makes: the slot, the object, how the slot reads, what the object is. -/
structure Fr where
  dst : Nat
  id : Nat
  s0 : S
  ob : Ob
def frObs (Φ : List Fr) : Obs := Φ.map fun f => (f.id, f.ob)
structure FrOk (cx : Cx) (Φ : List Fr) (σ : Obs) : Prop where
  uid : ∀ f ∈ Φ, ∀ g ∈ Φ, f.id = g.id → f = g
  udst : ∀ f ∈ Φ, ∀ g ∈ Φ, f.dst = g.dst → f = g
  own : ∀ f ∈ Φ, f.s0.kill f.id = .d .any ∧ f.s0 ≠ .d .any
  other : ∀ f ∈ Φ, ∀ g ∈ Φ, g.id ≠ f.id → g.s0.kill f.id = g.s0 ∧ g.ob.kill f.id = g.ob
  fresh : ∀ f ∈ Φ, Obs.fresh f.id σ = true
  kill : ∀ f ∈ Φ, Obs.kill f.id σ = σ
  free : ∀ f ∈ Φ, cx.free f.id = true
theorem FrOk.one {cx : Cx} {σ : Obs} {f : Fr} (h1 : f.s0.kill f.id = .d .any) (h2 : f.s0 ≠ .d .any) (h3 : Obs.fresh f.id σ = true) (h4 : Obs.kill f.id σ = σ) (h5 : cx.free f.id = true) : FrOk cx [f] σ where
  uid := fun a ha b hb _ => by rw [List.mem_singleton] at ha hb; rw [ha, hb]
  udst := fun a ha b hb _ => by rw [List.mem_singleton] at ha hb; rw [ha, hb]
  own := fun a ha => by rw [List.mem_singleton] at ha; subst ha; exact ⟨h1, h2⟩
  other := fun a ha b hb hne => by rw [List.mem_singleton] at ha hb; subst ha; subst hb; exact absurd rfl hne
  fresh := fun a ha => by rw [List.mem_singleton] at ha; subst ha; exact h3
  kill := fun a ha => by rw [List.mem_singleton] at ha; subst ha; exact h4
  free := fun a ha => by rw [List.mem_singleton] at ha; subst ha; exact h5
def FreshOp (cx : Cx) (ops : Array Oper) (τ : Obs) (f : Fr) (o : Oper) (e : Env) : Prop :=
  o.dst = some f.dst ∧ ∀ (e0 : Env) (σ : Obs), (∀ p ∈ τ, p ∈ σ) → (∀ t, t ∈ o.looksAt ops → e0 t = e t) → Obs.fresh f.id σ = true → AOps cx ops [o] e0 σ (QF f.dst f.id f.s0 f.ob e0 σ)
theorem FreshOp.same {cx : Cx} {ops : Array Oper} {τ : Obs} {f : Fr} {o : Oper} {e e' : Env} (h : FreshOp cx ops τ f o e) (he : ∀ t, t ∈ o.looksAt ops → e' t = e t) : FreshOp cx ops τ f o e' :=
  ⟨h.1, fun e0 σ hτ h0 hf => h.2 e0 σ hτ (fun t ht => (h0 t ht).trans (he t ht)) hf⟩
def notDst (Φ : List Fr) (o : Oper) : Prop := ∀ f ∈ Φ, o.dst ≠ some f.dst
def XStep (cx : Cx) (ops : Array Oper) (σ : Obs) (Φ : List Fr) (o : Oper) (e : Env) (s : S) : Prop :=
  (GW ops o e true ∧ ((∃ f ∈ Φ, FreshOp cx ops σ f o e ∧ s = f.s0) ∨ (AOp cx.P cx.B ops o e σ s ∧ notDst Φ o ∧ ∀ f ∈ Φ, s.kill f.id = s ∨ ∃ t, t ∈ o.looksAt ops ∧ (e t).kill f.id ≠ e t))) ∨ (GW ops o e false ∧ s = .d (.v undef) ∧ notDst Φ o)
theorem XStep.same {cx : Cx} {ops : Array Oper} {σ : Obs} {Φ : List Fr} {o : Oper} {e e' : Env} {s : S} (h : XStep cx ops σ Φ o e s) (he : ∀ t, t ∈ o.looksAt ops → e' t = e t) : XStep cx ops σ Φ o e' s := by
  rcases h with ⟨h1, h2⟩ | ⟨h1, h2⟩
  · exact .inl ⟨h1.same he, h2.imp (fun ⟨f, hf, h, h'⟩ => ⟨f, hf, h.same he, h'⟩) fun h => ⟨h.1.same he, h.2.1, fun f hf => (h.2.2 f hf).imp (fun h => h) fun ⟨t, ht, hn⟩ => ⟨t, ht, by rw [he t ht]; exact hn⟩⟩⟩
  · exact .inr ⟨h1.same he, h2⟩
def XRun (cx : Cx) (ops : Array Oper) (σ : Obs) (Φ : List Fr) : List Oper → Env → (Env → Prop) → Prop
  | [], e, Qe => (∀ f ∈ Φ, e f.dst = f.s0) ∧ Qe e
  | o :: l, e, Qe => DstOk cx.N o ∧ ∃ s, XStep cx ops σ Φ o e s ∧ XRun cx ops σ Φ l (e.put o.dst s) Qe
def anyX (cx : Cx) (ops : Array Oper) (σ : Obs) (Φ : List Fr) (Qe : Env → Prop) : Nat → Array Bool → Env → Prop
  | 0, listed, e => Region.ready .any ops listed = [] ∧ Qe e
  | fuel + 1, listed, e => (Region.ready .any ops listed = [] → Qe e) ∧
      ∀ i ∈ Region.ready .any ops listed, ∀ o, ops[i]? = some o → ∃ s, XStep cx ops σ Φ o e s ∧ anyX cx ops σ Φ Qe fuel (listed.setIfInBounds i true) (e.put o.dst s)
theorem anyX_first {cx : Cx} {ops : Array Oper} {σ : Obs} {Φ : List Fr} {Qe : Env → Prop} {i : Nat} {oi : Oper} {s : S} (hi : ops[i]? = some oi) :
    ∀ (fuel : Nat) (listed : Array Bool) (e : Env),
      (∀ j oj, ops[j]? = some oj → j ≠ i → listed.getD j true = false → (∀ e ∈ oj.after, Region.binds .any e = true → e.on ≠ i) → oi.apart ops oj = true) →
      i ∈ Region.ready .any ops listed → XStep cx ops σ Φ oi e s → anyX cx ops σ Φ Qe fuel (listed.setIfInBounds i true) (e.put oi.dst s) → anyX cx ops σ Φ Qe (fuel + 1) listed e := by
  intro fuel
  induction fuel with
  | zero =>
    intro listed e _ hr hy H
    refine ⟨fun h => (by rw [h] at hr; cases hr), fun j hj o ho => ?_⟩
    by_cases hji : j = i
    · subst hji
      rw [hi] at ho; cases ho
      exact ⟨s, hy, H⟩
    · have := ready_mono hj hji
      rw [H.1] at this
      cases this
  | succ fuel ih =>
    intro listed e hfree hr hy H
    refine ⟨fun h => (by rw [h] at hr; cases hr), fun j hj oj hoj => ?_⟩
    by_cases hji : j = i
    · subst hji
      rw [hi] at hoj; cases hoj
      exact ⟨s, hy, H⟩
    · obtain ⟨sj, h1, h2⟩ := H.2 j (ready_mono hj hji) oj hoj
      obtain ⟨hjun, oj', hoj', hall⟩ := mem_ready.1 hj
      rw [hoj] at hoj'; cases hoj'
      have hnot : ∀ e ∈ oj.after, Region.binds .any e = true → e.on ≠ i := fun e he hb heq => by
        have h1 := hall e he hb
        have h0 := (mem_ready.1 hr).1
        rw [heq] at h1
        rcases Nat.lt_or_ge i listed.size with h' | h'
        · simp [h'] at h0 h1; rw [h0] at h1; cases h1
        · simp [Array.getElem?_eq_none h'] at h1
      obtain ⟨a1, a2, a3⟩ := Oper.apart_spec (hfree j oj hoj hji hjun hnot)
      refine ⟨sj, h1.same (fun t ht => (put_looks a1 t ht).symm), ?_⟩
      refine ih (listed.setIfInBounds j true) (e.put oj.dst sj) (fun k ok hk hki hun hno => ?_) (ready_mono hr (Ne.symm hji)) (hy.same (put_looks a3)) ?_
      · refine hfree k ok hk hki ?_ hno
        by_cases hjk : j = k
        · subst hjk; exact hjun
        · rw [getD_set_ne true hjk] at hun; exact hun
      · rw [Array.setIfInBounds_comm _ _ hji, ← Env.put_comm e oi.dst oj.dst s sj a2]
        exact h2
theorem anyX_lex {cx : Cx} {ops : Array Oper} {σ : Obs} {Φ : List Fr} {Qe : Env → Prop} : ∀ (l : List Oper) (k : Nat) (listed : Array Bool) (e : Env), (∀ j, l[j]? = ops[k + j]?) →
    Region.lexFrom .any ops l.length k listed = true → XRun cx ops σ Φ l e Qe → anyX cx ops σ Φ (fun e => (∀ f ∈ Φ, e f.dst = f.s0) ∧ Qe e) l.length listed e
  | [], _, _, _, _, hB, h => ⟨by simpa [Region.lexFrom] using hB, h⟩
  | o :: l, k, listed, e, hl, hB, h => by
    have h0 : ops[k]? = some o := by simpa using (hl 0).symm
    simp only [List.length_cons, Region.lexFrom, Bool.and_eq_true] at hB
    obtain ⟨⟨hr, hf⟩, hB'⟩ := hB
    have hl' : ∀ j, l[j]? = ops[k + 1 + j]? := fun j => by have := hl (j + 1); simpa [Nat.add_assoc, Nat.add_comm 1 j] using this
    obtain ⟨_, s, hs, hK⟩ := h
    exact anyX_first h0 l.length listed e (Region.free_spec h0 hf) (by simpa using hr) hs (anyX_lex l (k + 1) _ _ hl' hB' hK)
theorem XRun.dsts {cx : Cx} {ops : Array Oper} {σ : Obs} {Φ : List Fr} {Qe : Env → Prop} : ∀ (l : List Oper) (e : Env), XRun cx ops σ Φ l e Qe → ∀ o ∈ l, DstOk cx.N o
  | [], _, _, o, ho => by cases ho
  | x :: l, e, h, o, ho => by
    obtain ⟨h1, s, _, h2⟩ := h
    cases ho with
    | head => exact h1
    | tail _ ho => exact XRun.dsts l _ h2 o ho
def RelX (cx : Cx) (ops : Array Oper) (σ : Obs) (Φ : List Fr) (listed : Array Bool) (e : Env) (a : Act) (w : World) : Prop :=
  ∃ Δ : List Fr, (∀ g ∈ Δ, g ∈ Φ) ∧ (∀ g ∈ Δ, ∃ i o, ops[i]? = some o ∧ listed.getD i false = true ∧ o.dst = some g.dst) ∧ (∀ g ∈ Δ, e g.dst = g.s0) ∧ (∀ f ∈ Φ, ¬ f ∈ Δ → ∀ t, (e t).kill f.id = e t) ∧ R cx e (frObs Δ ++ σ) a w
theorem R.sub {cx : Cx} {e : Env} {σ σ' : Obs} {a : Act} {w : World} (h : R cx e σ a w) (hs : ∀ p ∈ σ', p ∈ σ) : R cx e σ' a w := by
  obtain ⟨F, ρ, h⟩ := h
  exact ⟨F, ρ, h.size, h.defers, h.lt, h.base, h.new, h.below, h.hB, h.env, h.obs.sub hs, h.up, fun q hq => h.kown q (hs q hq), h.fixed⟩
theorem Obs.kill_append (id : Nat) : ∀ (a b : Obs), Obs.kill id (a ++ b) = Obs.kill id a ++ Obs.kill id b
  | [], _ => rfl
  | p :: a, b => by show (p.1, p.2.kill id) :: Obs.kill id (a ++ b) = _; rw [Obs.kill_append id a b]; rfl
theorem kill_frObs {id : Nat} : ∀ {Δ : List Fr}, (∀ g ∈ Δ, g.ob.kill id = g.ob) → Obs.kill id (frObs Δ) = frObs Δ
  | [], _ => rfl
  | g :: Δ, h => by
    show (g.id, g.ob.kill id) :: Obs.kill id (frObs Δ) = _
    rw [h g List.mem_cons_self, kill_frObs fun g hg => h g (List.mem_cons_of_mem _ hg)]
    rfl
theorem fresh_append {id : Nat} {σ : Obs} : ∀ {a : Obs}, (∀ p ∈ a, p.1 ≠ id) → Obs.fresh id σ = true → Obs.fresh id (a ++ σ) = true
  | [], _, h => h
  | p :: a, h1, h => by
    show (!(Nat.beq p.1 id) && Obs.fresh id (a ++ σ)) = true
    rw [fresh_append (fun q hq => h1 q (List.mem_cons_of_mem _ hq)) h, Bool.and_true]
    have := h1 p List.mem_cons_self
    cases hb : Nat.beq p.1 id with
    | true => exact absurd (beq_true hb) this
    | false => rfl
theorem wpAny_of_X {cx : Cx} {ops : Array Oper} {σ : Obs} {Φ : List Fr} {Q : Post} (hd : ∀ o ∈ ops.toList, DstOk cx.N o) (hone : ∀ f ∈ Φ, ∀ (i j : Nat) (o o' : Oper), ops[i]? = some o → ops[j]? = some o' → o.dst = some f.dst → o'.dst = some f.dst → i = j) (ok : FrOk cx Φ σ) :
    ∀ (fuel : Nat) (listed : Array Bool) (e : Env) (a : Act) (w : World), RelX cx ops σ Φ listed e a w →
    anyX cx ops σ Φ (fun e => (∀ f ∈ Φ, e f.dst = f.s0) ∧ Q .normal e (frObs Φ ++ σ)) fuel listed e → wpAny cx.P .any ops (lift cx Q) fuel listed a w := by
  have fin : ∀ (listed : Array Bool) (e : Env) (a : Act) (w : World), RelX cx ops σ Φ listed e a w → ((∀ f ∈ Φ, e f.dst = f.s0) ∧ Q .normal e (frObs Φ ++ σ)) → lift cx Q .normal a w := by
    rintro listed e a w ⟨Δ, h1, _, h2, h3, h4⟩ ⟨h5, h6⟩
    have hall : ∀ f ∈ Φ, f ∈ Δ := fun f hf => Classical.byContradiction fun hn => by
      have h7 := h3 f hf hn f.dst
      rw [h5 f hf, (ok.own f hf).1] at h7
      exact (ok.own f hf).2 h7.symm
    refine ⟨e, _, h6, h4.sub fun p hp => ?_⟩
    rcases List.mem_append.1 hp with hp | hp
    · obtain ⟨f, hf, rfl⟩ := List.mem_map.1 hp
      exact List.mem_append.2 (.inl (List.mem_map.2 ⟨f, hall f hf, rfl⟩))
    · exact List.mem_append.2 (.inr hp)
  have pure : ∀ {e : Env} {o : Oper} {s : S} {Δ : List Fr}, (∀ g ∈ Δ, g ∈ Φ) → (∀ g ∈ Δ, e g.dst = g.s0) → (∀ f ∈ Φ, ¬ f ∈ Δ → ∀ t, (e t).kill f.id = e t) → notDst Φ o → (∀ f ∈ Φ, ¬ f ∈ Δ → s.kill f.id = s) →
      (∀ g ∈ Δ, (e.put o.dst s) g.dst = g.s0) ∧ (∀ f ∈ Φ, ¬ f ∈ Δ → ∀ t, ((e.put o.dst s) t).kill f.id = (e.put o.dst s) t) := by
    intro e o s Δ h1 h2 h3 hn hs
    cases ho : o.dst with
    | none => exact ⟨h2, h3⟩
    | some u =>
      refine ⟨fun g hg => ?_, fun f hf hfn t => ?_⟩
      · rw [Env.put_other _ _ _ _ (fun he => hn g (h1 g hg) (by rw [ho, he]))]; exact h2 g hg
      · by_cases hu : t = u
        · subst hu; rw [Env.put_same]; exact hs f hf hfn
        · rw [Env.put_other _ _ _ _ hu]; exact h3 f hf hfn t
  intro fuel
  induction fuel with
  | zero => exact fun listed e a w hr h => ⟨h.1, fin listed e a w hr h.2⟩
  | succ fuel ih =>
    intro listed e a w hr h
    refine ⟨fun h0 => fin listed e a w hr (h.1 h0), fun i hi => ?_⟩
    obtain ⟨hui, o, ho, _⟩ := mem_ready.1 hi
    obtain ⟨s, hs, hkk⟩ := h.2 i hi o ho
    have hdo : DstOk cx.N o := hd o (Array.mem_toList_iff.2 (Array.mem_of_getElem? ho))
    have hil : i < listed.size := Nat.lt_of_not_le fun hle => by simp [Array.getD_eq_getD_getElem?, Array.getElem?_eq_none hle] at hui
    obtain ⟨Δ, h1, hL, h2, h3, hR⟩ := hr
    have hL' : ∀ g ∈ Δ, ∃ j o, ops[j]? = some o ∧ (listed.setIfInBounds i true).getD j false = true ∧ o.dst = some g.dst := fun g hg => by
      obtain ⟨j, o', q1, q2, q3⟩ := hL g hg
      exact ⟨j, o', q1, getD_set_true q2, q3⟩
    have hR' := hR
    obtain ⟨F, ρ, hr⟩ := hR'
    unfold wpOp
    simp only [ho]
    rcases hs with ⟨hg, ⟨f, hf, ⟨hdst, hop⟩, rfl⟩ | ⟨hop, hne, hsk⟩⟩ | ⟨hg, rfl, hne⟩
    · rw [if_pos (hg.wanted (fun t _ => hr.env t))]
      have hfn : ¬ f ∈ Δ := fun hfd => by
        obtain ⟨j, o', q1, q2, q3⟩ := hL f hfd
        have := hone f hf i j o o' ho q1 hdst q3
        subst this
        rw [getD_tf hil false true, hui] at q2
        simp at q2
      have hgi : ∀ g ∈ Δ, g.id ≠ f.id := fun g hg he => hfn (by rw [← ok.uid g (h1 g hg) f hf he]; exact hg)
      have hek : e.kill f.id = e := funext fun t => h3 f hf hfn t
      have hok : Obs.kill f.id (frObs Δ ++ σ) = frObs Δ ++ σ := by
        rw [Obs.kill_append, ok.kill f hf, kill_frObs fun g hg => (ok.other f hf g (h1 g hg) (hgi g hg)).2]
      have hfr : Obs.fresh f.id (frObs Δ ++ σ) = true := fresh_append (fun p hp => by obtain ⟨g, hg, rfl⟩ := List.mem_map.1 hp; exact hgi g hg) (ok.fresh f hf)
      have h4 := hop e (frObs Δ ++ σ) (fun p hp => List.mem_append.2 (.inr hp)) (fun _ _ => rfl) hfr a w hR
      unfold wpList at h4
      have hw : Region.wanted o (yielded ops a.tmps) = true := hg.wanted (fun t _ => hr.env t)
      rw [if_pos hw] at h4
      rw [hdst] at hkk
      refine h4.imp (wp_to2 ?_ ?_) fun h => ⟨h.1, ?_⟩
      · rintro a' w' ⟨e', σ', ⟨rfl, rfl⟩, hr'⟩
        rw [hok, hek] at hr'
        refine ih _ _ _ _ ⟨f :: Δ, fun g hg => ?_, fun g hg => ?_, fun g hg => ?_, fun k hk hkn t => ?_, hr'⟩ hkk
        · rcases List.mem_cons.1 hg with rfl | hg
          · exact hf
          · exact h1 g hg
        · rcases List.mem_cons.1 hg with rfl | hg
          · exact ⟨i, o, ho, by simp [Array.getD_eq_getD_getElem?, hil], hdst⟩
          · exact hL' g hg
        · rcases List.mem_cons.1 hg with rfl | hg
          · rw [Env.put_same]
          · rw [Env.put_other _ _ _ _ (fun he => hgi g hg (by rw [ok.udst g (h1 g hg) f hf he]))]
            exact h2 g hg
        · have hkf : f.id ≠ k.id := fun he => hkn (by rw [← ok.uid f hf k hk he]; exact List.mem_cons_self)
          by_cases ht : t = f.dst
          · subst ht; rw [Env.put_same]; exact (ok.other k hk f hf hkf).1
          · rw [Env.put_other _ _ _ _ ht]; exact h3 k hk (fun hh => hkn (List.mem_cons_of_mem _ hh)) t
      · rintro ex a' w' hne ⟨e', σ', hq, _⟩
        cases ex <;> first | exact absurd rfl hne | exact hq.elim
      · obtain ⟨a', w', e', σ', hq, _⟩ := h.2
        exact hq.elim
    · rw [if_pos (hg.wanted (fun t _ => hr.env t))]
      refine .inl (wp_to ?_ (fun _ _ _ => False.elim) (hop F ρ w a hr.lt (fun t _ => hr.env t) (hr.obs.sub fun q hq => List.mem_append.2 (.inr hq))))
      rintro a' w' ⟨v, F', rfl, hv, hE⟩
      obtain ⟨p1, p2⟩ := pure (o := o) (s := s) h1 h2 h3 hne fun f hf hfn => by
        rcases hsk f hf with hh | ⟨t, _, hh⟩
        · exact hh
        · exact absurd (h3 f hf hfn t) hh
      exact ih _ _ _ _ ⟨Δ, h1, hL', p1, p2, F', ρ, hr.put hE hv hdo⟩ hkk
    · rw [if_neg (by rw [hg.wanted (fun t _ => hr.env t)]; simp)]
      obtain ⟨p1, p2⟩ := pure (o := o) (s := .d (.v undef)) h1 h2 h3 hne (fun _ _ _ => rfl)
      exact ih _ _ _ _ ⟨Δ, h1, hL', p1, p2, F, ρ, hr.put (Ext.refl hr.lt) repS_undef hdo⟩ hkk
section
variable {cx : Cx} {ops : Array Oper} {σ : Obs} {Φ : List Fr} {e : Env} {Qe : Env → Prop} {o : Oper} {l : List Oper}
def Holds (p : Fr → Prop) : List Fr → Prop
  | [] => True
  | f :: l => p f ∧ Holds p l
theorem Holds.all {p : Fr → Prop} : ∀ {l : List Fr}, Holds p l → ∀ f ∈ l, p f
  | [], _, f, hf => by cases hf
  | g :: l, h, f, hf => by
    cases hf with
    | head => exact h.1
    | tail _ hf => exact Holds.all h.2 f hf
theorem XRun.nil (hd : Holds (fun f => e f.dst = f.s0) Φ) (h : Qe e) : XRun cx ops σ Φ [] e Qe := ⟨hd.all, h⟩
def neDst (o : Oper) (dst : Nat) : Bool := match o.dst with | none => true | some t => !(Nat.beq t dst)
theorem neDst_spec {dst : Nat} (h : neDst o dst = true) : o.dst ≠ some dst := fun he => by unfold neDst at h; rw [he] at h; simp at h
def neAll (Φ : List Fr) (o : Oper) : Bool := Φ.all fun f => neDst o f.dst
theorem neAll_spec (h : neAll Φ o = true) : notDst Φ o := fun f hf => neDst_spec (List.all_eq_true.1 h f hf)
theorem XRun.step {s : S} {t : Nat} (hg : GW ops o e true) (ht : o.dst = some t) (hd : Nat.blt t cx.N = true) (h : AOp cx.P cx.B ops o e σ s) (k : XRun cx ops σ Φ l (e.put (some t) s) Qe) (hne : neAll Φ o = true := by rfl) (hs : Holds (fun f => s.kill f.id = s ∨ ∃ t, t ∈ o.looksAt ops ∧ (e t).kill f.id ≠ e t) Φ := by first | exact ⟨.inl rfl, trivial⟩ | exact ⟨.inl rfl, .inl rfl, trivial⟩ | exact ⟨.inr ⟨_, .head _, S.noConfusion⟩, trivial⟩ | exact ⟨.inr ⟨_, .head _, S.noConfusion⟩, .inl rfl, trivial⟩ | exact ⟨.inl rfl, .inr ⟨_, .head _, S.noConfusion⟩, trivial⟩) : XRun cx ops σ Φ (o :: l) e Qe :=
  ⟨by unfold DstOk; rw [ht]; exact hd, s, .inl ⟨hg, .inr ⟨h, neAll_spec hne, hs.all⟩⟩, by rw [ht]; exact k⟩
theorem ev_same {e0 e : Env} {x : Operand} (h : ∀ t, x = .tmp t → e0 t = e t) : e0.ev x = e.ev x := by
  cases x with
  | tmp t => exact h t rfl
  | const v => rfl
  | global g => rfl
  | func f => rfl
theorem XRun.make {t el : TypeId} {lo c : Operand} {size bytes : Nat} {z : Value} {m : Int} (f : Fr) (hf : f ∈ Φ) (n : Nat) (hg : GW ops o e true) (hgn : o.guard = none) (ht : o.dst = some f.dst) (hd : Nat.blt f.dst cx.N = true) (ho : o.op = .makeSlice t lo c) (T : ElemTy cx.P t el size bytes z) (hl : e.ev lo = .d (.v (.int .i64 m))) (hc : e.ev c = .d (.v (.int .i64 m))) (hmn : m = n) (hb : bytes * n ≤ 281474976710656) (hn : n ≤ 9223372036854775807)
    (h1 : z.cells.toList.all (·.oneCell') = true) (hob : f.ob = .row el size (List.replicate n (z.cells.toList.map D.v))) (hs : f.s0 = .own f.id) (k : XRun cx ops σ Φ l (e.put (some f.dst) f.s0) Qe) (hfx : cx.free f.id = true := by rfl) : XRun cx ops σ Φ (o :: l) e Qe :=
  ⟨by unfold DstOk; rw [ht]; exact hd, _, .inl ⟨hg, .inl ⟨f, hf, ⟨ht, fun e0 σ _ he hfr => by
    have h2 : e0.ev lo = e.ev lo := ev_same fun t ht => he t (looks_op (by rw [ho, ht]; simp [Op.operands]))
    have h3 : e0.ev c = e.ev c := ev_same fun t ht => he t (looks_op (by rw [ho, ht]; simp [Op.operands]))
    exact AOps.makeI f.id n hgn ht hd ho T (h2.trans hl) (h3.trans hc) hmn hb hn h1 hfr (.nil ⟨by rw [hs], by rw [hob]⟩) hfx⟩, rfl⟩⟩, by rw [ht]; exact k⟩
end
def Env.killAll : List Fr → Env → Env
  | [], e => e
  | f :: l, e => Env.killAll l (e.kill f.id)
theorem kill_comm (i j : Nat) (s : S) : (s.kill i).kill j = (s.kill j).kill i := by
  cases s with
  | d x => rfl
  | own k => cases h1 : Nat.beq k i <;> cases h2 : Nat.beq k j <;> simp only [S.kill, h1, h2]
  | ptr k off => cases h1 : Nat.beq k i <;> cases h2 : Nat.beq k j <;> simp only [S.kill, h1, h2]
  | clo f caps => cases h1 : Cap.anyP (fun k => Nat.beq k i) caps <;> cases h2 : Cap.anyP (fun k => Nat.beq k j) caps <;> simp only [S.kill, h1, h2]
theorem killAll_kill (id : Nat) : ∀ (Φ : List Fr) (e : Env), (∀ t, (e t).kill id = e t) → ∀ t, (Env.killAll Φ e t).kill id = Env.killAll Φ e t
  | [], _, h => h
  | f :: l, e, h => killAll_kill id l (e.kill f.id) fun t => by unfold Env.kill; rw [kill_comm, h t]
theorem killAll_all : ∀ (Φ : List Fr) (e : Env), ∀ f ∈ Φ, ∀ t, (Env.killAll Φ e t).kill f.id = Env.killAll Φ e t
  | g :: l, e, f, hf, t => by
    rcases List.mem_cons.1 hf with rfl | hf
    · exact killAll_kill f.id l (e.kill f.id) (fun t => S.kill_kill f.id (e t)) t
    · exact killAll_all l (e.kill g.id) f hf t
theorem R.killAll {cx : Cx} {σ : Obs} {a : Act} {w : World} : ∀ (Φ : List Fr) {e : Env}, R cx e σ a w → R cx (Env.killAll Φ e) σ a w
  | [], _, h => h
  | f :: l, _, ⟨F, ρ, h⟩ => R.killAll l ⟨F, ρ, h.killEnv f.id⟩
/-- A region that draws its order; some of its first k operations make own objects; those from k on wait for all before them. -/
theorem AWP.drawFresh {cx : Cx} {rid : Nat} {l : List Oper} {e : Env} {σ : Obs} {Q : Post} (k : Nat) (Φ : List Fr) (ok : FrOk cx Φ σ) (hm : cx.P.follows .mixedOrders = true) (hB : Region.lexB .any (l.take k).toArray = true) (hC : Region.chainB l.toArray k = true) (hlk : (Φ.all fun f => (List.range (l.take k).length).all fun i => (List.range (l.take k).length).all fun j => Nat.beq i j || (((l.take k)[i]?).map fun o => neDst o f.dst).getD true || (((l.take k)[j]?).map fun o => neDst o f.dst).getD true) = true)
    (h : XRun cx (l.take k).toArray σ Φ (l.take k) (Env.killAll Φ e) (fun e => AOps cx l.toArray (l.drop k) e (frObs Φ ++ σ) Q)) : AWP cx (.region rid l.toArray true) e σ Q := by
  intro a w ⟨F, ρ, hr⟩
  simp only [Region.lexB, Bool.and_eq_true] at hB
  have hch := Chain.of hC
  have hkl : k ≤ l.length := by simpa using hch.le
  have h1 := anyX_lex (l.take k) 0 (Array.replicate (l.take k).toArray.size false) (Env.killAll Φ e) (by simp) (by simpa using hB.2) h
  have hone : ∀ f ∈ Φ, ∀ (i j : Nat) (o o' : Oper), (l.take k).toArray[i]? = some o → (l.take k).toArray[j]? = some o' → o.dst = some f.dst → o'.dst = some f.dst → i = j := fun f hf i j o o' hi hj ho ho' => by
    rw [List.getElem?_toArray] at hi hj
    have h3 := List.all_eq_true.1 (List.all_eq_true.1 (List.all_eq_true.1 hlk f hf) i (List.mem_range.2 (List.getElem?_eq_some_iff.1 hi).1)) j (List.mem_range.2 (List.getElem?_eq_some_iff.1 hj).1)
    rw [hi, hj] at h3
    simp only [Option.map_some, Option.getD_some, Bool.or_eq_true] at h3
    rcases h3 with (h3 | h3) | h3
    · exact Nat.eq_of_beq_eq_true h3
    · exact absurd ho (neDst_spec h3)
    · exact absurd ho' (neDst_spec h3)
  have h2 := wpAny_of_X (cx := cx) (ops := (l.take k).toArray) (Q := fun ex e σ => match ex with | .normal => AOps cx l.toArray (l.drop k) e σ Q | _ => False) (by simpa using XRun.dsts _ _ h) hone ok _ _ (Env.killAll Φ e) a _
    ⟨[], fun g hg => (nomatch hg), fun g hg => (nomatch hg), fun g hg => (nomatch hg), fun f hf _ t => killAll_all Φ e f hf t, R.killAll Φ ⟨F, ρ, hr.drew⟩⟩ h1
  refine wp_region_any hm (wpAny_split hch (ops0 := (l.take k).toArray) (by simp; omega) (fun j hj => by simp [hj]) ?_ ?_ (l.take k).length _ _ _ _ _ (by simp; omega) (by simp) ?_ ?_ ?_ (by simp; omega) h2)
  · rintro a w ⟨e, σ, h3, h4⟩
    have := h3 a w h4
    simpa using this
  · rintro ex a w hne ⟨e, σ, h3, _⟩
    cases ex <;> first | exact absurd rfl hne | exact h3.elim
  · intro j hj d
    have h5 : j < l.length := by omega
    have h6 : j < min k l.length := by omega
    simp [Array.getD_eq_getD_getElem?, h5, h6]
  · intro j hj hj2
    have : j < l.length := by simpa using hj2
    simp [Array.getD_eq_getD_getElem?, this]
  · intro i o ho hi
    have : i < l.length := by simpa using (Array.getElem?_eq_some_iff.1 ho).1
    simp [Array.getD_eq_getD_getElem?, this] at hi
end Go.Proofs.YtagdgclfnbiahaaDoor

namespace Go.Proofs.YtagdgclfnbiahaaDoor
open Go.RowKit
set_option linter.unusedVariables false

/-- What is so stays so while what was there is kept. -/
def Stays (T : World → Prop) : Prop := ∀ w w', Kept (fun b => w.heap.size ≤ b) w w' → T w → T w'
/-- A contract that wants T of the world. -/
def ACallT (P : Program) (T : World → Prop) (f : FuncId) (ds : List D) (d : D) : Prop := Enters P f ∧
  ∀ (F : Nat → Prop) (w : World) (vs : List Value), T w → (∀ b, F b → b < w.heap.size) → RepL F w vs ds → Calls P f vs.toArray w fun e w' => ∃ v F', e = .returned v ∧ Rep F' w' v d ∧ Ext F w F' w'
theorem AOps.callT {cx : Cx} {ops : Array Oper} {o : Oper} {rest : List Oper} {e : Env} {σ : Obs} {Q : Post} {T : World → Prop} {f : FuncId} {xs : List Operand} {ts : Array TypeId} {ds : List D} {d : D} (hg : GW ops o e true) (hd : DstOk cx.N o)
    (ho : o.op = .call { callee := .value (.func f), args := xs.toArray, argTypes := ts }) (hT : T cx.w0) (hS : Stays T) (hfr : cx.fr = fun b => cx.w0.heap.size ≤ b) (ha : ArgsOk e xs ds) (h : ACallT cx.P T f ds d)
    (k : AOps cx ops rest (e.put o.dst (.d d)) σ Q) : AOps cx ops (o :: rest) e σ Q := by
  intro a w ⟨F, ρ, hr⟩
  have hw := hg.wanted (fun t _ => hr.env t)
  have hTw : T w := hS _ _ (by rw [← hfr]; exact hr.below) hT
  have h1 : RepL F w (xs.map a.eval) ds := ha.rep (ρ := ρ) fun t _ => hr.env t
  have h2 := h.2 F w _ hTw hr.lt h1
  have h3 := h.1 (xs.map a.eval).toArray w
  have hx : (execOp a.eval o).run cx.P w = .ok (.enter f (xs.map a.eval).toArray) w := by
    unfold execOp
    simp only [ho, resolve, Deferred.ofValue, Act.eval, invoke, Sem.run_bind, Sem.run_pure, Result.andThen_ok]
    simpa using h3
  unfold wpList
  rw [if_pos hw]
  refine .inl ?_
  unfold Oper.wp
  rw [hx]
  refine h2.mono fun _ w' ⟨v, F', he, hv, hE⟩ => ?_
  subst he
  exact k _ _ ⟨F', ρ, hr.put hE (.d hv) hd⟩

theorem acall_ofT {T : World → Prop} {P : Program} {f : FuncId} {fn : Func} {c : Code} {n : Nat} {ds ds' : List D} (hf : P.funcs[f]? = some fn) (hb : fn.body = some c) (hn : (fn.name == "runtime.NumGoroutine") = false) (hN : fn.ntmps = n)
    (ts : List Nat) (hr : fn.results = (ts.map ResultVar.tmp).toArray) (hle' : Nat.ble ds.length n = true) (h : ∀ B w0 F0, T w0 → AWP ⟨P, n, B, w0, F0, (fun b => w0.heap.size ≤ b), fun _ => false, fun _ => undef⟩ c (Env.args 0 ds) [] (RetQ ts ds')) : ACallT P T f ds (retOf ds') := by
  have hle : ds.length ≤ n := Nat.le_of_ble_eq_true hle'
  refine ⟨Enters.of hf hn (by rw [hb]; rfl), fun F w vs hT hF hv => ?_⟩
  refine calls_of_wp hf hb ?_
  have hR : R ⟨P, n, w.heap.size, w, F, (fun b => w.heap.size ≤ b), fun _ => false, fun _ => undef⟩ (Env.args 0 ds) [] { tmps := vs.toArray ++ Array.replicate (fn.ntmps - vs.toArray.size) undef, defers := [] } w := by
    refine ⟨F, fun _ => undef, ?_, rfl, hF, fun b hb => hb, fun b hb => .inl hb, Kept.refl _ _, Nat.le_refl _, fun t => ?_, ⟨fun p hp => by simp at hp, fun p hp => by simp at hp, fun p hp => by simp at hp⟩, fun b hb => hb, fun p hp => by simp at hp, fun i hi => by simp at hi⟩
    · simp [hN, hv.1]; omega
    · by_cases ht : t < ds.length
      · have := Env.args_get ds 0 t ht
        rw [Nat.zero_add] at this
        rw [this]
        have hvt : t < vs.length := by rw [hv.1]; exact ht
        have : (vs.toArray ++ Array.replicate (fn.ntmps - vs.toArray.size) undef).getD t undef = vs[t] := by
          rw [Array.getD_eq_getD_getElem?, Array.getElem?_append_left (by simpa using hvt)]
          simp [hvt]
        rw [this]
        exact .d (hv.2 t hvt ht)
      · have := Env.args_out ds 0 t (by omega)
        rw [Nat.zero_add] at this
        rw [this]
        exact .d (.any _)
  refine wp_mono (h _ _ _ hT _ _ hR) ?_
  rintro ex a w' ⟨e', σ', hq, F', ρ', hr'⟩
  have hres : (results fn a.tmps).run P w' = .ok (match ts.map fun t => a.tmps.getD t undef with | [x] => x | l => .tuple l.toArray) w' := by
    have key : ∀ (ts : List Nat), (List.mapM (fun r => match r with | .tmp t => pure (a.tmps.getD t undef) | .cell b t => do loadVar t (← asAddr (a.tmps.getD b undef))) (ts.map ResultVar.tmp) : Sem (List Value)).run P w' = .ok (ts.map fun t => a.tmps.getD t undef) w' := by
      intro ts
      induction ts with
      | nil => rfl
      | cons t ts ih =>
        rw [List.map_cons, List.mapM_cons, Sem.run_bind]
        simp only [Sem.run_pure, Result.andThen_ok, Sem.run_bind, ih, List.map_cons]
    unfold results
    rw [hr, Sem.run_bind]
    have h2 : (Array.mapM (fun r => match r with | ResultVar.tmp t => pure (a.tmps.getD t undef) | ResultVar.cell b t => do loadVar t (← asAddr (a.tmps.getD b undef))) (ts.map ResultVar.tmp).toArray : Sem (Array Value)).run P w' = .ok (ts.map fun t => a.tmps.getD t undef).toArray w' := by
      rw [List.mapM_toArray, Sem.run_map, key]
      rfl
    have h3 := h2
    refine (congrArg (fun r => Result.andThen r _) h3).trans ?_
    simp only [Result.andThen_ok]
    rcases ts with _ | ⟨t, _ | ⟨t2, ts⟩⟩ <;> rfl
  have hends : RetL e' σ' ts ds' → bodyPost P fn (fun e w' => ∃ v F', e = .returned v ∧ Rep F' w' v (retOf ds') ∧ Ext F w F' w') .ret a w' := by
    intro hq
    have hl := hq.rep hr'
    refine ⟨hr'.defers, _, hres, _, endF F' ρ' σ', rfl, ?_, endF_ext hr' (fun b hb => hb)⟩
    generalize (ts.map fun t => a.tmps.getD t undef) = vs' at hl
    obtain ⟨h1, h2⟩ := hl
    rcases ds' with _ | ⟨d, _ | ⟨d2, ds'⟩⟩
    · have : vs' = [] := List.eq_nil_of_length_eq_zero h1
      subst this
      exact .tup [] [] rfl (fun i h1 => absurd h1 (by simp))
    · rcases vs' with _ | ⟨x, _ | ⟨y, vs'⟩⟩ <;> simp at h1
      exact h2 0 (by simp) (by simp)
    · rcases vs' with _ | ⟨x, _ | ⟨y, vs'⟩⟩
      · simp at h1
      · simp at h1
      · exact .tup _ _ h1 h2
  cases ex with
  | ret => exact hends hq
  | normal => exact hends hq
  | exit id => exact hq.elim
  | goto l => exact hq.elim
  | panic c => exact hq.elim
  | outgrown => exact hq.elim

/-! ## Operations -/

end Go.Proofs.YtagdgclfnbiahaaDoor

namespace Go.Proofs.YtagdgclfnbiahaaDoor
open Go.RowKit
set_option linter.unusedVariables false

/-- A new own object that is told by a value. -/
theorem R0.newOb {cx : Cx} {F : Nat → Prop} {ρ : Nat → Value} {e : Env} {σ : Obs} {a : Act} {w w' : World} (hr : R0 cx F ρ e σ a w) {id dst : Nat} {ob : Ob} {v : Value} (hid : ∀ p ∈ σ, p.1 ≠ id) (hd : dst < cx.N) (hbel : Below w.heap.size w w')
    (hob : ObOk cx.B F (fun j => if j = id then v else ρ j) w' id ob) (hnew : ∀ g, blk v = some g → w.heap.size ≤ g) (hfx : cx.free id = true) :
    ∃ ρ', R0 cx F ρ' ((e.kill id).put (some dst) (.own id)) ((id, ob) :: Obs.kill id σ) (a.put (some dst) v) w' := by
  refine ⟨fun j => if j = id then v else ρ j, ?_⟩
  have hE : Ext F w F w' := Ext.of_below hr.lt hbel
  have h2 := hr.turn (ρ' := fun j => if j = id then v else ρ j) (id := id) (ob := ob) (row := none) (w' := w') (F' := F) (fun j hj => by simp [hj])
    ⟨hE.below.os, hE.below.tape, hE.below.output, hE.below.size, fun k hk _ => hE.below.block k hk⟩ hfx (fun g hg => by simp at hg) (fun b hb => hb) (fun b hb => .inl hb) hE.lt hob
    (fun g hg => by rw [if_pos rfl] at hg; exact .inr (hnew g hg)) ((id, ob) :: Obs.kill id σ) (fun p hp => by
      cases hp with
      | head => exact .inl rfl
      | tail _ hp => obtain ⟨q, hq, rfl⟩ := Obs.mem_kill hp; exact .inr ⟨q, hq, hid q hq, rfl⟩)
  exact h2.put (o := ⟨some dst, .ready 0, 0, "", #[], none⟩) (v := v) (s := .own id) (Ext.refl h2.lt) (by
      have := RepS.own (F := F) (ρ := fun j => if j = id then v else ρ j) (w := w') id
      simpa using this) (by simpa [DstOk, Nat.blt_eq] using hd)

/-- The type of bytes. -/
structure U8T (P : Program) (t : TypeId) : Prop where
  hu : P.underlying t = some (.int .u8)
def at0' (l : List UInt8) (i : Nat) : UInt8 := l.getD i 0
section
variable {cx : Cx} {ops : Array Oper} {o : Oper} {rest : List Oper} {e : Env} {σ : Obs} {Q : Post}
/-- []byte(s). -/
theorem AOps.bytesOf {s t el dst : Nat} {x : Operand} {b : ByteArray} (id : Nat) (hg : o.guard = none) (ht : o.dst = some dst) (hdn : Nat.blt dst cx.N = true) (ho : o.op = .convert s t x) (hs : cx.P.underlying s = some .string) (hd : cx.P.underlying t = some (.slice el)) (he : cx.P.underlying el = some (.int .u8))
    (hx : e.ev x = .d (.v (.string b))) (hlen : b.size ≤ 281474976710656) (hid : Obs.fresh id σ = true)
    (k : AOps cx ops rest ((e.kill id).put (some dst) (.own id)) ((id, .bts b.data.toList) :: Obs.kill id σ) Q) (hfx : cx.free id = true := by rfl) : AOps cx ops (o :: rest) e σ Q := by
  intro a w ⟨F, ρ, hr⟩
  have hdn' : dst < cx.N := by simpa [Nat.blt_eq] using hdn
  have r1 := ev_rep (e := e) (x := x) (a := a) (fun t _ => hr.env t)
  rw [hx] at r1
  have hrun := Lib.run_convert_string_bytes w s t el b hs hd he
  have hsz : b.data.toList.length = b.size := (Lib.size_eq b).symm
  have hbel : Below w.heap.size w (Lib.bytesWorld w el b) := ⟨rfl, rfl, rfl, by rw [Lib.bytesWorld_size]; omega, fun j hj => Lib.bytesWorld_at_old w el b j hj⟩
  have hC : BtsC b.data.toList (grownCap w b.size 0 el) (Lib.bytesCells w el b) ((Lib.bytesCells w el b).size, (Lib.bytesCells w el b).size + 1) := by
    refine ⟨?_, by rw [hsz]; exact grownCap_ge _ _ _ _, grownCap_le_maxLen _ _ _ _ (by unfold maxLen; omega), fun j hj => ?_⟩
    · show _ ≤ (Lib.bytesCells w el b).size
      unfold Lib.bytesCells
      rw [Array.size_append, Array.size_map, hsz]
      exact Nat.le_add_right _ _
    · unfold Lib.bytesCells
      rw [Array.getElem?_append_left (by rw [Array.size_map]; simpa using hj)]
      have hj' : j < b.data.size := by simpa using hj
      rw [Array.getElem?_map, Array.getElem?_eq_getElem hj']
      simp
  obtain ⟨ρ', h5⟩ := hr.newOb (ob := .bts b.data.toList) (v := .slice (some ⟨w.heap.size, 0, none⟩) b.size (grownCap w b.size 0 el)) (Obs.fresh_spec hid) hdn' hbel
    ⟨w.heap.size, el, _, _, _, by dsimp only; rw [if_pos rfl, hsz], hr.hB, fun hf => (by have := hr.lt _ hf; omega), Lib.bytesWorld_at_new w el b, hC⟩ (fun g hg => by simp [blk] at hg; omega) hfx
  refine wpList_plain hg fun K hK => ?_
  unfold Oper.wp execOp
  simp only [ho, repS_v r1, Sem.run_bind, hrun, Result.andThen_ok, Sem.run_pure]
  have := k _ _ ⟨F, ρ', h5⟩
  rw [← ht] at this
  exact hK _ _ this

/-- The row is data from here on. -/
theorem R0.freezeBts {F : Nat → Prop} {ρ : Nat → Value} {a : Act} {w : World} (h : R0 cx F ρ e σ a w) {t id : Nat} {l : List UInt8} (ht : e t = .own id) (hm : (id, Ob.bts l) ∈ σ) :
    ∃ F', R0 cx F' ρ (e.put (some t) (.d (.sl (l.map u8D)))) (Obs.del id σ) a w := by
  have hF2 : ∀ b, (F b ∨ blk (ρ id) = some b) → b < w.heap.size := fun b hb => by
    rcases hb with hb | hb
    · exact h.lt b hb
    · exact ((h.obs.ok _ hm).blk_lt hb).2
  refine ⟨fun b => F b ∨ blk (ρ id) = some b, h.size, h.defers, hF2, fun b hb => .inl (h.base b hb), fun b hb => ?_, h.below, h.hB, fun u => ?_, ?_, h.up, fun p hp => h.kown p (Obs.mem_del hp).1, h.fixed⟩
  · rcases hb with hb | hb
    · exact h.new b hb
    · exact .inr (h.kown _ hm b hb)
  · by_cases hu : u = t
    · subst hu
      rw [Env.put_same]
      have h1 := h.env u
      rw [ht] at h1
      generalize a.tmps.getD u undef = x at h1
      cases h1
      obtain ⟨g, ee, cap, cur, fz, hv, hB, hnF, hh, hC⟩ := h.obs.ok _ hm
      dsimp only at hv
      have hl : (l.map u8D).length = l.length := List.length_map ..
      have hr : Rep (fun b => F b ∨ blk (ρ id) = some b) w (.slice (some ⟨g, 0, none⟩) (l.map u8D).length cap) (.sl (l.map u8D)) := by
        refine .sl ⟨g, 0, none⟩ cap 1 (l.map u8D) (fun i _ => .int .u8 ((at0' l i).toNat : Int)) (by rw [hl]; exact hC.hcap) hC.hmax (fun _ => .inr (by rw [hv]; rfl)) (fun i hi => by simp [u8D]) (fun i j hi hj => ?_) (fun _ _ _ _ => rfl) (fun i hi j hj => ?_)
        · rw [hl] at hi
          obtain rfl : j = 0 := by omega
          rw [addr_add, Nat.mul_one, Nat.add_zero, Nat.zero_add, cell_of_row w g i cur ee fz hh, hC.hcur i hi]
          simp [at0', List.getD_eq_getElem?_getD, List.getElem?_eq_getElem hi]
        · rw [hl] at hi
          simp only [List.getElem_map] at hj ⊢
          unfold u8D at hj ⊢
          obtain rfl : j = 0 := by simpa using hj
          simp only [List.getElem_cons_zero]
          rw [show at0' l i = l[i] by simp [at0', List.getD_eq_getElem?_getD, List.getElem?_eq_getElem hi]]
          exact .v _
      rw [hl, ← hv] at hr
      exact .d hr
    · rw [Env.put_other _ _ _ _ hu]
      exact RepS.turn (row := none) (h.env u) h.lt (fun g hg => by simp at hg) ⟨rfl, rfl, rfl, Nat.le_refl _, fun _ _ _ => rfl⟩ (fun b hb => .inl hb)
  · refine ⟨fun p hp => ?_, fun p hp q hq => h.obs.apart p (Obs.mem_del hp).1 q (Obs.mem_del hq).1, fun p hp q hq => h.obs.uniq p (Obs.mem_del hp).1 q (Obs.mem_del hq).1⟩
    obtain ⟨h1, h2⟩ := Obs.mem_del hp
    have h3 := h.obs.ok p h1
    have hne : ∀ g, blk (ρ p.1) = some g → blk (ρ id) ≠ some g := fun g hg => h.obs.apart p h1 _ hm h2 g hg
    exact h3.more h.lt (fun b hb => .inl hb) (fun g hg hf => by
      rcases hf with hf | hf
      · exact h3.nF hg hf
      · exact hne g hg hf)
theorem AOps.freezeBts (t : Nat) {id : Nat} {l : List UInt8} (ht : e t = .own id) (hm : (id, Ob.bts l) ∈ σ) (k : AOps cx ops rest (e.put (some t) (.d (.sl (l.map u8D)))) (Obs.del id σ) Q) : AOps cx ops rest e σ Q :=
  fun a w ⟨_, ρ, hr⟩ => by
    obtain ⟨F', h⟩ := hr.freezeBts ht hm
    exact k a w ⟨F', ρ, h⟩
end

section
variable {P : Program} {B : Nat} {ops : Array Oper} {o : Oper} {e : Env} {σ : Obs}
end

section
variable {P : Program} {B : Nat} {ops : Array Oper} {o : Oper} {e : Env} {σ : Obs}
end
end Go.Proofs.YtagdgclfnbiahaaDoor

namespace Go.Proofs.YtagdgclfnbiahaaDoor
open Go.RowKit
set_option linter.unusedVariables false

/-- f, called with what reads as ds, returns a new row whose elements read as els, and that nobody else has. -/
def OCall (P : Program) (f : FuncId) (ds : List D) (ee size : Nat) (els : List (List D)) : Prop := Enters P f ∧
  ∀ (F : Nat → Prop) (w : World) (vs : List Value), (∀ b, F b → b < w.heap.size) → RepL F w vs ds →
    Calls P f vs.toArray w fun r w' => ∃ v F', r = .returned v ∧ Ext F w F' w' ∧ ObOk w.heap.size F' (fun _ => v) w' 0 (.row ee size els)

theorem obOk_base {B B' : Nat} {F : Nat → Prop} {ρ ρ' : Nat → Value} {w : World} {id id' ee size : Nat} {els : List (List D)} (h : ObOk B F ρ w id (.row ee size els)) (hB : B' ≤ B) (he : ρ id = ρ' id') : ObOk B' F ρ' w id' (.row ee size els) := by
  obtain ⟨xs, h1, h2, h3, h4⟩ := h
  rw [he] at h1 h4
  refine ⟨xs, ⟨h1.1, ?_⟩, h2, h3, h4⟩
  rcases h1.2 with h5 | ⟨g, cap, cur, h5, h6, h7⟩
  · exact .inl h5
  · exact .inr ⟨g, cap, cur, h5, Nat.le_trans hB h6, h7⟩

/-- A new own object, where more is data now. -/
theorem R0.newObF {cx : Cx} {F F' : Nat → Prop} {ρ : Nat → Value} {e : Env} {σ : Obs} {a : Act} {w w' : World} (hr : R0 cx F ρ e σ a w) {id dst : Nat} {ob : Ob} {v : Value} (hid : ∀ p ∈ σ, p.1 ≠ id) (hd : dst < cx.N) (hE : Ext F w F' w')
    (hob : ObOk cx.B F' (fun j => if j = id then v else ρ j) w' id ob) (hnew : ∀ g, blk v = some g → w.heap.size ≤ g) (hfx : cx.free id = true) :
    ∃ ρ', R0 cx F' ρ' ((e.kill id).put (some dst) (.own id)) ((id, ob) :: Obs.kill id σ) (a.put (some dst) v) w' := by
  refine ⟨fun j => if j = id then v else ρ j, ?_⟩
  have h2 := hr.turn (ρ' := fun j => if j = id then v else ρ j) (id := id) (ob := ob) (row := none) (w' := w') (F' := F') (fun j hj => by simp [hj])
    ⟨hE.below.os, hE.below.tape, hE.below.output, hE.below.size, fun k hk _ => hE.below.block k hk⟩ hfx (fun g hg => by simp at hg) hE.up hE.new hE.lt hob
    (fun g hg => by rw [if_pos rfl] at hg; exact .inr (hnew g hg)) ((id, ob) :: Obs.kill id σ) (fun p hp => by
      cases hp with
      | head => exact .inl rfl
      | tail _ hp => obtain ⟨q, hq, rfl⟩ := Obs.mem_kill hp; exact .inr ⟨q, hq, hid q hq, rfl⟩)
  exact h2.put (o := ⟨some dst, .ready 0, 0, "", #[], none⟩) (v := v) (s := .own id) (Ext.refl h2.lt) (by
      have := RepS.own (F := F') (ρ := fun j => if j = id then v else ρ j) (w := w') id
      simpa using this) (by simpa [DstOk, Nat.blt_eq] using hd)

section
variable {cx : Cx} {ops : Array Oper} {o : Oper} {rest : List Oper} {e : Env} {σ : Obs} {Q : Post}
theorem AOps.callO {f : FuncId} {xs : List Operand} {ts : Array TypeId} {ds : List D} {ee size dst : Nat} {els : List (List D)} (id : Nat) (hg : o.guard = none) (ht : o.dst = some dst) (hdn : Nat.blt dst cx.N = true)
    (ho : o.op = .call { callee := .value (.func f), args := xs.toArray, argTypes := ts }) (ha : ArgsOk e xs ds) (h : OCall cx.P f ds ee size els) (hid : Obs.fresh id σ = true)
    (k : AOps cx ops rest ((e.kill id).put (some dst) (.own id)) ((id, .row ee size els) :: Obs.kill id σ) Q) (hfx : cx.free id = true := by rfl) : AOps cx ops (o :: rest) e σ Q := by
  intro a w ⟨F, ρ, hr⟩
  have hdn' : dst < cx.N := by simpa [Nat.blt_eq] using hdn
  have h4 := h.2 F w (xs.map a.eval) hr.lt (repL_ops ha (fun x _ => ev_rep fun t _ => hr.env t))
  have h5 := h.1 (xs.map a.eval).toArray w
  have hx : (execOp a.eval o).run cx.P w = .ok (.enter f (xs.map a.eval).toArray) w := by
    unfold execOp
    simp only [ho, resolve, Deferred.ofValue, Act.eval, invoke, Sem.run_bind, Sem.run_pure, Result.andThen_ok]
    simpa using h5
  refine wpList_plain hg fun K hK => ?_
  unfold Oper.wp
  rw [hx]
  refine h4.mono fun _ w' ⟨v, F', he, hE, hob⟩ => ?_
  subst he
  obtain ⟨ρ', h6⟩ := hr.newObF (ob := .row ee size els) (v := v) (Obs.fresh_spec hid) hdn' hE (obOk_base hob hr.hB (by simp)) (fun g hg => (hob.blk_lt hg).1) hfx
  have := k _ _ ⟨F', ρ', h6⟩
  rw [← ht] at this
  exact hK _ _ this
/-- []T{}: an own row of no elements. -/
theorem AOps.build0 {t el size bytes dst : Nat} {z : Value} (id : Nat) (hg : o.guard = none) (ht : o.dst = some dst) (hdn : Nat.blt dst cx.N = true) (ho : o.op = .buildSlice t 0 #[]) (T : ElemTy cx.P t el size bytes z) (hid : Obs.fresh id σ = true)
    (k : AOps cx ops rest ((e.kill id).put (some dst) (.own id)) ((id, .row el size []) :: Obs.kill id σ) Q) (hfx : cx.free id = true := by rfl) : AOps cx ops (o :: rest) e σ Q := by
  intro a w ⟨F, ρ, hr⟩
  have hdn' : dst < cx.N := by simpa [Nat.blt_eq] using hdn
  have hrun : (execOp a.eval o).run cx.P w = .ok (.value (.slice (some ⟨w.heap.size, 0, none⟩) 0 0)) (w.alloc (.cells #[] el)) := by
    unfold execOp
    simp only [ho, Instr.buildSlice, Sem.run_bind, run_underlying T.ht, Result.andThen_ok, T.sizeOf, Nat.zero_mul]
    rw [if_neg (show ¬ (0 > 2 ^ 24) by decide), if_pos trivial]
    simp only [Sem.run_bind, Sem.run_pure, Result.andThen_ok]
    have hfl : Instr.fill (fun i => some (i * size, size)) (Array.map (fun x => (#[] : Array Value)[x % (#[] : Array Value).size]!) (Array.range 0)) (Array.map (fun (x : Nat × Operand) => (x.fst, a.eval x.snd)) #[]).toList = some #[] := by simp [Instr.fill]
    rw [hfl]
    rfl
  have hrow : (w.alloc (.cells #[] el)).ownsRow cx.B el size (.slice (some ⟨w.heap.size, 0, none⟩) 0 0) 0 [] :=
    ⟨by simp, .inr ⟨w.heap.size, 0, #[], rfl, hr.hB, heap_alloc_new w _, Nat.zero_le _, by unfold maxLen; omega, by simp, by simp⟩⟩
  obtain ⟨ρ', h5⟩ := hr.newRow (v := .slice (some ⟨w.heap.size, 0, none⟩) 0 0) (els := []) (Obs.fresh_spec hid) hdn' ((Below.refl _ _).alloc (Nat.le_refl _) (.cells #[] el))
    ⟨fun _ _ => undef, by dsimp only; rw [if_pos rfl]; exact hrow, fun i hi => by simp at hi, fun i hi => by simp at hi, fun g hg hf => by dsimp only at hg; rw [if_pos rfl] at hg; simp [blk] at hg; have := hr.lt g hf; omega⟩
    (fun g hg => by simp [blk] at hg; omega) hfx
  refine wpList_plain hg fun K hK => ?_
  unfold Oper.wp
  rw [hrun]
  have := k _ _ ⟨F, ρ', h5⟩
  rw [← ht] at this
  exact hK _ _ this

/-- A slice of no elements: nil, or not. -/
theorem AWP.nilOr {cd : Code} (t : Nat) (ht : e t = .d (.sl [])) (h1 : AWP cx cd (e.put (some t) (.d (.v (.slice none 0 0)))) σ Q) (h2 : ∀ ad cap, cap ≤ 9223372036854775807 → AWP cx cd (e.put (some t) (.d (.v (.slice (some ad) 0 cap)))) σ Q) : AWP cx cd e σ Q := fun a w ⟨F, ρ, hr⟩ => by
  have h3 := hr.env t
  rw [ht] at h3
  have h4 := repS_d h3
  have key : ∀ {v : Value}, a.tmps.getD t undef = v → R cx (e.put (some t) (.d (.v v))) σ a w := fun {v} hv => ⟨F, ρ, hr.size, hr.defers, hr.lt, hr.base, hr.new, hr.below, hr.hB, fun u => by
    by_cases hu : u = t
    · subst hu
      rw [Env.put_same, hv]
      exact .d (.v _)
    · rw [Env.put_other _ _ _ _ hu]
      exact hr.env u, hr.obs, hr.up, hr.kown, hr.fixed⟩
  rcases rep_sl_sl h4 with ⟨h5, _⟩ | ⟨ad, cap, size, vs, h5, hc, hm, _⟩
  · exact h1 a w (key h5)
  · exact h2 ad cap hm a w (key (by rw [h5]; rfl))
end

theorem Le.empty {ad : Addr} {cap : Nat} (h : cap ≤ 9223372036854775807) : Le (.v (.slice (some ad) 0 cap)) (.sl []) := fun F w x hx => by
  rw [rep_v hx]
  exact .sl ad cap 0 [] (fun _ _ => undef) (Nat.zero_le _) h (fun h => absurd h (by simp)) (fun i hi => by simp at hi) (fun i j hi => by simp at hi) (fun i j hi => by simp at hi) (fun i hi => by simp at hi)
theorem AOps.le {cx : Cx} {ops : Array Oper} {rest : List Oper} {e : Env} {σ : Obs} {Q : Post} (t : Nat) {s' : S} {s : S} (ht : e t = s) (h : SLe s s') (k : AOps cx ops rest (e.put (some t) s') σ Q) : AOps cx ops rest e σ Q := fun a w ⟨F, ρ, hr⟩ =>
  k a w ⟨F, ρ, hr.size, hr.defers, hr.lt, hr.base, hr.new, hr.below, hr.hB, fun u => by
    by_cases hu : u = t
    · subst hu
      rw [Env.put_same]
      have := hr.env u
      rw [ht] at this
      exact h F ρ w _ this
    · rw [Env.put_other _ _ _ _ hu]
      exact hr.env u, hr.obs, hr.up, hr.kown, hr.fixed⟩

section
variable {P : Program} {B : Nat} {ops : Array Oper} {o : Oper} {e : Env} {σ : Obs}
theorem eqGuard_sl (op : BinOp) (t : TypeId) (x y : Operand) (a b : Option Addr) (n m c d : Nat) (w : World) : (eqGuard op t x y (.slice a n c) (.slice b m d)).run P w = .ok () w := by
  unfold eqGuard; cases op <;> rfl
theorem run_slice_eq_nil {t el : TypeId} (w : World) (a : Option Addr) (n c : Nat) (ht : P.underlying t = some (.slice el)) : (binOp .eql t (.slice a n c) (.slice none 0 0)).run P w = .ok (.bool a.isNone) w := by
  unfold binOp
  simp only [Sem.run_bind, run_equal_slice_nil w t el a n c ht, Result.andThen_ok]
  rfl
/-- x == nil. -/
theorem AOp.eqNilV {t ty el : TypeId} {x y : Operand} {a : Option Addr} {n c : Nat} (ho : o.op = .binOp .eql t x y ty) (ht : P.underlying t = some (.slice el)) (hx : e.ev x = .d (.v (.slice a n c))) (hy : e.ev y = .d (.v (.slice none 0 0))) :
    AOp P B ops o e σ (.d (.v (.bool a.isNone))) := .bin ho hx hy fun w => by
  rw [Sem.run_bind, eqGuard_sl]
  exact run_slice_eq_nil w a n c ht
theorem AOp.eqNilS {t ty el : TypeId} {x y : Operand} {els : List (List D)} (ho : o.op = .binOp .eql t x y ty) (ht : P.underlying t = some (.slice el)) (hx : e.ev x = .d (.sl els)) (hy : e.ev y = .d (.v (.slice none 0 0))) (hne : els ≠ []) :
    AOp P B ops o e σ (.d (.v (.bool false))) := .value fun F ρ w a hF hr _ => by
  have h1 := hr x (by rw [ho]; simp [Op.operands])
  have h2 := hr y (by rw [ho]; simp [Op.operands])
  rw [hx] at h1
  rw [hy] at h2
  refine ⟨.bool false, F, w, ?_, .d (.v _), Ext.refl hF⟩
  rcases rep_sl_sl (repS_d h1) with ⟨_, h5⟩ | ⟨ad, cap, size, vs, h5, _⟩
  · exact absurd h5 hne
  · unfold execOp
    simp only [ho, h5, repS_v h2]
    have h3 : (do eqGuard .eql t x y (.slice (some ad) els.length cap) (.slice none 0 0); binOp .eql t (.slice (some ad) els.length cap) (.slice none 0 0) : Sem Value).run P w = .ok (.bool false) w := by
      rw [Sem.run_bind, eqGuard_sl]
      exact run_slice_eq_nil w _ _ _ ht
    rw [Sem.run_bind, h3]
    rfl
end

/-! ## Contracts -/
def RetO (t ee size : Nat) (els : List (List D)) : Post := fun ex e σ => match ex with
  | .ret => ∃ id, e t = .own id ∧ (id, Ob.row ee size els) ∈ σ
  | .normal => ∃ id, e t = .own id ∧ (id, Ob.row ee size els) ∈ σ
  | _ => False
theorem ocall_of {P : Program} {f : FuncId} {fn : Func} {c : Code} {n ee size : Nat} {ds : List D} {els : List (List D)} (hf : P.funcs[f]? = some fn) (hb : fn.body = some c) (hn : (fn.name == "runtime.NumGoroutine") = false) (hN : fn.ntmps = n)
    (t : Nat) (hr : fn.results = #[.tmp t]) (hle' : Nat.ble ds.length n = true) (h : ∀ B w0 F0 fr, AWP ⟨P, n, B, w0, F0, fr, fun _ => false, fun _ => undef⟩ c (Env.args 0 ds) [] (RetO t ee size els)) : OCall P f ds ee size els := by
  have hle : ds.length ≤ n := Nat.le_of_ble_eq_true hle'
  refine ⟨Enters.of hf hn (by rw [hb]; rfl), fun F w vs hF hv => ?_⟩
  refine calls_of_wp hf hb ?_
  have hR : R ⟨P, n, w.heap.size, w, F, (fun b => w.heap.size ≤ b), fun _ => false, fun _ => undef⟩ (Env.args 0 ds) [] { tmps := vs.toArray ++ Array.replicate (fn.ntmps - vs.toArray.size) undef, defers := [] } w := by
    refine ⟨F, fun _ => undef, ?_, rfl, hF, fun b hb => hb, fun b hb => .inl hb, Kept.refl _ _, Nat.le_refl _, fun t => ?_, ⟨fun p hp => by simp at hp, fun p hp => by simp at hp, fun p hp => by simp at hp⟩, fun b hb => hb, fun p hp => by simp at hp, fun i hi => by simp at hi⟩
    · simp [hN, hv.1]; omega
    · by_cases ht : t < ds.length
      · have := Env.args_get ds 0 t ht
        rw [Nat.zero_add] at this
        rw [this]
        have hvt : t < vs.length := by rw [hv.1]; exact ht
        have : (vs.toArray ++ Array.replicate (fn.ntmps - vs.toArray.size) undef).getD t undef = vs[t] := by
          rw [Array.getD_eq_getD_getElem?, Array.getElem?_append_left (by simpa using hvt)]
          simp [hvt]
        rw [this]
        exact .d (hv.2 t hvt ht)
      · have := Env.args_out ds 0 t (by omega)
        rw [Nat.zero_add] at this
        rw [this]
        exact .d (.any _)
  refine wp_mono (h _ _ _ _ _ _ hR) ?_
  rintro ex a w' ⟨e', σ', hq, F', ρ', hr'⟩
  have hres : (results fn a.tmps).run P w' = .ok (a.tmps.getD t undef) w' := by
    have key : ∀ (ts : List Nat), (List.mapM (fun r => match r with | .tmp t => pure (a.tmps.getD t undef) | .cell b t => do loadVar t (← asAddr (a.tmps.getD b undef))) (ts.map ResultVar.tmp) : Sem (List Value)).run P w' = .ok (ts.map fun t => a.tmps.getD t undef) w' := by
      intro ts
      induction ts with
      | nil => rfl
      | cons t ts ih =>
        rw [List.map_cons, List.mapM_cons, Sem.run_bind]
        simp only [Sem.run_pure, Result.andThen_ok, Sem.run_bind, ih, List.map_cons]
    unfold results
    rw [hr, Sem.run_bind]
    have h2 : (Array.mapM (fun r => match r with | ResultVar.tmp t => pure (a.tmps.getD t undef) | ResultVar.cell b t => do loadVar t (← asAddr (a.tmps.getD b undef))) (([t] : List Nat).map ResultVar.tmp).toArray : Sem (Array Value)).run P w' = .ok (([t] : List Nat).map fun t => a.tmps.getD t undef).toArray w' := by
      rw [List.mapM_toArray, Sem.run_map, key]
      rfl
    refine (congrArg (fun r => Result.andThen r _) h2).trans ?_
    simp only [Result.andThen_ok]
    rfl
  have hends : (∃ id, e' t = .own id ∧ (id, Ob.row ee size els) ∈ σ') → bodyPost P fn (fun r w' => ∃ v F', r = .returned v ∧ Ext F w F' w' ∧ ObOk w.heap.size F' (fun _ => v) w' 0 (.row ee size els)) .ret a w' := by
    rintro ⟨id, h1, h2⟩
    have h3 := hr'.env t
    rw [h1] at h3
    have h4 : a.tmps.getD t undef = ρ' id := by generalize a.tmps.getD t undef = v at h3; cases h3; rfl
    refine ⟨hr'.defers, _, hres, _, F', rfl, ⟨hr'.base, fun b hb => (hr'.new b hb).imp (fun x => x) fun x => x, hr'.lt, ⟨hr'.below.os, hr'.below.tape, hr'.below.output, hr'.below.size, fun k hk => hr'.below.block k hk (fun hf => by have h5 : w.heap.size ≤ k := hf; omega)⟩⟩, obOk_base (hr'.obs.ok _ h2) (Nat.le_refl _) h4.symm⟩
  cases ex with
  | ret => exact hends hq
  | normal => exact hends hq
  | exit id => exact hq.elim
  | goto l => exact hq.elim
  | panic c => exact hq.elim
  | outgrown => exact hq.elim
theorem acall_ofRT {T : World → Prop} {P : Program} {f : FuncId} {fn : Func} {c : Code} {n : Nat} {ds ds' : List D} (hf : P.funcs[f]? = some fn) (hb : fn.body = some c) (hn : (fn.name == "runtime.NumGoroutine") = false) (hN : fn.ntmps = n)
    (rs : List ResultVar) (hr : fn.results = rs.toArray) (hle' : Nat.ble ds.length n = true) (h : ∀ B w0 F0, T w0 → AWP ⟨P, n, B, w0, F0, (fun b => w0.heap.size ≤ b), fun _ => false, fun _ => undef⟩ c (Env.args 0 ds) [] (RetQR P rs ds')) : ACallT P T f ds (retOf ds') := by
  have hle : ds.length ≤ n := Nat.le_of_ble_eq_true hle'
  refine ⟨Enters.of hf hn (by rw [hb]; rfl), fun F w vs hT hF hv => ?_⟩
  refine calls_of_wp hf hb ?_
  have hR : R ⟨P, n, w.heap.size, w, F, (fun b => w.heap.size ≤ b), fun _ => false, fun _ => undef⟩ (Env.args 0 ds) [] { tmps := vs.toArray ++ Array.replicate (fn.ntmps - vs.toArray.size) undef, defers := [] } w := by
    refine ⟨F, fun _ => undef, ?_, rfl, hF, fun b hb => hb, fun b hb => .inl hb, Kept.refl _ _, Nat.le_refl _, fun t => ?_, ⟨fun p hp => by simp at hp, fun p hp => by simp at hp, fun p hp => by simp at hp⟩, fun b hb => hb, fun p hp => by simp at hp, fun i hi => by simp at hi⟩
    · simp [hN, hv.1]; omega
    · by_cases ht : t < ds.length
      · have := Env.args_get ds 0 t ht
        rw [Nat.zero_add] at this
        rw [this]
        have hvt : t < vs.length := by rw [hv.1]; exact ht
        have : (vs.toArray ++ Array.replicate (fn.ntmps - vs.toArray.size) undef).getD t undef = vs[t] := by
          rw [Array.getD_eq_getD_getElem?, Array.getElem?_append_left (by simpa using hvt)]
          simp [hvt]
        rw [this]
        exact .d (hv.2 t hvt ht)
      · have := Env.args_out ds 0 t (by omega)
        rw [Nat.zero_add] at this
        rw [this]
        exact .d (.any _)
  refine wp_mono (h _ _ _ hT _ _ hR) ?_
  rintro ex a w' ⟨e', σ', hq, F', ρ', hr'⟩
  have hends : RetRs P e' σ' rs ds' → bodyPost P fn (fun e w' => ∃ v F', e = .returned v ∧ Rep F' w' v (retOf ds') ∧ Ext F w F' w') .ret a w' := by
    intro hq
    obtain ⟨vs', hrun, hl⟩ := RetRs.rep hr' hq
    have hres : (results fn a.tmps).run P w' = .ok (match vs' with | [x] => x | l => .tuple l.toArray) w' := by
      unfold results
      rw [hr, Sem.run_bind]
      have h2 : (Array.mapM (fun r => match r with | ResultVar.tmp t => pure (a.tmps.getD t undef) | ResultVar.cell b t => do loadVar t (← asAddr (a.tmps.getD b undef))) rs.toArray : Sem (Array Value)).run P w' = .ok vs'.toArray w' := by
        rw [List.mapM_toArray, Sem.run_map]
        have h4 : (List.mapM (fun r => match r with | ResultVar.tmp t => pure (a.tmps.getD t undef) | ResultVar.cell b t => do loadVar t (← asAddr (a.tmps.getD b undef))) rs : Sem (List Value)).run P w' = .ok vs' w' := hrun
        rw [h4]
        rfl
      refine (congrArg (fun r => Result.andThen r _) h2).trans ?_
      simp only [Result.andThen_ok]
      rcases vs' with _ | ⟨t, _ | ⟨t2, ts⟩⟩ <;> rfl
    refine ⟨hr'.defers, _, hres, _, endF F' ρ' σ', rfl, ?_, endF_ext hr' (fun b hb => hb)⟩
    obtain ⟨h1, h2⟩ := hl
    rcases ds' with _ | ⟨d, _ | ⟨d2, ds'⟩⟩
    · have : vs' = [] := List.eq_nil_of_length_eq_zero h1
      subst this
      exact .tup [] [] rfl (fun i h1 => absurd h1 (by simp))
    · rcases vs' with _ | ⟨x, _ | ⟨y, vs'⟩⟩ <;> simp at h1
      exact h2 0 (by simp) (by simp)
    · rcases vs' with _ | ⟨x, _ | ⟨y, vs'⟩⟩
      · simp at h1
      · simp at h1
      · exact .tup _ _ h1 h2
  cases ex with
  | ret => exact hends hq
  | normal => exact hends hq
  | exit id => exact hq.elim
  | goto l => exact hq.elim
  | panic c => exact hq.elim
  | outgrown => exact hq.elim

end Go.Proofs.YtagdgclfnbiahaaDoor
