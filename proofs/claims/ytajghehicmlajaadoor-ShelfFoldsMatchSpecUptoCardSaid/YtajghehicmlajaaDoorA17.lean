/- Abstract values: the steps of a drawn region that writes. No statement of the seat. -/
import Derived.Test.YtajghehicmlajaaDoorA16
namespace Go.Proofs.YtajghehicmlajaaDoor
open Go.RowKit
set_option linter.unusedVariables false
section
variable {cx : Cx} {ops : Array Oper} {o : Oper} {rest : List Oper} {e : Env} {σ : Obs} {sl ef : Nat → Bool} {n : Nat} {l : List Oper} {Q : Env → Obs → Prop}
theorem GRun.nil (h : Q e σ) : GRun cx ops sl ef n [] e σ Q := h
/-- It reads no object. -/
theorem GRun.step {s : S} {t : Nat} (hg : GW ops o e true) (ht : o.dst = some t) (hd : Nat.blt t cx.N = true) (h : ∀ τ, AOp cx.P cx.B ops o e τ s) (k : GRun cx ops sl ef (n + 1) l (e.put (some t) s) σ Q) : GRun cx ops sl ef n (o :: l) e σ Q :=
  ⟨by unfold DstOk; rw [ht]; exact hd, _, _, .inl ⟨hg, s, .inr h, rfl, rfl⟩, by rw [ht]; exact k⟩
theorem GRun.cons {s : S} (hg : GW ops o e true) (ht : o.dst = none) (h : ∀ τ, AOp cx.P cx.B ops o e τ s) (k : GRun cx ops sl ef (n + 1) l e σ Q) : GRun cx ops sl ef n (o :: l) e σ Q :=
  ⟨by unfold DstOk; rw [ht], _, _, .inl ⟨hg, s, .inr h, rfl, rfl⟩, by rw [ht]; exact k⟩
/-- It reads objects. -/
theorem GRun.stepS {s : S} {t : Nat} (hs : sl n = true) (hg : GW ops o e true) (ht : o.dst = some t) (hd : Nat.blt t cx.N = true) (h : AOp cx.P cx.B ops o e σ s) (k : GRun cx ops sl ef (n + 1) l (e.put (some t) s) σ Q) : GRun cx ops sl ef n (o :: l) e σ Q :=
  ⟨by unfold DstOk; rw [ht]; exact hd, _, _, .inl ⟨hg, s, .inl ⟨hs, h⟩, rfl, rfl⟩, by rw [ht]; exact k⟩
theorem GRun.pass {t : Nat} (hg : GW ops o e false) (ht : o.dst = some t) (hd : Nat.blt t cx.N = true) (k : GRun cx ops sl ef (n + 1) l (e.put (some t) (.d (.v undef))) σ Q) : GRun cx ops sl ef n (o :: l) e σ Q :=
  ⟨by unfold DstOk; rw [ht]; exact hd, _, _, .inr (.inl ⟨hg, rfl, rfl⟩), by rw [ht]; exact k⟩
theorem GRun.split (t : Nat) {b : Bool} (ht : e t = .d (.v (.bool b))) (h1 : b = true → GRun cx ops sl ef n l (e.put (some t) (.d (.v (.bool true)))) σ Q) (h0 : b = false → GRun cx ops sl ef n l (e.put (some t) (.d (.v (.bool false)))) σ Q) : GRun cx ops sl ef n l e σ Q := by
  cases b with
  | true => have := h1 rfl; rwa [Env.put_id ht] at this
  | false => have := h0 rfl; rwa [Env.put_id ht] at this
/-- It writes. -/
theorem GRun.eff {σ' : Obs} (hf : ef n = true) (hg : GW ops o e true) (ht : o.dst = none) (h : EOp cx ops o e σ σ') (k : GRun cx ops sl ef (n + 1) l e σ' Q) : GRun cx ops sl ef n (o :: l) e σ Q :=
  ⟨by unfold DstOk; rw [ht], _, _, .inr (.inr ⟨hg, hf, ht, h, rfl⟩), k⟩
end
section
variable {cx : Cx} {ops : Array Oper} {o : Oper} {e : Env} {σ : Obs}
/-- b[k] = v in such a region. -/
theorem EOp.storeRow {t id off ee size len : Nat} {x y : Operand} {d : D} {els : List (List D)} {ds : List D} (ht : o.dst = none) (ho : o.op = .store t x y) (hs : ∀ w, (sizeOf t).run cx.P w = .ok len w) (hx : e.ev x = .ptr id off) (hm : (id, Ob.row ee size els) ∈ σ)
    (hy : e.ev y = .d d) (h1 : d.one = true) (hl : d.parts.length = len) (k j : Nat) (hoff : off = k * size + j) (hd : els[k]? = some ds) (hj : j + len ≤ size) :
    EOp cx ops o e σ (Obs.upd id (.row ee size (els.set k (ds.take j ++ d.parts ++ ds.drop (j + len)))) σ) := by
  intro F ρ a w e0 hr ha
  have hop : ∀ y ∈ o.op.operands.toList, RepS F ρ w (a.eval y) (e.ev y) := fun y hy => ev_rep fun t ht => ha t (looks_op (by rw [← ht]; exact hy))
  have r1 := hop x (by rw [ho]; simp [Op.operands])
  have r2 := hop y (by rw [ho]; simp [Op.operands])
  rw [hx] at r1
  rw [hy] at r2
  obtain ⟨h3, h4⟩ := parts_rep (repS_d r2) h1
  have hlt : k < els.length := (List.getElem?_eq_some_iff.1 hd).1
  have hde : els[k] = ds := (List.getElem?_eq_some_iff.1 hd).2
  obtain ⟨xs, hown, hlen, hrep, hnF⟩ := hr.obs.ok _ hm
  dsimp only at hown hnF
  have hown' : w.ownsRow cx.B ee size (ρ id) els.length (flat xs els.length size) := hown
  rcases hown'.2 with ⟨_, h0⟩ | ⟨g, cap, cur, hv, hB, hh, hn, hmx, hcs, htk⟩
  · omega
  have hblk : blk (ρ id) = some g := by rw [hv]; rfl
  have hxv := ptr_at r1 hblk
  have hsz : (a.eval y).cells.size = len := by have := h3.1; rw [Array.length_toList] at this; omega
  have hle : k * size + size ≤ els.length * size := by rw [← Nat.succ_mul]; exact Nat.mul_le_mul_right _ hlt
  have hcap : els.length * size ≤ cap * size := Nat.mul_le_mul_right _ hn
  obtain ⟨w', h5, h6, h7⟩ := storeVar_run (P := cx.P) (off := off) hs hsz (cur := cur.toList) (by simpa using hh) (by rw [Array.length_toList]; omega) h4
  unfold Oper.wp execOp
  simp only [ho, Instr.storeAt, hxv, Instr.sureAddr, Sem.run_bind, Sem.run_pure, Result.andThen_ok, h5]
  refine ⟨by rw [ht]; rfl, fun e2 hr2 => ⟨F, ρ, ?_⟩⟩
  have hvl : (a.eval y).cells.toList.length = len := by rw [Array.length_toList]; exact hsz
  have keep : ∀ {u : Value} {d : D}, Rep F w u d → Rep F w' u d := fun h => h.mono (fun b hb => hb) fun b hb => h6.block b (hr.lt b hb) (fun he => hnF g hblk (by rw [← Option.some.inj he]; exact hb))
  refine hr2.writeOb hblk hm hB (hnF g hblk) h6 ⟨fun i p => if i = k ∧ j ≤ p ∧ p < j + (a.eval y).cells.toList.length then (a.eval y).cells.toList.getD (p - j) undef else xs i p, ?_, fun i hi => ?_, fun i hi p hp => ?_, hnF⟩
  · rw [List.length_set]
    have hst := flat_store xs els.length size k j (a.eval y).cells.toList hlt (by omega)
    refine ⟨flat_length _ _ _, .inr ⟨g, cap, _, hv, hB, h7, hn, hmx, ?_, ?_⟩⟩
    · simp only [List.size_toArray, List.length_append, List.length_take, List.length_drop, Array.length_toList, hcs, hsz]
      omega
    · refine Eq.trans ?_ hst
      rw [← htk]
      have hcl : cur.toList.length = cap * size := by rw [Array.length_toList]; exact hcs
      rw [hoff, ← hvl]
      apply List.ext_getElem?
      intro p
      by_cases hp : p < els.length * size
      · rw [List.getElem?_take, if_pos hp, get3, get3]
        simp only [List.length_take, hcl, List.getElem?_take, List.getElem?_drop]
        rw [Nat.min_eq_left (show k * size + j ≤ cap * size by omega), Nat.min_eq_left (show k * size + j ≤ min (els.length * size) (cap * size) by omega)]
        by_cases c1 : p < k * size + j
        · simp [c1, hp]
        · by_cases c2 : p < k * size + j + (a.eval y).cells.toList.length
          · simp only [c1, c2, if_false, if_true]
          · simp only [c1, c2, if_false]
            rw [if_pos (by omega)]
      · rw [List.getElem?_eq_none (by rw [List.length_take]; omega), List.getElem?_eq_none (by
          simp only [List.length_append, List.length_take, List.length_drop, hcl]
          omega)]
  · rw [List.getElem_set]
    split
    · rw [List.length_append, List.length_append, List.length_take, List.length_drop, hl]
      have := hlen k hlt
      rw [hde] at this
      omega
    · exact hlen i _
  · rw [List.length_set] at hi
    have hk2 := hlen k hlt
    rw [hde] at hk2
    simp only [List.getElem_set] at hp ⊢
    by_cases hik : k = i
    · subst hik
      simp only [if_true] at hp ⊢
      rw [List.length_append, List.length_append, List.length_take, List.length_drop, hl] at hp
      by_cases c1 : j ≤ p ∧ p < j + (a.eval y).cells.toList.length
      · simp only [c1, and_self, if_true]
        have hpl : p - j < (a.eval y).cells.toList.length := by omega
        rw [List.getD_eq_getElem?_getD, List.getElem?_eq_getElem hpl, Option.getD_some]
        refine ⟨h4 _ (List.getElem_mem _), keep ?_⟩
        rw [List.getElem_append_left (by simp; omega), List.getElem_append_right (by simp; omega)]
        have e1 : (List.take j ds).length = j := by simp; omega
        simp only [e1]
        exact h3.2 _ _ _
      · rw [if_neg (by rintro ⟨_, h8, h9⟩; exact c1 ⟨h8, h9⟩)]
        have h10 := hrep k hlt p (by rw [hde]; omega)
        simp only [hde] at h10
        refine ⟨h10.1, keep ?_⟩
        by_cases c2 : p < j
        · rw [List.getElem_append_left (by simp; omega), List.getElem_append_left (by simp; omega), List.getElem_take]
          exact h10.2
        · rw [List.getElem_append_right (by simp; omega), List.getElem_drop]
          have e1 : (List.take j ds ++ d.parts).length = j + len := by simp; omega
          simp only [e1]
          have e2 : j + len + (p - (j + len)) = p := by omega
          simp only [e2]
          exact h10.2
    · simp only [hik, if_false] at hp ⊢
      rw [if_neg (by rintro ⟨h8, _⟩; exact hik h8.symm)]
      exact ⟨(hrep i hi p hp).1, keep (hrep i hi p hp).2⟩
end
end Go.Proofs.YtajghehicmlajaaDoor
