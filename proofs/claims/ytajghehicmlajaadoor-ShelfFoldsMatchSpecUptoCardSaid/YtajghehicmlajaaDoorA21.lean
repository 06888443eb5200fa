/- Abstract values: regions that draw their order, whose last operations come one after the other. No statement of the seat. -/
import Derived.Test.YtajghehicmlajaaDoorA20
namespace Go.Proofs.YtajghehicmlajaaDoor
open Go.RowKit
set_option linter.unusedVariables false

theorem wp_to2 {P : Program} {o : Oper} {a : Act} {w : World} {K K' : Act → World → Prop} {Q Q' : Exit → Act → World → Prop} (h : ∀ a w, K a w → K' a w) (hq : ∀ e a w, e ≠ .normal → Q e a w → Q' e a w)
    (hh : o.wp P a w K Q) : o.wp P a w K' Q' := by
  unfold Oper.wp at *
  generalize (execOp a.eval o).run P w = r at *
  cases r with
  | ok n w' =>
    cases n <;> simp only [Oper.upon] at hh ⊢ <;>
      first
        | exact h _ _ hh
        | exact Calls.mono hh (fun e w'' he => by cases e <;> first | exact h _ _ he | exact hq _ _ _ (by simp) he | exact he.imp fun _ => Exists.imp fun _ => hq _ _ _ (by simp))
        | exact Rows.mono hh (fun _ _ he => h _ _ he)
  | halt x w' => cases x <;> simp only [Oper.upon] at hh ⊢ <;> first | exact hq _ _ _ (by simp) hh | exact hh

def Region.edge (ops : Array Oper) (m j : Nat) : Bool := ((ops[m]?).map fun o => o.after.any fun e => Region.binds .any e && Nat.beq e.on j).getD false
/-- Who must come before lies before. -/
def Region.downB (ops : Array Oper) : Bool := (List.range ops.size).all fun i =>
  ((ops[i]?).map fun o => (o.after.all fun e => !Region.binds .any e || Nat.blt e.on i) && (match o.guard with | none => true | some p => Nat.blt p.1 i)).getD true
/-- From k on each one waits for all before it. -/
def Region.chainB (ops : Array Oper) (k : Nat) : Bool := Region.downB ops && Nat.ble k ops.size && (List.range (ops.size - 1)).all fun j =>
  (List.range ops.size).any fun m => Nat.blt j m && (Nat.ble m k || Nat.ble m (j + 1)) && Region.edge ops m j
theorem Region.edge_spec {ops : Array Oper} {m j : Nat} (h : Region.edge ops m j = true) : ∃ o, ops[m]? = some o ∧ ∃ e ∈ o.after, Region.binds .any e = true ∧ e.on = j := by
  unfold Region.edge at h
  cases ho : ops[m]? with
  | none => rw [ho] at h; simp at h
  | some o =>
    rw [ho] at h
    simp only [Option.map_some, Option.getD_some, Array.any_eq_true'] at h
    obtain ⟨e, he, hb⟩ := h
    simp only [Bool.and_eq_true] at hb
    exact ⟨o, rfl, e, he, hb.1, Nat.eq_of_beq_eq_true hb.2⟩
theorem Region.down_spec {ops : Array Oper} (h : Region.downB ops = true) {i : Nat} {o : Oper} (ho : ops[i]? = some o) : (∀ e ∈ o.after, Region.binds .any e = true → e.on < i) ∧ ∀ p, o.guard = some p → p.1 < i := by
  have h1 := List.all_eq_true.1 h i (List.mem_range.2 (Array.getElem?_eq_some_iff.1 ho).1)
  rw [ho] at h1
  simp only [Option.map_some, Option.getD_some, Bool.and_eq_true] at h1
  refine ⟨fun e he hb => ?_, fun p hp => ?_⟩
  · have := Array.all_eq_true_iff_forall_mem.1 h1.1 e he
    rw [hb] at this
    simpa [Nat.blt_eq] using this
  · have h2 := h1.2
    rw [hp] at h2
    simpa [Nat.blt_eq] using h2
structure Chain (ops : Array Oper) (k : Nat) : Prop where
  down : Region.downB ops = true
  le : k ≤ ops.size
  next : ∀ j, j < ops.size - 1 → ∃ m, j < m ∧ (m ≤ k ∨ m ≤ j + 1) ∧ Region.edge ops m j = true
theorem Chain.of {ops : Array Oper} {k : Nat} (h : Region.chainB ops k = true) : Chain ops k := by
  unfold Region.chainB at h
  simp only [Bool.and_eq_true] at h
  obtain ⟨⟨h1, h2⟩, h3⟩ := h
  refine ⟨h1, Nat.le_of_ble_eq_true h2, fun j hj => ?_⟩
  have h4 := List.all_eq_true.1 h3 j (List.mem_range.2 hj)
  obtain ⟨m, _, hm⟩ := List.any_eq_true.1 h4
  simp only [Bool.and_eq_true, Bool.or_eq_true, Nat.blt_eq] at hm
  exact ⟨m, hm.1.1, hm.1.2.imp Nat.le_of_ble_eq_true Nat.le_of_ble_eq_true, hm.2⟩

def Closed (ops : Array Oper) (listed : Array Bool) : Prop := ∀ i o, ops[i]? = some o → listed.getD i false = true → ∀ e ∈ o.after, Region.binds .any e = true → listed.getD e.on false = true
theorem getD_tf {listed : Array Bool} {j : Nat} (h : j < listed.size) (a b : Bool) : listed.getD j a = listed.getD j b := by simp [Array.getD_eq_getD_getElem?, h]
theorem Closed.set {ops : Array Oper} {listed : Array Bool} (h : Closed ops listed) {i : Nat} (hi : i ∈ Region.ready .any ops listed) : Closed ops (listed.setIfInBounds i true) := by
  intro m o ho hm e he hb
  by_cases hmi : i = m
  · subst hmi
    obtain ⟨_, o', ho', hall⟩ := mem_ready.1 hi
    rw [ho] at ho'; cases ho'
    exact getD_set_true (hall e he hb)
  · rw [getD_set_ne false hmi] at hm
    exact getD_set_true (h m o ho hm e he hb)
theorem Chain.before {ops : Array Oper} {k : Nat} (hC : Chain ops k) {listed : Array Bool} (hc : Closed ops listed) {i : Nat} (hi : i ∈ Region.ready .any ops listed) (hk : k ≤ i) : ∀ d j, j + d = i → 0 < d → listed.getD j false = true := by
  obtain ⟨_, oi, hoi, hall⟩ := mem_ready.1 hi
  have hlt : i < ops.size := (Array.getElem?_eq_some_iff.1 hoi).1
  intro d
  induction d using Nat.strongRecOn with
  | ind d ih =>
    intro j hj hd
    obtain ⟨m, h1, h2, h3⟩ := hC.next j (by omega)
    obtain ⟨o, ho, e, he, hb, heq⟩ := Region.edge_spec h3
    by_cases hmi : m = i
    · subst hmi
      rw [hoi] at ho; cases ho
      rw [← heq]; exact hall e he hb
    · have := ih (i - m) (by omega) m (by omega) (by omega)
      rw [← heq]; exact hc m o ho this e he hb
theorem ready_least {ops : Array Oper} (hd : Region.downB ops = true) {listed : Array Bool} (hs : listed.size = ops.size) : ∀ j, j < ops.size → listed.getD j true = false → ∃ m, m ≤ j ∧ m ∈ Region.ready .any ops listed := by
  intro j
  induction j using Nat.strongRecOn with
  | ind j ih =>
    intro hj hu
    by_cases hr : j ∈ Region.ready .any ops listed
    · exact ⟨j, Nat.le_refl _, hr⟩
    · have ho : ops[j]? = some ops[j] := Array.getElem?_eq_getElem hj
      have : ¬ ∀ e ∈ ops[j].after, Region.binds .any e = true → listed.getD e.on false = true := fun hh => hr (mem_ready.2 ⟨hu, _, ho, hh⟩)
      simp only [Classical.not_forall] at this
      obtain ⟨e, he, hb, hn⟩ := this
      have hlt := (Region.down_spec hd ho).1 e he hb
      obtain ⟨m, h1, h2⟩ := ih e.on hlt (by omega) (by
        rw [getD_tf (by omega) true false]
        simpa using hn)
      exact ⟨m, by omega, h2⟩
section
variable {P : Program} {ops : Array Oper} {Q Q0 : Exit → Act → World → Prop} {k : Nat}
theorem wpAny_chain (hC : Chain ops k) : ∀ (l : List Oper) (i : Nat) (listed : Array Bool) (fuel : Nat) (a : Act) (w : World), (∀ j, l[j]? = ops[i + j]?) → i + l.length = ops.size → k ≤ i → listed.size = ops.size →
    (∀ j, j < i → listed.getD j false = true) → (∀ j, i ≤ j → j < ops.size → listed.getD j true = false) → Closed ops listed → l.length ≤ fuel → wpList P ops Q l a w → wpAny P .any ops Q fuel listed a w
  | [], i, listed, fuel, a, w, hl, hsz, hk, hls, h1, h2, hc, hf, h => by
    have hr : Region.ready .any ops listed = [] := by
      refine List.eq_nil_iff_forall_not_mem.2 fun m hm => ?_
      obtain ⟨hu, o, ho, _⟩ := mem_ready.1 hm
      have hlt : m < ops.size := (Array.getElem?_eq_some_iff.1 ho).1
      have := h1 m (by simp at hsz; omega)
      rw [getD_tf (by omega) false true, hu] at this
      simp at this
    cases fuel with
    | zero => exact ⟨hr, h⟩
    | succ f => exact ⟨fun _ => h, fun m hm => by rw [hr] at hm; cases hm⟩
  | o :: l, i, listed, fuel, a, w, hl, hsz, hk, hls, h1, h2, hc, hf, h => by
    have h0 : ops[i]? = some o := by simpa using (hl 0).symm
    have hlt : i < ops.size := (Array.getElem?_eq_some_iff.1 h0).1
    have hl' : ∀ j, l[j]? = ops[i + 1 + j]? := fun j => by have := hl (j + 1); simpa [Nat.add_assoc, Nat.add_comm 1 j] using this
    have hui := h2 i (Nat.le_refl _) hlt
    have hir : i ∈ Region.ready .any ops listed := mem_ready.2 ⟨hui, o, h0, fun e he hb => h1 _ ((Region.down_spec hC.down h0).1 e he hb)⟩
    have hnext : ∀ (a' : Act) (w' : World), wpList P ops Q l a' w' → wpAny P .any ops Q (fuel - 1) (listed.setIfInBounds i true) a' w' := fun a' w' h' =>
      wpAny_chain hC l (i + 1) _ _ a' w' hl' (by simp at hsz; omega) (by omega) (by simp [hls]) (fun j hj => by
        by_cases hji : i = j
        · subst hji
          simp [Array.getD_eq_getD_getElem?, hls, hlt]
        · rw [getD_set_ne false hji]; exact h1 j (by omega)) (fun j hj hj2 => by rw [getD_set_ne true (by omega)]; exact h2 j (by omega) hj2) (hc.set hir) (by simp at hf; omega) h'
    obtain ⟨f, rfl⟩ : ∃ f, fuel = f + 1 := ⟨fuel - 1, by simp at hf; omega⟩
    refine ⟨fun hr => (by rw [hr] at hir; cases hir), fun m hm => ?_⟩
    obtain ⟨hu, o', ho', _⟩ := mem_ready.1 hm
    have hm2 : m = i := by
      have hmlt : m < ops.size := (Array.getElem?_eq_some_iff.1 ho').1
      rcases Nat.lt_trichotomy m i with hh | hh | hh
      · have := h1 m hh
        rw [getD_tf (by omega) false true, hu] at this
        simp at this
      · exact hh
      · have := hC.before hc hm (by omega) (m - i) i (by omega) (by omega)
        rw [getD_tf (by omega) false true, hui] at this
        simp at this
    subst hm2
    unfold wpOp
    simp only [h0]
    unfold wpList at h
    by_cases hw : Region.wanted o (yielded ops a.tmps) = true
    · rw [if_pos hw] at h ⊢
      exact h.imp (Oper.wp_mono hnext) id
    · rw [if_neg hw] at h ⊢
      exact hnext _ _ h
theorem wanted_same {ops0 : Array Oper} {o : Oper} {tmps : Array Value} (h : ∀ p, o.guard = some p → ops0[p.1]? = ops[p.1]?) : Region.wanted o (yielded ops0 tmps) = Region.wanted o (yielded ops tmps) := by
  unfold Region.wanted
  cases hg : o.guard with
  | none => rfl
  | some p =>
    obtain ⟨j, want⟩ := p
    have := h (j, want) hg
    dsimp only at this ⊢
    unfold yielded
    rw [this]
theorem wpAny_split (hC : Chain ops k) {ops0 : Array Oper} (h0 : ops0.size = k) (hpre : ∀ j, j < k → ops0[j]? = ops[j]?) (hN : ∀ a w, Q0 .normal a w → wpList P ops Q (ops.toList.drop k) a w) (hE : ∀ e a w, e ≠ .normal → Q0 e a w → Q e a w) :
    ∀ (fuel0 : Nat) (listed0 listed : Array Bool) (fuel : Nat) (a : Act) (w : World), listed0.size = k → listed.size = ops.size → (∀ j, j < k → ∀ d, listed0.getD j d = listed.getD j d) → (∀ j, k ≤ j → j < ops.size → listed.getD j true = false) →
      Closed ops listed → fuel0 + (ops.size - k) ≤ fuel → wpAny P .any ops0 Q0 fuel0 listed0 a w → wpAny P .any ops Q fuel listed a w := by
  have hle := hC.le
  have hd0 : Region.downB ops0 = true := by
    unfold Region.downB
    refine List.all_eq_true.2 fun i hi => ?_
    have hik := List.mem_range.1 hi
    have h1 := List.all_eq_true.1 hC.down i (List.mem_range.2 (by omega))
    rw [hpre i (by omega)]
    exact h1
  have all : ∀ (fuel0 : Nat) (listed0 listed : Array Bool) (fuel : Nat) (a : Act) (w : World), listed0.size = k → listed.size = ops.size → (∀ j, j < k → ∀ d, listed0.getD j d = listed.getD j d) → (∀ j, k ≤ j → j < ops.size → listed.getD j true = false) →
      Closed ops listed → fuel0 + (ops.size - k) ≤ fuel → wpAny P .any ops0 Q0 fuel0 listed0 a w → (∀ j, j < k → listed.getD j false = true) → wpAny P .any ops Q fuel listed a w := by
    intro fuel0 listed0 listed fuel a w hs0 hs hag hun hc hf H hall
    have hr0 : Region.ready .any ops0 listed0 = [] := by
      refine List.eq_nil_iff_forall_not_mem.2 fun m hm => ?_
      obtain ⟨hu, o, ho, _⟩ := mem_ready.1 hm
      have hlt : m < ops0.size := (Array.getElem?_eq_some_iff.1 ho).1
      have h1 := hall m (by omega)
      rw [← hag m (by omega), getD_tf (by omega) false true, hu] at h1
      simp at h1
    have hQ : Q0 .normal a w := by
      cases fuel0 with
      | zero => exact H.2
      | succ f => exact H.1 hr0
    exact wpAny_chain hC (ops.toList.drop k) k listed fuel a w (fun j => by rw [List.getElem?_drop, Array.getElem?_toList]) (by rw [List.length_drop, Array.length_toList]; omega) (Nat.le_refl _) hs hall hun hc (by rw [List.length_drop, Array.length_toList]; omega) (hN a w hQ)
  intro fuel0
  induction fuel0 with
  | zero =>
    intro listed0 listed fuel a w hs0 hs hag hun hc hf H
    refine all 0 listed0 listed fuel a w hs0 hs hag hun hc hf H fun j hj => ?_
    cases hh : listed.getD j false with
    | true => rfl
    | false =>
      rw [← hag j hj, getD_tf (by omega) false true] at hh
      obtain ⟨m, _, hm⟩ := ready_least hd0 (by omega) j (by omega) hh
      rw [H.1] at hm; cases hm
  | succ fuel0 ih =>
    intro listed0 listed fuel a w hs0 hs hag hun hc hf H
    by_cases hall : ∀ j, j < k → listed.getD j false = true
    · exact all _ listed0 listed fuel a w hs0 hs hag hun hc hf H hall
    · simp only [Classical.not_forall] at hall
      obtain ⟨j, hj, hjn⟩ := hall
      have hju : listed.getD j true = false := by rw [getD_tf (by omega) true false]; simpa using hjn
      obtain ⟨f, rfl⟩ : ∃ f, fuel = f + 1 := ⟨fuel - 1, by omega⟩
      refine ⟨fun hr => ?_, fun m hm => ?_⟩
      · obtain ⟨m, _, hm⟩ := ready_least hC.down hs j (by omega) hju
        rw [hr] at hm; cases hm
      · obtain ⟨hu, o, ho, hdep⟩ := mem_ready.1 hm
        have hmlt : m < ops.size := (Array.getElem?_eq_some_iff.1 ho).1
        have hmk : m < k := by
          refine Nat.lt_of_not_le fun hkm => hjn ?_
          exact hC.before hc hm hkm (m - j) j (by omega) (by omega)
        have ho0 : ops0[m]? = some o := by rw [hpre m hmk]; exact ho
        have hm0 : m ∈ Region.ready .any ops0 listed0 := mem_ready.2 ⟨by rw [hag m hmk]; exact hu, o, ho0, fun e he hb => by
          have := (Region.down_spec hC.down ho).1 e he hb
          rw [hag _ (by omega)]; exact hdep e he hb⟩
        have h1 := H.2 m hm0
        unfold wpOp at h1 ⊢
        simp only [ho, ho0] at h1 ⊢
        rw [wanted_same (ops := ops) fun p hp => hpre _ (by have := (Region.down_spec hC.down ho).2 p hp; omega)] at h1
        have hnext : ∀ (a' : Act) (w' : World), wpAny P .any ops0 Q0 fuel0 (listed0.setIfInBounds m true) a' w' → wpAny P .any ops Q f (listed.setIfInBounds m true) a' w' := fun a' w' h' =>
          ih _ _ f a' w' (by simp [hs0]) (by simp [hs]) (fun j hj d => by
            by_cases hmj : m = j
            · subst hmj
              simp [Array.getD_eq_getD_getElem?, hs0, hs, hmk, hmlt]
            · rw [getD_set_ne d hmj, getD_set_ne d hmj]; exact hag j hj d) (fun j hj hj2 => by rw [getD_set_ne true (by omega)]; exact hun j hj hj2) (hc.set hm) (by omega) h'
        by_cases hw : Region.wanted o (yielded ops a.tmps) = true
        · rw [if_pos hw] at h1 ⊢
          exact h1.imp (wp_to2 hnext hE) fun h => ⟨h.1, h.2.imp fun _ => Exists.imp fun _ => hE _ _ _ (by simp)⟩
        · rw [if_neg hw] at h1 ⊢
          exact hnext _ _ h1
end
/-- A region that draws its order, whose operations from k on wait for all before them: in the order of the text. -/
theorem AWP.drawTail {cx : Cx} {id : Nat} {l : List Oper} {e : Env} {σ : Obs} {Q : Post} (k : Nat) (hm : cx.P.follows .mixedOrders = true) (hB : Region.lexB .any (l.take k).toArray = true) (hC : Region.chainB l.toArray k = true)
    (h : DRun cx (l.take k).toArray σ (l.take k) e (fun e => AOps cx l.toArray (l.drop k) e σ Q)) : AWP cx (.region id l.toArray true) e σ Q := by
  intro a w ⟨F, ρ, hr⟩
  simp only [Region.lexB, Bool.and_eq_true] at hB
  have hch := Chain.of hC
  have hkl : k ≤ l.length := by simpa using hch.le
  have h1 := anyD_lex (l.take k) 0 (Array.replicate (l.take k).toArray.size false) e (by simp) (by simpa using hB.2) h
  have h2 := wpAny_of_D (cx := cx) (ops := (l.take k).toArray) (Q := fun ex e σ => match ex with | .normal => AOps cx l.toArray (l.drop k) e σ Q | _ => False) (by simpa using DRun.dsts _ e h) _ _ e a _ ⟨F, ρ, hr.drew⟩ h1
  refine wp_region_any hm (wpAny_split hch (ops0 := (l.take k).toArray) (by simp; omega) (fun j hj => by simp [hj]) ?_ ?_ (l.take k).length _ _ _ _ _ (by simp; omega) (by simp) ?_ ?_ ?_ (by simp; omega) h2)
  · rintro a w ⟨e, σ, h3, h4⟩
    have := h3 a w h4
    simpa using this
  · rintro ex a w hne ⟨e, σ, h3, _⟩
    cases ex <;> first | exact absurd rfl hne | exact h3.elim
  · intro j hj d
    have h5 : j < l.length := by omega
    have h6 : j < min k l.length := by omega
    simp [Array.getD_eq_getD_getElem?, h5, h6]
  · intro j hj hj2
    have : j < l.length := by simpa using hj2
    simp [Array.getD_eq_getD_getElem?, this]
  · intro i o ho hi
    have : i < l.length := by simpa using (Array.getElem?_eq_some_iff.1 ho).1
    simp [Array.getD_eq_getD_getElem?, this] at hi
end Go.Proofs.YtajghehicmlajaaDoor
