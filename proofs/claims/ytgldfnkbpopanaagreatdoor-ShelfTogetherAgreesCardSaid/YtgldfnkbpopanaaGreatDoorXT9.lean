/- Walks and laws over abstract values, merged by tools/merge.py. No statement of the seat. -/
import Derived.Test.YtgldfnkbpopanaaGreatDoorXT8

namespace Go.Proofs.YtgldfnkbpopanaaGreatDoor
open Go.RowKit
set_option linter.unusedVariables false

/-! Types. -/
namespace TyDS2

end TyDS2
open TyDS2


theorem swD_get {α : Type} {l : List α} {i j : Nat} (hi : i < l.length) (hj : j < l.length) (p : Nat) : (sw l i j)[p]? = if p = j then l[i]? else if p = i then l[j]? else l[p]? := by
  rw [sw_at hi hj, List.getElem?_set, List.getElem?_set]
  simp only [List.length_set]
  by_cases h1 : p = j
  · subst h1; simp [hi, hj]
  · rw [if_neg (Ne.symm h1), if_neg h1]
    by_cases h2 : p = i
    · subst h2; simp [hi, hj]
    · rw [if_neg (Ne.symm h2), if_neg h2]
theorem swapTo_get {α : Type} {l : List α} {a b : Nat} : ∀ {n : Nat}, a + n ≤ b → b + n ≤ l.length → ∀ p, (swapTo l a b n)[p]? = if a ≤ p ∧ p < a + n then l[p + (b - a)]? else if b ≤ p ∧ p < b + n then l[p - (b - a)]? else l[p]?
  | 0, _, _, p => by
    unfold swapTo
    rw [if_neg (by omega), if_neg (by omega)]
  | n + 1, h1, h2, p => by
    unfold swapTo
    rw [swD_get (by rw [swapTo_len]; omega) (by rw [swapTo_len]; omega)]
    have ih := fun p => swapTo_get (l := l) (a := a) (b := b) (n := n) (by omega) (by omega) p
    by_cases e1 : p = b + n
    · rw [if_pos e1, ih, if_neg (by omega), if_neg (by omega), if_neg (by omega), if_pos (by omega)]
      congr 1; omega
    · rw [if_neg e1]
      by_cases e2 : p = a + n
      · rw [if_pos e2, ih, if_neg (by omega), if_neg (by omega), if_pos (by omega)]
        congr 1; omega
      · rw [if_neg e2, ih]
        by_cases c1 : a ≤ p ∧ p < a + n
        · rw [if_pos c1, if_pos (by omega)]
        · rw [if_neg c1, if_neg (by omega : ¬ (a ≤ p ∧ p < a + (n + 1)))]
          by_cases c2 : b ≤ p ∧ p < b + n
          · rw [if_pos c2, if_pos (by omega)]
          · rw [if_neg c2, if_neg (by omega : ¬ (b ≤ p ∧ p < b + (n + 1)))]
/-- The pieces from a to m and from m to b change places. -/
def rotl {α : Type} (l : List α) (a m b : Nat) : List α := l.take a ++ ((l.drop m).take (b - m) ++ ((l.drop a).take (m - a) ++ l.drop b))
theorem rotl_get {α : Type} {l : List α} {a m b : Nat} (h1 : a ≤ m) (h2 : m ≤ b) (h3 : b ≤ l.length) (p : Nat) : (rotl l a m b)[p]? = if p < a then l[p]? else if p < a + (b - m) then l[p + (m - a)]? else if p < b then l[p - (b - m)]? else l[p]? := by
  unfold rotl
  have e1 : (l.take a).length = a := by rw [List.length_take]; omega
  have e2 : ((l.drop m).take (b - m)).length = b - m := by rw [List.length_take, List.length_drop]; omega
  have e3 : ((l.drop a).take (m - a)).length = m - a := by rw [List.length_take, List.length_drop]; omega
  by_cases c1 : p < a
  · rw [if_pos c1, List.getElem?_append_left (by omega), List.getElem?_take, if_pos c1]
  · rw [if_neg c1, List.getElem?_append_right (by omega), e1]
    by_cases c2 : p < a + (b - m)
    · rw [if_pos c2, List.getElem?_append_left (by omega), List.getElem?_take, if_pos (by omega), List.getElem?_drop]
      congr 1; omega
    · rw [if_neg c2, List.getElem?_append_right (by omega), e2]
      by_cases c3 : p < b
      · rw [if_pos c3, List.getElem?_append_left (by omega), List.getElem?_take, if_pos (by omega), List.getElem?_drop]
        congr 1; omega
      · rw [if_neg c3, List.getElem?_append_right (by omega), e3, List.getElem?_drop]
        congr 1; omega
theorem rotl_len {α : Type} {l : List α} {a m b : Nat} (h1 : a ≤ m) (h2 : m ≤ b) (h3 : b ≤ l.length) : (rotl l a m b).length = l.length := by
  unfold rotl
  simp only [List.length_append, List.length_take, List.length_drop]
  omega
theorem rot_more {α : Type} {c : List α} {m i j : Nat} (hij : j < i) (hj : 0 < j) (hi : i ≤ m) (hl : m + j ≤ c.length) : rotl (swapTo c (m - i) m j) (m - (i - j)) m (m + j) = rotl c (m - i) m (m + j) := by
  apply List.ext_getElem?
  intro p
  rw [rotl_get (by omega) (by omega) (by rw [swapTo_len]; omega), rotl_get (by omega) (by omega) (by omega)]
  simp only [swapTo_get (l := c) (a := m - i) (b := m) (n := j) (by omega) (by omega)]
  by_cases c1 : p < m - i
  · rw [if_pos (by omega), if_neg (by omega), if_neg (by omega), if_pos c1]
  · rw [if_neg c1]
    by_cases c2 : p < m - i + j
    · rw [if_pos (by omega), if_pos (by omega), if_pos (by omega)]
    · rw [if_neg (by omega)]
      by_cases c3 : p < m - (i - j) + (m + j - m)
      · rw [if_pos c3, if_neg (by omega), if_pos (by omega), if_neg (by omega), if_pos (by omega)]
        congr 1; omega
      · rw [if_neg c3]
        by_cases c4 : p < m + j
        · rw [if_pos c4, if_neg (by omega), if_neg (by omega), if_neg (by omega), if_pos c4]
        · rw [if_neg c4, if_neg (by omega), if_neg (by omega), if_neg (by omega), if_neg c4]
theorem rot_less {α : Type} {c : List α} {m i j : Nat} (hij : i < j) (hj : 0 < i) (hi : i ≤ m) (hl : m + j ≤ c.length) : rotl (swapTo c (m - i) (m + j - i) i) (m - i) m (m + (j - i)) = rotl c (m - i) m (m + j) := by
  apply List.ext_getElem?
  intro p
  rw [rotl_get (by omega) (by omega) (by rw [swapTo_len]; omega), rotl_get (by omega) (by omega) (by omega)]
  simp only [swapTo_get (l := c) (a := m - i) (b := m + j - i) (n := i) (by omega) (by omega)]
  by_cases c1 : p < m - i
  · rw [if_pos (by omega), if_neg (by omega), if_neg (by omega), if_pos c1]
  · rw [if_neg c1, if_neg c1]
    by_cases c2 : p < m - i + (m + (j - i) - m)
    · rw [if_pos c2, if_neg (by omega), if_neg (by omega), if_pos (by omega)]
    · rw [if_neg c2]
      by_cases c3 : p < m + (j - i)
      · rw [if_pos c3, if_pos (by omega), if_pos (by omega)]
        congr 1; omega
      · rw [if_neg c3]
        by_cases c4 : p < m + j
        · rw [if_neg (by omega), if_pos (by omega), if_neg (by omega), if_pos c4]
          congr 1; omega
        · rw [if_neg (by omega), if_neg (by omega), if_neg (by omega), if_neg c4]
theorem rot_last {α : Type} {c : List α} {m i : Nat} (hi : i ≤ m) (hl : m + i ≤ c.length) : swapTo c (m - i) m i = rotl c (m - i) m (m + i) := by
  apply List.ext_getElem?
  intro p
  rw [rotl_get (by omega) (by omega) (by omega), swapTo_get (by omega) (by omega)]
  by_cases c1 : p < m - i
  · rw [if_pos c1, if_neg (by omega), if_neg (by omega)]
  · rw [if_neg c1]
    by_cases c2 : p < m - i + (m + i - m)
    · rw [if_pos c2, if_pos (by omega)]
    · rw [if_neg c2, if_neg (by omega)]
      by_cases c3 : p < m + i
      · rw [if_pos c3, if_pos (by omega)]
        congr 1; omega
      · rw [if_neg c3, if_neg (by omega)]


set_option maxRecDepth 100000 in
set_option maxHeartbeats 1000000 in
theorem c_rotate (l : List (Dsp × Nat)) (a m b : Nat) (c : D) (h1 : a < m) (h2 : m < b) (h3 : b ≤ l.length) (hl : l.length ≤ 4611686018427387904) : RCall Tryz.prog 150 73 2 (l.map tds) ((rotl l a m b).map tds) [.v (.int .i64 a), .v (.int .i64 m), .v (.int .i64 b), c] (.tup []) := by
  refine RCall.of1 (chg := fun i => Nat.ble 1000 i) (xcall_of (n := 58) (ds' := []) Tryz.func150 rfl (by kernel_rfl) rfl [] rfl rfl ?_) rfl
  intro B w0 F0 fr ρ0
  refine AWP.seq (AWP.region ?_)
  refine AOps.mA ?_
  refine AOps.mA ?_
  refine AOps.sA (AOp.sub64 rfl rfl rfl (by omega) (by omega)) ?_
  refine AOps.aA (.nil ?_)
  refine AWP.seq (AWP.region ?_)
  refine AOps.mA ?_
  refine AOps.mA ?_
  refine AOps.sA (AOp.sub64 rfl rfl rfl (by omega) (by omega)) ?_
  refine AOps.aA (.nil ?_)
  refine AWP.seq ?_
  refine AWP.block ?_
  refine AWP.loop (G := List (Dsp × Nat) × Nat × Nat) (fun g => Env.of [(10, .d (.v (.int .i64 (g.2.1 : Int)))), (11, .d (.v (.int .i64 (g.2.2 : Int)))), (0, .own 1), (2, .d (.v (.int .i64 m))), (4, .d c)]) (fun g => [(1, .row 73 2 (g.1.map tds))]) (fun g => 0 < g.2.1 ∧ 0 < g.2.2 ∧ g.2.1 ≤ m ∧ m + g.2.2 ≤ l.length ∧ g.1.length = l.length ∧ rotl g.1 (m - g.2.1) m (m + g.2.2) = rotl l a m b) (fun g => g.2.1 + g.2.2) (l, m - a, b - m) ⟨by dsimp only; omega, by dsimp only; omega, by dsimp only; omega, by dsimp only; omega, rfl, by dsimp only; rw [show m - (m - a) = a by omega, show m + (b - m) = b by omega]⟩ (Sub.less ⟨(SLe.i64 (by dsimp only; omega)), (SLe.i64 (by dsimp only; omega)), SLe.refl _, SLe.refl _, SLe.refl _, trivial⟩ (row_same rfl)) ?_
  rintro ⟨x, i, j⟩ ⟨q1, q2, q3, q4, q5, q6⟩
  dsimp only at q1 q2 q3 q4 q5 q6 ⊢
  refine AWP.seq ?_
  refine AWP.seq (AWP.region ?_)
  refine AOps.mA ?_
  refine AOps.mA ?_
  refine AOps.sA (AOp.neq rfl rfl rfl) (.nil ?_)
  refine AWP.cond rfl (fun h1 => ?_) (fun h1 => ?_)
  · replace h1 := of_decide_eq_true h1
    refine AWP.skip ?_
    refine AWP.block ?_
    refine AWP.seq (AWP.region ?_)
    refine AOps.mA ?_
    refine AOps.mA ?_
    refine AOps.sA (AOp.gtr rfl rfl rfl) (.nil ?_)
    refine AWP.cond rfl (fun h2 => ?_) (fun h2 => ?_)
    · replace h2 := of_decide_eq_true h2
      have hij : j < i := by omega
      refine AWP.seq (AWP.region ?_)
      refine AOps.sA (AOp.moveO rfl rfl) ?_
      refine AOps.mA ?_
      refine AOps.mA ?_
      refine AOps.sA (AOp.sub64 rfl rfl rfl (by omega) (by omega)) ?_
      refine AOps.mA ?_
      refine AOps.mA ?_
      refine AOps.mA ?_
      -- turns 1
      refine AOps.callX rfl rfl rfl (.cons (SLe.refl _) (.cons (SLe.i64 (by omega)) (.cons (SLe.refl _) (.cons (SLe.refl _) (.cons (SLe.refl _) .nil))))) ((c_swapRange x (m - i) m j _ (by omega) (by omega) (by omega)) 1) ⟨(.head _), trivial⟩ rfl rfl (fun _ h => nomatch h) ?_
      refine AOps.nil ?_
      refine AWP.region ?_
      refine AOps.mA ?_
      refine AOps.mA ?_
      refine AOps.sA (AOp.sub64 rfl rfl rfl (by omega) (by omega)) ?_
      refine AOps.aA (.nil ?_)
      refine ⟨(swapTo x (m - i) m j, i - j, j), ⟨by dsimp only; omega, q2, by dsimp only; omega, q4, by dsimp only; rw [swapTo_len, q5], by dsimp only; rw [rot_more hij q2 q3 (by omega), q6]⟩, (by dsimp only; omega), Sub.less ⟨(SLe.i64 (by dsimp only; omega)), (SLe.refl _), SLe.refl _, SLe.refl _, SLe.refl _, trivial⟩ (row_same rfl)⟩
    replace h2 := of_decide_eq_false h2
    have hij : i < j := by omega
    refine AWP.seq (AWP.region ?_)
    refine AOps.sA (AOp.moveO rfl rfl) ?_
    refine AOps.mA ?_
    refine AOps.mA ?_
    refine AOps.sA (AOp.sub64 rfl rfl rfl (by omega) (by omega)) ?_
    refine AOps.mA ?_
    refine AOps.mA ?_
    refine AOps.sA (AOp.add64 rfl rfl rfl (by omega) (by omega)) ?_
    refine AOps.mA ?_
    refine AOps.sA (AOp.sub64 rfl rfl rfl (by omega) (by omega)) ?_
    refine AOps.mA ?_
    refine AOps.mA ?_
    -- turns 1
    refine AOps.callX rfl rfl rfl (.cons (SLe.refl _) (.cons (SLe.i64 (by omega)) (.cons (SLe.i64 (by omega)) (.cons (SLe.refl _) (.cons (SLe.refl _) .nil))))) ((c_swapRange x (m - i) (m + j - i) i _ (by omega) (by omega) (by omega)) 1) ⟨(.head _), trivial⟩ rfl rfl (fun _ h => nomatch h) ?_
    refine AOps.nil ?_
    refine AWP.region ?_
    refine AOps.mA ?_
    refine AOps.mA ?_
    refine AOps.sA (AOp.sub64 rfl rfl rfl (by omega) (by omega)) ?_
    refine AOps.aA (.nil ?_)
    refine ⟨(swapTo x (m - i) (m + j - i) i, i, j - i), ⟨q1, by dsimp only; omega, q3, by dsimp only; omega, by dsimp only; rw [swapTo_len, q5], by dsimp only; rw [rot_less hij q1 q3 (by omega), q6]⟩, (by dsimp only; omega), Sub.less ⟨(SLe.refl _), (SLe.i64 (by dsimp only; omega)), SLe.refl _, SLe.refl _, SLe.refl _, trivial⟩ (row_same rfl)⟩
  replace h1 := of_decide_eq_false h1
  have hij : i = j := by omega
  refine AWP.exit ?_
  refine AWP.region ?_
  refine AOps.sA (AOp.moveO rfl rfl) ?_
  refine AOps.mA ?_
  refine AOps.mA ?_
  refine AOps.sA (AOp.sub64 rfl rfl rfl (by omega) (by omega)) ?_
  refine AOps.mA ?_
  refine AOps.mA ?_
  refine AOps.mA ?_
  -- turns 1
  refine AOps.callX rfl rfl rfl (.cons (SLe.refl _) (.cons (SLe.i64 (by omega)) (.cons (SLe.refl _) (.cons (SLe.refl _) (.cons (SLe.refl _) .nil))))) ((c_swapRange x (m - i) m i _ (by omega) (by omega) (by omega)) 1) ⟨(.head _), trivial⟩ rfl rfl (fun _ h => nomatch h) ?_
  refine AOps.nil ?_
  refine ⟨trivial, ⟨mem_row_eq (.head _) ?_, trivial⟩⟩
  all_goals (subst hij; rw [rot_last q3 (by omega), q6])

end Go.Proofs.YtgldfnkbpopanaaGreatDoor


namespace Go.Proofs.YtgldfnkbpopanaaGreatDoor
open Go.RowKit
set_option linter.unusedVariables false

/-! Types. -/
namespace TyDS3

end TyDS3
open TyDS3


/-- What a comparing function must do. -/
structure PreC {α : Type} (cmp : α → α → Int) : Prop where
  asym : ∀ x y, cmp x y < 0 → 0 ≤ cmp y x
  trans : ∀ x y z, 0 ≤ cmp y x → 0 ≤ cmp z y → 0 ≤ cmp z x
variable {α : Type}
/-- By the comparison, then by the first place. -/
def tlt (cmp : α → α → Int) (p q : α × Nat) : Prop := cmp p.1 q.1 < 0 ∨ (0 ≤ cmp q.1 p.1 ∧ p.2 < q.2)
instance (cmp : α → α → Int) (p q : α × Nat) : Decidable (tlt cmp p q) := by unfold tlt; infer_instance
theorem tlt_irrefl {cmp : α → α → Int} (h : PreC cmp) (p : α × Nat) : ¬ tlt cmp p p := fun hh => by
  rcases hh with h1 | ⟨_, h1⟩
  · have := h.asym _ _ h1; omega
  · omega
theorem tlt_trans {cmp : α → α → Int} (h : PreC cmp) {p q r : α × Nat} (h1 : tlt cmp p q) (h2 : tlt cmp q r) : tlt cmp p r := by
  have le1 : 0 ≤ cmp q.1 p.1 := by rcases h1 with h1 | h1; exact h.asym _ _ h1; exact h1.1
  have le2 : 0 ≤ cmp r.1 q.1 := by rcases h2 with h2 | h2; exact h.asym _ _ h2; exact h2.1
  have le3 := h.trans _ _ _ le1 le2
  by_cases hc : cmp p.1 r.1 < 0
  · exact .inl hc
  · refine .inr ⟨le3, ?_⟩
    have hle : 0 ≤ cmp p.1 r.1 := by omega
    rcases h1 with h1 | ⟨_, h1⟩
    · have := h.trans _ _ _ le2 hle; omega
    · rcases h2 with h2 | ⟨_, h2⟩
      · have := h.trans _ _ _ hle le1; omega
      · omega
theorem tlt_total {cmp : α → α → Int} {p q : α × Nat} (hne : p.2 ≠ q.2) (hn : ¬ tlt cmp p q) : tlt cmp q p := by
  unfold tlt at *
  by_cases h1 : cmp q.1 p.1 < 0
  · exact .inl h1
  · refine .inr ⟨?_, ?_⟩
    · by_cases h2 : cmp p.1 q.1 < 0
      · exact absurd (.inl h2) hn
      · omega
    · by_cases h2 : p.2 < q.2
      · exact absurd (.inr ⟨by omega, h2⟩) hn
      · omega
/-- Two lists in order of the same elements are the same. -/
theorem sorted_unique {cmp : α → α → Int} (h : PreC cmp) : ∀ {l r : List (α × Nat)}, l.Perm r → l.Pairwise (tlt cmp) → r.Pairwise (tlt cmp) → l = r
  | [], r, hp, _, _ => (List.nil_perm.1 hp).symm
  | x :: l, r, hp, hl, hr => by
    rcases r with _ | ⟨y, r⟩
    · exact absurd hp.length_eq (by simp)
    · rw [List.pairwise_cons] at hl hr
      have hxy : x = y := by
        have hx : x ∈ y :: r := hp.subset List.mem_cons_self
        have hy : y ∈ x :: l := hp.symm.subset List.mem_cons_self
        rcases List.mem_cons.1 hx with h1 | h1
        · exact h1
        · rcases List.mem_cons.1 hy with h2 | h2
          · exact h2.symm
          · exact absurd (tlt_trans h (hl.1 y h2) (hr.1 x h1)) (tlt_irrefl h x)
      subst hxy
      rw [sorted_unique h ((List.perm_cons x).1 hp) hl.2 hr.2]
def tle (cmp : α → α → Int) (p q : α × Nat) : Bool := decide (¬ tlt cmp q p)
/-- The elements from a to b, in order. -/
def sortSeg (cmp : α → α → Int) (l : List (α × Nat)) (a b : Nat) : List (α × Nat) := l.take a ++ (((l.drop a).take (b - a)).mergeSort (tle cmp) ++ l.drop b)
def TagsOk (l : List (α × Nat)) : Prop := (l.map Prod.snd).Nodup
theorem mergeSort_tlt {cmp : α → α → Int} (h : PreC cmp) {l : List (α × Nat)} (ht : TagsOk l) : (l.mergeSort (tle cmp)).Pairwise (tlt cmp) := by
  have hp := List.mergeSort_perm l (tle cmp)
  have h1 : (l.mergeSort (tle cmp)).Pairwise (fun p q => tle cmp p q = true) := List.pairwise_mergeSort (le := tle cmp) (fun a b c hab hbc => by
      unfold tle at *
      simp only [decide_eq_true_eq] at *
      intro hca
      by_cases e : a.2 = b.2
      · by_cases e2 : b.2 = c.2
        · unfold tlt at *
          rcases hca with h5 | ⟨_, h5⟩
          · have x1 : 0 ≤ cmp b.1 a.1 := by
              by_cases hh : cmp b.1 a.1 < 0
              · exact absurd (.inl hh) hab
              · omega
            have x2 : 0 ≤ cmp c.1 b.1 := by
              by_cases hh : cmp c.1 b.1 < 0
              · exact absurd (.inl hh) hbc
              · omega
            have := h.trans _ _ _ x1 x2; omega
          · omega
        · have := tlt_total (cmp := cmp) (Ne.symm e2) hbc
          exact hab (tlt_trans h this hca)
      · have := tlt_total (cmp := cmp) (Ne.symm e) hab
        exact hbc (tlt_trans h hca this)) (fun a b => by
      unfold tle
      by_cases hba : tlt cmp b a
      · have : ¬ tlt cmp a b := fun hab => tlt_irrefl h a (tlt_trans h hab hba)
        simp [this]
      · simp [hba]) l
  have h2 : ((l.mergeSort (tle cmp)).map Prod.snd).Nodup := (hp.map Prod.snd).nodup_iff.2 ht
  rw [List.Nodup, List.pairwise_map] at h2
  refine (h1.and h2).imp fun {p q} ⟨h3, h4⟩ => ?_
  unfold tle at h3
  exact tlt_total (Ne.symm h4) (of_decide_eq_true h3)


end Go.Proofs.YtgldfnkbpopanaaGreatDoor


namespace Go.Proofs.YtgldfnkbpopanaaGreatDoor
open Go.RowKit
set_option linter.unusedVariables false

/-! Types. -/
namespace TyDS4

end TyDS4
open TyDS4


variable {α : Type}
def SortedOn (cmp : α → α → Int) (c : List (α × Nat)) (a b : Nat) : Prop := ∀ i j x y, a ≤ i → i < j → j < b → c[i]? = some x → c[j]? = some y → tlt cmp x y
theorem split3 (c : List α) {a b : Nat} (hab : a ≤ b) : c = c.take a ++ ((c.drop a).take (b - a) ++ c.drop b) := by
  rw [show c.drop b = (c.drop a).drop (b - a) by rw [List.drop_drop]; congr 1; omega, List.take_append_drop, List.take_append_drop]
theorem seg_get (c : List α) {a b p : Nat} (hp : p < b - a) : ((c.drop a).take (b - a))[p]? = c[a + p]? := by rw [List.getElem?_take, if_pos hp, List.getElem?_drop]
theorem seg_pairwise {cmp : α → α → Int} {c : List (α × Nat)} {a b : Nat} (hs : SortedOn cmp c a b) : ((c.drop a).take (b - a)).Pairwise (tlt cmp) := by
  rw [List.pairwise_iff_getElem]
  intro i j hi hj hij
  have hi2 : i < b - a := by rw [List.length_take] at hi; omega
  have hj2 : j < b - a := by rw [List.length_take] at hj; omega
  refine hs (a + i) (a + j) _ _ (by omega) (by omega) (by omega) ?_ ?_
  · rw [← seg_get c hi2]; exact List.getElem?_eq_getElem hi
  · rw [← seg_get c hj2]; exact List.getElem?_eq_getElem hj
theorem sortSeg_eq {cmp : α → α → Int} (h : PreC cmp) {l c : List (α × Nat)} {a b : Nat} (hab : a ≤ b) (ht : TagsOk l) (hp : c.Perm l) (hout : ∀ p, p < a ∨ b ≤ p → c[p]? = l[p]?) (hs : SortedOn cmp c a b) : c = sortSeg cmp l a b := by
  have e1 : c.take a = l.take a := List.ext_getElem? fun p => by
    rw [List.getElem?_take, List.getElem?_take]
    by_cases hp : p < a
    · rw [if_pos hp, if_pos hp, hout p (.inl hp)]
    · rw [if_neg hp, if_neg hp]
  have e2 : c.drop b = l.drop b := List.ext_getElem? fun p => by
    rw [List.getElem?_drop, List.getElem?_drop, hout _ (.inr (by omega))]
  have hperm : ((c.drop a).take (b - a)).Perm ((l.drop a).take (b - a)) := by
    have hp2 := hp
    rw [split3 c hab, split3 l hab, e1, e2, List.perm_append_left_iff, List.perm_append_right_iff] at hp2
    exact hp2
  have ht2 : TagsOk ((l.drop a).take (b - a)) := by
    unfold TagsOk at *
    exact (ht.sublist (((List.take_sublist _ _).trans (List.drop_sublist _ _)).map _))
  have hm := mergeSort_tlt h ht2
  have e3 := sorted_unique h (hperm.trans (List.mergeSort_perm _ (tle cmp)).symm) (seg_pairwise hs) hm
  unfold sortSeg
  rw [← e3, ← e1, ← e2]
  exact split3 c hab
theorem sortSeg_perm (cmp : α → α → Int) (l : List (α × Nat)) {a b : Nat} (hab : a ≤ b) : (sortSeg cmp l a b).Perm l := by
  unfold sortSeg
  have : (l.take a ++ ((l.drop a).take (b - a) ++ l.drop b)).Perm l := by rw [← split3 l hab]
  refine List.Perm.trans ?_ this
  rw [List.perm_append_left_iff, List.perm_append_right_iff]
  exact List.mergeSort_perm _ _
theorem sortSeg_len (cmp : α → α → Int) (l : List (α × Nat)) {a b : Nat} (hab : a ≤ b) : (sortSeg cmp l a b).length = l.length := (sortSeg_perm cmp l hab).length_eq
theorem sortSeg_get (cmp : α → α → Int) (l : List (α × Nat)) {a b : Nat} (hab : a ≤ b) (hb : b ≤ l.length) (p : Nat) : (sortSeg cmp l a b)[p]? = if p < a then l[p]? else if p < b then (((l.drop a).take (b - a)).mergeSort (tle cmp))[p - a]? else l[p]? := by
  unfold sortSeg
  have e1 : (l.take a).length = a := by rw [List.length_take]; omega
  have e2 : (((l.drop a).take (b - a)).mergeSort (tle cmp)).length = b - a := by rw [List.length_mergeSort, List.length_take, List.length_drop]; omega
  by_cases c1 : p < a
  · rw [if_pos c1, List.getElem?_append_left (by omega), List.getElem?_take, if_pos c1]
  · rw [if_neg c1, List.getElem?_append_right (by omega), e1]
    by_cases c2 : p < b
    · rw [if_pos c2, List.getElem?_append_left (by omega)]
    · rw [if_neg c2, List.getElem?_append_right (by omega), e2, List.getElem?_drop]
      congr 1; omega
theorem sortSeg_out (cmp : α → α → Int) (l : List (α × Nat)) {a b : Nat} (hab : a ≤ b) (hb : b ≤ l.length) (p : Nat) (hp : p < a ∨ b ≤ p) : (sortSeg cmp l a b)[p]? = l[p]? := by
  rw [sortSeg_get cmp l hab hb]
  rcases hp with hp | hp
  · rw [if_pos hp]
  · rw [if_neg (by omega), if_neg (by omega)]
theorem sortSeg_sorted {cmp : α → α → Int} (h : PreC cmp) {l : List (α × Nat)} {a b : Nat} (hab : a ≤ b) (hb : b ≤ l.length) (ht : TagsOk l) : SortedOn cmp (sortSeg cmp l a b) a b := by
  have ht2 : TagsOk ((l.drop a).take (b - a)) := by
    unfold TagsOk at *
    exact (ht.sublist (((List.take_sublist _ _).trans (List.drop_sublist _ _)).map _))
  have hm := List.pairwise_iff_getElem.1 (mergeSort_tlt h ht2)
  intro i j x y hi hij hj hx hy
  rw [sortSeg_get cmp l hab hb, if_neg (by omega), if_pos (by omega)] at hx hy
  obtain ⟨h1, e1⟩ := List.getElem?_eq_some_iff.1 hx
  obtain ⟨h2, e2⟩ := List.getElem?_eq_some_iff.1 hy
  have := hm (i - a) (j - a) h1 h2 (by omega)
  rw [e1, e2] at this
  exact this
theorem TagsOk.perm {l r : List (α × Nat)} (h : TagsOk l) (hp : r.Perm l) : TagsOk r := (hp.map Prod.snd).nodup_iff.2 h
theorem sw_perm {l : List α} {i j : Nat} : (sw l i j).Perm l := by
  unfold sw
  split
  · rename_i x y hx hy
    obtain ⟨h1, e1⟩ := List.getElem?_eq_some_iff.1 hx
    obtain ⟨h2, e2⟩ := List.getElem?_eq_some_iff.1 hy
    rw [← e1, ← e2]
    exact List.set_set_perm h1 h2
  · exact List.Perm.refl _
theorem rotl_perm {l : List α} {a m b : Nat} (h1 : a ≤ m) (h2 : m ≤ b) : (rotl l a m b).Perm l := by
  unfold rotl
  have e : l = l.take a ++ ((l.drop a).take (m - a) ++ ((l.drop m).take (b - m) ++ l.drop b)) := by
    rw [show (l.drop m).take (b - m) ++ l.drop b = l.drop m from (by rw [show l.drop b = (l.drop m).drop (b - m) by rw [List.drop_drop]; congr 1; omega, List.take_append_drop])]
    exact split3 l h1
  conv => rhs; rw [e]
  rw [List.perm_append_left_iff, ← List.append_assoc, ← List.append_assoc, List.perm_append_right_iff]
  exact List.perm_append_comm


end Go.Proofs.YtgldfnkbpopanaaGreatDoor


namespace Go.Proofs.YtgldfnkbpopanaaGreatDoor
open Go.RowKit
set_option linter.unusedVariables false

/-! Types. -/
namespace TyDS5

end TyDS5
open TyDS5


variable {α : Type}
/-- After i elements of the insertion sort of a to b. -/
structure Ins (cmp : α → α → Int) (l : List (α × Nat)) (a b : Nat) (c : List (α × Nat)) (i : Nat) : Prop where
  perm : c.Perm l
  out : ∀ p, p < a ∨ i ≤ p → c[p]? = l[p]?
  sorted : SortedOn cmp c a i
  tags : ∀ p x q z, a ≤ p → p < i → i ≤ q → q < b → c[p]? = some x → l[q]? = some z → x.2 < z.2
/-- The element i is on its way down, at j. -/
structure InsJ (cmp : α → α → Int) (l : List (α × Nat)) (a b : Nat) (c : List (α × Nat)) (i j : Nat) : Prop where
  perm : c.Perm l
  out : ∀ p, p < a ∨ i < p → c[p]? = l[p]?
  aj : a ≤ j
  ji : j ≤ i
  at_ : c[j]? = l[i]?
  sorted : ∀ p q x y, a ≤ p → p < q → q ≤ i → q ≠ j → c[p]? = some x → c[q]? = some y → tlt cmp x y
  tags : ∀ p x q z, a ≤ p → p ≤ i → p ≠ j → i ≤ q → q < b → c[p]? = some x → l[q]? = some z → x.2 < z.2
def Incr (l : List (α × Nat)) (a b : Nat) : Prop := ∀ i j x y, a ≤ i → i < j → j < b → l[i]? = some x → l[j]? = some y → x.2 < y.2
theorem Ins.start {cmp : α → α → Int} {l : List (α × Nat)} {a b : Nat} (h : Incr l a b) : Ins cmp l a b l (a + 1) :=
  ⟨List.Perm.refl _, fun _ _ => rfl, fun i j x y h1 h2 h3 => by omega, fun p x q z h1 h2 h3 h4 h5 h6 => h p q x z h1 (by omega) h4 h5 h6⟩
theorem Ins.down {cmp : α → α → Int} {l c : List (α × Nat)} {a b i : Nat} (h : Ins cmp l a b c i) (hai : a < i) : InsJ cmp l a b c i i :=
  ⟨h.perm, fun p hp => h.out p (by omega), by omega, Nat.le_refl _, h.out i (.inr (Nat.le_refl _)), fun p q x y h1 h2 h3 h4 => h.sorted p q x y h1 h2 (by omega), fun p x q z h1 h2 h3 h4 h5 => h.tags p x q z h1 (by omega) h4 h5⟩
theorem InsJ.step {cmp : α → α → Int} {l c : List (α × Nat)} {a b i j : Nat} (h : InsJ cmp l a b c i j) (haj : a < j) (hil : i < c.length) {x y : α × Nat} (hx : c[j]? = some x) (hy : c[j - 1]? = some y) (hlt : tlt cmp x y) : InsJ cmp l a b (sw c j (j - 1)) i (j - 1) := by
  have hji := h.ji
  have g := fun p => swD_get (l := c) (i := j) (j := j - 1) (by omega) (by omega) p
  refine ⟨sw_perm.trans h.perm, fun p hp => ?_, by omega, by omega, ?_, fun p q u v h1 h2 h3 h4 hu hv => ?_, fun p u q z h1 h2 h3 h4 h5 hu hz => ?_⟩
  · rw [g, if_neg (by omega), if_neg (by omega)]; exact h.out p hp
  · rw [g, if_pos rfl]; exact h.at_
  · rw [g] at hu hv
    rw [if_neg h4] at hv
    by_cases e1 : q = j
    · rw [if_pos e1, hy] at hv
      cases hv
      by_cases e2 : p = j - 1
      · rw [if_pos e2, hx] at hu; cases hu; exact hlt
      · rw [if_neg e2, if_neg (by omega)] at hu
        exact h.sorted p (j - 1) _ _ h1 (by omega) (by omega) (by omega) hu hy
    · rw [if_neg e1] at hv
      by_cases e2 : p = j - 1
      · rw [if_pos e2] at hu
        exact h.sorted j q _ _ (by omega) (by omega) h3 e1 hu hv
      · rw [if_neg e2] at hu
        by_cases e3 : p = j
        · rw [if_pos e3] at hu
          exact h.sorted (j - 1) q _ _ (by omega) (by omega) h3 e1 hu hv
        · rw [if_neg e3] at hu
          exact h.sorted p q _ _ h1 h2 h3 e1 hu hv
  · rw [g, if_neg h3] at hu
    by_cases e1 : p = j
    · rw [if_pos e1] at hu
      exact h.tags (j - 1) u q z (by omega) (by omega) (by omega) h4 h5 hu hz
    · rw [if_neg e1] at hu
      exact h.tags p u q z h1 h2 e1 h4 h5 hu hz
theorem InsJ.done {cmp : α → α → Int} (hc : PreC cmp) {l c : List (α × Nat)} {a b i j : Nat} (h : InsJ cmp l a b c i j) (hinc : Incr l a b) (hib : i < b) (hil : b ≤ l.length)
    (hstop : j = a ∨ ∃ x y, c[j]? = some x ∧ c[j - 1]? = some y ∧ ¬ cmp x.1 y.1 < 0) : Ins cmp l a b c (i + 1) := by
  have hji := h.ji
  have haj := h.aj
  refine ⟨h.perm, fun p hp => h.out p (by omega), fun p q x y h1 h2 h3 hx hy => ?_, fun p x q z h1 h2 h3 h4 hx hz => ?_⟩
  · by_cases e : q = j
    · subst e
      rcases hstop with h4 | ⟨u, v, hu, hv, hn⟩
      · omega
      · rw [hy] at hu; cases hu
        have hti : tlt cmp v y := by
          refine .inr ⟨by omega, ?_⟩
          have hz := h.at_
          rw [hy] at hz
          exact h.tags (q - 1) v i y (by omega) (by omega) (by omega) (Nat.le_refl _) hib hv hz.symm
        by_cases e2 : p = q - 1
        · subst e2; rw [hx] at hv; cases hv; exact hti
        · exact tlt_trans hc (h.sorted p (q - 1) x v h1 (by omega) (by omega) (by omega) hx hv) hti
    · exact h.sorted p q x y h1 h2 (by omega) e hx hy
  · by_cases e : p = j
    · subst e
      have hz2 := h.at_
      rw [hx] at hz2
      exact hinc i q x z (by omega) (by omega) h4 hz2.symm hz
    · exact h.tags p x q z h1 (by omega) e (by omega) h4 hx hz


end Go.Proofs.YtgldfnkbpopanaaGreatDoor


namespace Go.Proofs.YtgldfnkbpopanaaGreatDoor
open Go.RowKit
set_option linter.unusedVariables false

/-! Types. -/
namespace TyDS6
theorem ag_73 : AggT Tryz.prog 73 2 := .of (by kernel_rfl)
theorem et_26 : ElemTy Tryz.prog 26 73 2 16 (.agg #[(.int .i64 0), (.bool false)]) := ⟨by kernel_rfl, by kernel_rfl, by kernel_rfl, by decide⟩
theorem sz_73 : ∀ w, (sizeOf 73).run Tryz.prog w = .ok 2 w := SizeT.of (by kernel_rfl)
end TyDS6
open TyDS6


theorem ins_end {α : Type} {cmp : α → α → Int} (hc : PreC cmp) {l c : List (α × Nat)} {a b i : Nat} (ht : TagsOk l) (hab : a ≤ b) (h : Ins cmp l a b c i) (hi : b ≤ i) (h2 : i ≤ b ∨ (c = l ∧ b ≤ a)) : c = sortSeg cmp l a b := by
  by_cases h3 : i ≤ b
  · have : i = b := by omega
    subst this
    exact sortSeg_eq hc hab ht h.perm h.out h.sorted
  · obtain ⟨h4, h5⟩ := h2.resolve_left h3
    exact sortSeg_eq hc hab ht h.perm (fun p _ => by rw [h4]) (fun p q x y h6 h7 h8 => by omega)


set_option maxRecDepth 100000 in
set_option maxHeartbeats 1000000 in
theorem c_insSort (l : List (Dsp × Nat)) (a b : Nat) (cmp : Dsp → Dsp → Int) (hc : PreC cmp) (f : Nat) (caps : List D) (hf : ∀ x y : Dsp, ACall Tryz.prog f (.agg x.ds :: .agg y.ds :: caps) (.v (.int .i64 (cmp x y)))) (ht : TagsOk l) (hinc : Incr l a b) (hab : a ≤ b) (hb : b ≤ l.length) (hl : l.length ≤ 4611686018427387904) : RCall Tryz.prog 116 73 2 (l.map tds) ((sortSeg cmp l a b).map tds) [.v (.int .i64 a), .v (.int .i64 b), .clo (.func f) caps] (.tup []) := by
  refine RCall.of1 (chg := fun i => Nat.ble 1000 i) (xcall_of (n := 53) (ds' := []) Tryz.func116 rfl (by kernel_rfl) rfl [] rfl rfl ?_) rfl
  intro B w0 F0 fr ρ0
  refine AWP.seq (AWP.region ?_)
  refine AOps.mA ?_
  refine AOps.sA (AOp.add64 rfl rfl rfl (by omega) (by omega)) ?_
  refine AOps.aA (.nil ?_)
  refine AWP.block ?_
  refine AWP.loop (G := List (Dsp × Nat) × Nat) (fun g => Env.of [(8, .d (.v (.int .i64 (g.2 : Int)))), (0, .own 1), (1, .d (.v (.int .i64 a))), (2, .d (.v (.int .i64 b))), (3, .d (.clo (.func f) caps))]) (fun g => [(1, .row 73 2 (g.1.map tds))]) (fun g => Ins cmp l a b g.1 g.2 ∧ a < g.2 ∧ (g.2 ≤ b ∨ (g.1 = l ∧ b ≤ a))) (fun g => b - g.2) (l, a + 1) ⟨Ins.start hinc, by dsimp only; omega, by dsimp only; by_cases h : a + 1 ≤ b; exact .inl h; exact .inr ⟨rfl, by omega⟩⟩ (Sub.less ⟨(SLe.i64 (by dsimp only; omega)), SLe.refl _, SLe.refl _, SLe.refl _, SLe.refl _, trivial⟩ (row_same rfl)) ?_
  rintro ⟨c0, i⟩ ⟨hI, hai, hie⟩
  dsimp only at hI hai hie ⊢
  refine AWP.seq ?_
  refine AWP.seq (AWP.region ?_)
  refine AOps.mA ?_
  refine AOps.mA ?_
  refine AOps.sA (AOp.lss rfl rfl rfl) (.nil ?_)
  refine AWP.cond rfl (fun h1 => ?_) (fun h1 => ?_)
  · replace h1 := of_decide_eq_true h1
    have hib : i < b := by omega
    refine AWP.skip ?_
    refine AWP.seq ?_
    refine AWP.block ?_
    refine AWP.seq (AWP.region ?_)
    refine AOps.mA ?_
    refine AOps.aA (.nil ?_)
    refine AWP.block ?_
    refine AWP.loop (G := List (Dsp × Nat) × Nat) (fun g => Env.of [(9, .d (.v (.int .i64 (g.2 : Int)))), (8, .d (.v (.int .i64 (i : Int)))), (0, .own 1), (1, .d (.v (.int .i64 a))), (2, .d (.v (.int .i64 b))), (3, .d (.clo (.func f) caps))]) (fun g => [(1, .row 73 2 (g.1.map tds))]) (fun g => InsJ cmp l a b g.1 i g.2) (fun g => g.2) (c0, i) (hI.down hai) (Sub.less ⟨(SLe.i64 rfl), SLe.refl _, SLe.refl _, SLe.refl _, SLe.refl _, SLe.refl _, trivial⟩ (row_same rfl)) ?_
    rintro ⟨c, j⟩ hj
    dsimp only at hj ⊢
    have hcl := hj.perm.length_eq
    have hji := hj.ji
    have haj := hj.aj
    refine AWP.seq ?_
    refine AWP.seq ?_
    refine AWP.draw (by kernel_rfl) (by kernel_rfl) ?_
    refine DRun.sA (AOp.moveD rfl rfl) ?_
    refine DRun.sA (AOp.moveD rfl rfl) ?_
    refine DRun.sA (AOp.gtr rfl rfl rfl) ?_
    refine DRun.sA (AOp.moveD rfl rfl) ?_
    refine DRun.split 21 rfl (fun g2 => ?_) (fun g2 => ?_)
    · replace g2 := of_decide_eq_true g2
      have hja : a < j := by omega
      have hjc : j < c.length := by omega
      refine DRun.sG (AOp.moveD rfl rfl) ?_
      refine DRun.sG (AOp.moveO rfl rfl) ?_
      refine DRun.sG (AOp.moveD rfl rfl) ?_
      refine DRun.sG (AOp.indexOwn rfl et_26 rfl rfl (.head _) j rfl (by rw [List.length_map]; omega)) ?_
      refine DRun.sG (AOp.loadRowAgg rfl ag_73 rfl (.head _) j rfl (at_list hjc)) ?_
      refine DRun.sG (AOp.moveO rfl rfl) ?_
      refine DRun.sG (AOp.moveD rfl rfl) ?_
      refine DRun.sG (AOp.sub64 rfl rfl rfl (by omega) (by omega)) ?_
      refine DRun.sG (AOp.indexOwn rfl et_26 rfl rfl (.head _) (j - 1) (by omega) (by rw [List.length_map]; omega)) ?_
      refine DRun.sG (AOp.loadRowAgg rfl ag_73 rfl (.head _) (j - 1) rfl (at_list (by omega))) ?_
      refine DRun.sG (AOp.callClo rfl rfl (.cons (ArgOk.rfl' rfl) (.cons (ArgOk.rfl' rfl) .nil)) (hf (c[j]'hjc).1 (c[j-1]'(by omega)).1)) ?_
      refine DRun.sG (AOp.lss rfl rfl rfl) ?_
      refine DRun.sA (AOp.pickT rfl rfl rfl) ?_
      refine DRun.nil ?_
      refine AWP.cond rfl (fun h3 => ?_) (fun h3 => ?_)
      · replace h3 := of_decide_eq_true h3
        have HS := hj.step hja (by omega) (List.getElem?_eq_getElem hjc) (List.getElem?_eq_getElem (by omega)) (.inl h3)
        refine AWP.skip ?_
        refine AWP.seq ?_
        refine AWP.block ?_
        refine AWP.drawG (fun k => (Nat.beq k 15 || Nat.beq k 17) || (Nat.beq k 8 || Nat.beq k 9 || Nat.beq k 12 || Nat.beq k 13 || Nat.beq k 14 || Nat.beq k 16)) (fun k => Nat.beq k 15 || Nat.beq k 17) (fun k h => Bool.or_eq_true_iff.2 (.inl h)) (by kernel_rfl) (by kernel_rfl) (by kernel_rfl) ?_
        refine GRun.step rfl rfl rfl (fun _ => AOp.moveO rfl rfl) ?_
        refine GRun.step rfl rfl rfl (fun _ => AOp.moveD rfl rfl) ?_
        refine GRun.step rfl rfl rfl (fun _ => AOp.moveO rfl rfl) ?_
        refine GRun.step rfl rfl rfl (fun _ => AOp.moveD rfl rfl) ?_
        refine GRun.step rfl rfl rfl (fun _ => AOp.sub64 rfl rfl rfl (by omega) (by omega)) ?_
        refine GRun.step rfl rfl rfl (fun _ => AOp.moveO rfl rfl) ?_
        refine GRun.step rfl rfl rfl (fun _ => AOp.moveD rfl rfl) ?_
        refine GRun.step rfl rfl rfl (fun _ => AOp.sub64 rfl rfl rfl (by omega) (by omega)) ?_
        refine GRun.stepS rfl rfl rfl rfl (AOp.indexOwn rfl et_26 rfl rfl (.head _) (j - 1) (by omega) (by rw [List.length_map]; omega)) ?_
        refine GRun.stepS rfl rfl rfl rfl (AOp.loadRowAgg rfl ag_73 rfl (.head _) (j - 1) rfl (at_list (by omega))) ?_
        refine GRun.step rfl rfl rfl (fun _ => AOp.moveO rfl rfl) ?_
        refine GRun.step rfl rfl rfl (fun _ => AOp.moveD rfl rfl) ?_
        refine GRun.stepS rfl rfl rfl rfl (AOp.indexOwn rfl et_26 rfl rfl (.head _) j rfl (by rw [List.length_map]; omega)) ?_
        refine GRun.stepS rfl rfl rfl rfl (AOp.loadRowAgg rfl ag_73 rfl (.head _) j rfl (at_list hjc)) ?_
        refine GRun.stepS rfl rfl rfl rfl (AOp.indexOwn rfl et_26 rfl rfl (.head _) j rfl (by rw [List.length_map]; omega)) ?_
        refine GRun.eff rfl rfl rfl (EOp.storeRow rfl rfl sz_73 rfl (.head _) rfl rfl rfl j 0 rfl (at_list hjc) (Nat.le_of_ble_eq_true rfl)) ?_
        refine GRun.stepS rfl rfl rfl rfl (AOp.indexOwn rfl et_26 rfl rfl (.head _) (j - 1) (by omega) (by rw [List.length_set, List.length_map]; omega)) ?_
        refine GRun.eff rfl rfl rfl (EOp.storeRow rfl rfl sz_73 rfl (.head _) rfl rfl rfl (j - 1) 0 rfl (List.getElem?_eq_getElem (by rw [List.length_set, List.length_map]; omega)) (Nat.le_of_ble_eq_true rfl)) ?_
        refine GRun.nil ?_
        refine AWP.region ?_
        refine AOps.mA ?_
        refine AOps.sA (AOp.sub64 rfl rfl rfl (by omega) (by omega)) ?_
        refine AOps.aA (.nil ?_)
        refine ⟨(sw c j (j - 1), j - 1), HS, (by dsimp only; omega), Sub.less ⟨(SLe.i64 (by dsimp only; omega)), SLe.refl _, SLe.refl _, SLe.refl _, SLe.refl _, SLe.refl _, trivial⟩ (row_same (row_swap (enc := tds) (size := 2) (cur := c) (i := j) (j := j - 1) (fun _ => rfl) hjc (by omega) rfl (List.getElem?_eq_getElem (by rw [List.length_set, List.length_map]; omega))))⟩
      replace h3 := of_decide_eq_false h3
      have HD := hj.done hc hinc hib hb (.inr ⟨_, _, List.getElem?_eq_getElem hjc, List.getElem?_eq_getElem (by omega), h3⟩)
      refine AWP.exit ?_
      refine AWP.region ?_
      refine AOps.mA ?_
      refine AOps.sA (AOp.add64 rfl rfl rfl (by omega) (by omega)) ?_
      refine AOps.aA (.nil ?_)
      refine ⟨(c, i + 1), ⟨HD, by dsimp only; omega, .inl hib⟩, (by dsimp only; omega), Sub.less ⟨(SLe.i64 (by dsimp only; omega)), SLe.refl _, SLe.refl _, SLe.refl _, SLe.refl _, trivial⟩ (row_same rfl)⟩
    replace g2 := of_decide_eq_false g2
    have HD := hj.done hc hinc hib hb (.inl (by omega))
    refine DRun.pA ?_
    refine DRun.pA ?_
    refine DRun.pA ?_
    refine DRun.pA ?_
    refine DRun.pA ?_
    refine DRun.pA ?_
    refine DRun.pA ?_
    refine DRun.pA ?_
    refine DRun.pA ?_
    refine DRun.pA ?_
    refine DRun.pA ?_
    refine DRun.pA ?_
    refine DRun.sA (AOp.pickF rfl rfl rfl) ?_
    refine DRun.nil ?_
    refine AWP.cond rfl (fun h => nomatch h) (fun _ => ?_)
    refine AWP.exit ?_
    refine AWP.region ?_
    refine AOps.mA ?_
    refine AOps.sA (AOp.add64 rfl rfl rfl (by omega) (by omega)) ?_
    refine AOps.aA (.nil ?_)
    refine ⟨(c, i + 1), ⟨HD, by dsimp only; omega, .inl hib⟩, (by dsimp only; omega), Sub.less ⟨(SLe.i64 (by dsimp only; omega)), SLe.refl _, SLe.refl _, SLe.refl _, SLe.refl _, trivial⟩ (row_same rfl)⟩
  replace h1 := of_decide_eq_false h1
  have HF := ins_end hc ht hab hI (by omega) hie
  refine AWP.exit ?_
  refine ⟨trivial, ⟨mem_row_eq (.head _) ?_, trivial⟩⟩
  all_goals (rw [HF])

end Go.Proofs.YtgldfnkbpopanaaGreatDoor


namespace Go.Proofs.YtgldfnkbpopanaaGreatDoor
open Go.RowKit
set_option linter.unusedVariables false

/-! Types. -/
namespace TyDS7

end TyDS7
open TyDS7


variable {α : Type}
/-- The tags of the first run lie below those of the second one. -/
def Cross (l : List (α × Nat)) (a m b : Nat) : Prop := ∀ i j x y, a ≤ i → i < m → m ≤ j → j < b → l[i]? = some x → l[j]? = some y → x.2 < y.2
theorem at_some (l : List α) {i : Nat} (h : i < l.length) : l[i]? = some l[i] := List.getElem?_eq_getElem h
theorem cross_ge {cmp : α → α → Int} {x y : α × Nat} (ht : x.2 < y.2) (h : ¬ cmp y.1 x.1 < 0) : tlt cmp x y := .inr ⟨by omega, ht⟩
theorem sortSeg_mem {cmp : α → α → Int} {l : List (α × Nat)} {a b : Nat} (hab : a ≤ b) (hb : b ≤ l.length) {p : Nat} (h1 : a ≤ p) (h2 : p < b) {x : α × Nat} (h : (sortSeg cmp l a b)[p]? = some x) : ∃ q, a ≤ q ∧ q < b ∧ l[q]? = some x := by
  rw [sortSeg_get cmp l hab hb, if_neg (by omega), if_pos h2] at h
  have h3 := List.mem_mergeSort.1 (List.mem_of_getElem? h)
  obtain ⟨k, hk, e⟩ := List.mem_iff_getElem.1 h3
  have hk2 : k < b - a := by rw [List.length_take] at hk; omega
  refine ⟨a + k, by omega, by omega, ?_⟩
  rw [← seg_get l hk2, List.getElem?_eq_getElem hk, e]
theorem rotl_id1 {l : List α} {m b : Nat} (h : m ≤ b) : rotl l m m b = l := by
  unfold rotl
  rw [Nat.sub_self, List.take_zero, List.nil_append]
  exact (split3 l h).symm
theorem rotl_id2 {l : List α} {a m : Nat} (h : a ≤ m) : rotl l a m m = l := by
  unfold rotl
  rw [Nat.sub_self, List.take_zero, List.nil_append]
  exact (split3 l h).symm
/-- What the binary search has found. -/
structure Cut (cmp : α → α → Int) (l : List (α × Nat)) (a m b s e : Nat) : Prop where
  has : a ≤ s
  sm : s ≤ m
  me : m ≤ e
  eb : e ≤ b
  low : ∀ i j x y, a ≤ i → i < s → e ≤ j → j < b → l[i]? = some x → l[j]? = some y → tlt cmp x y
  high : ∀ i j x y, s ≤ i → i < m → m ≤ j → j < e → l[i]? = some x → l[j]? = some y → tlt cmp y x
theorem cut_merge {cmp : α → α → Int} (hc : PreC cmp) {l : List (α × Nat)} {a m b s e : Nat} (ht : TagsOk l) (hb : b ≤ l.length) (h1 : SortedOn cmp l a m) (h2 : SortedOn cmp l m b) (hx : Cross l a m b) (hcut : Cut cmp l a m b s e) :
    SortedOn cmp (rotl l s m e) a s ∧ SortedOn cmp (rotl l s m e) s (s + (e - m)) ∧ Cross (rotl l s m e) a s (s + (e - m)) ∧
    SortedOn cmp (sortSeg cmp (rotl l s m e) a (s + (e - m))) (s + (e - m)) e ∧ SortedOn cmp (sortSeg cmp (rotl l s m e) a (s + (e - m))) e b ∧ Cross (sortSeg cmp (rotl l s m e) a (s + (e - m))) (s + (e - m)) e b ∧
    sortSeg cmp (sortSeg cmp (rotl l s m e) a (s + (e - m))) (s + (e - m)) b = sortSeg cmp l a b := by
  obtain ⟨has, sm, me, eb, low, high⟩ := hcut
  have g := fun p => rotl_get (l := l) sm me (by omega) p
  have hrl : (rotl l s m e).length = l.length := rotl_len sm me (by omega)
  have hrp : (rotl l s m e).Perm l := rotl_perm sm me
  have k1 : SortedOn cmp (rotl l s m e) a s := fun i j x y q1 q2 q3 hi hj => by
    rw [g, if_pos (by omega)] at hi hj
    exact h1 i j x y q1 q2 (by omega) hi hj
  have k2 : SortedOn cmp (rotl l s m e) s (s + (e - m)) := fun i j x y q1 q2 q3 hi hj => by
    rw [g, if_neg (by omega), if_pos (by omega)] at hi hj
    exact h2 _ _ x y (by omega) (by omega) (by omega) hi hj
  have k3 : Cross (rotl l s m e) a s (s + (e - m)) := fun i j x y q1 q2 q3 q4 hi hj => by
    rw [g, if_pos (by omega)] at hi
    rw [g, if_neg (by omega), if_pos (by omega)] at hj
    exact hx _ _ x y q1 (by omega) (by omega) (by omega) hi hj
  have hlr : ∀ p q x y, a ≤ p → p < s + (e - m) → s + (e - m) ≤ q → q < b → (rotl l s m e)[p]? = some x → (rotl l s m e)[q]? = some y → tlt cmp x y := fun p q x y q1 q2 q3 q4 hp hq => by
    rw [g] at hp hq
    rw [if_neg (by omega), if_neg (by omega)] at hq
    by_cases c1 : p < s
    · rw [if_pos c1] at hp
      by_cases c2 : q < e
      · rw [if_pos c2] at hq; exact h1 _ _ x y q1 (by omega) (by omega) hp hq
      · rw [if_neg c2] at hq; exact low _ _ x y q1 c1 (by omega) q4 hp hq
    · rw [if_neg c1, if_pos q2] at hp
      by_cases c2 : q < e
      · rw [if_pos c2] at hq; exact high _ _ y x (by omega) (by omega) (by omega) (by omega) hq hp
      · rw [if_neg c2] at hq; exact h2 _ _ x y (by omega) (by omega) q4 hp hq
  have hm1 : a ≤ s + (e - m) := by omega
  have hm2 : s + (e - m) ≤ b := by omega
  have so := fun p hp => sortSeg_out cmp (rotl l s m e) hm1 (by rw [hrl]; omega) p hp
  have k4 : SortedOn cmp (sortSeg cmp (rotl l s m e) a (s + (e - m))) (s + (e - m)) e := fun i j x y q1 q2 q3 hi hj => by
    rw [so _ (by omega), g, if_neg (by omega), if_neg (by omega), if_pos (by omega)] at hi hj
    exact h1 _ _ x y (by omega) (by omega) (by omega) hi hj
  have k5 : SortedOn cmp (sortSeg cmp (rotl l s m e) a (s + (e - m))) e b := fun i j x y q1 q2 q3 hi hj => by
    rw [so _ (by omega), g, if_neg (by omega), if_neg (by omega), if_neg (by omega)] at hi hj
    exact h2 _ _ x y (by omega) q2 q3 hi hj
  have k6 : Cross (sortSeg cmp (rotl l s m e) a (s + (e - m))) (s + (e - m)) e b := fun i j x y q1 q2 q3 q4 hi hj => by
    rw [so _ (by omega), g, if_neg (by omega), if_neg (by omega), if_pos (by omega)] at hi
    rw [so _ (by omega), g, if_neg (by omega), if_neg (by omega), if_neg (by omega)] at hj
    exact hx _ _ x y (by omega) (by omega) (by omega) q4 hi hj
  refine ⟨k1, k2, k3, k4, k5, k6, ?_⟩
  have ht1 : TagsOk (rotl l s m e) := ht.perm hrp
  have hl1 : (sortSeg cmp (rotl l s m e) a (s + (e - m))).length = l.length := by rw [sortSeg_len cmp _ hm1, hrl]
  have ht2 : TagsOk (sortSeg cmp (rotl l s m e) a (s + (e - m))) := ht1.perm (sortSeg_perm cmp _ hm1)
  have so2 := fun p hp => sortSeg_out cmp (sortSeg cmp (rotl l s m e) a (s + (e - m))) hm2 (by rw [hl1]; omega) p hp
  refine sortSeg_eq hc (by omega) ht ((sortSeg_perm cmp _ hm2).trans ((sortSeg_perm cmp _ hm1).trans hrp)) (fun p hp => ?_) (fun p q x y q1 q2 q3 hp hq => ?_)
  · rw [so2 p (by omega), so p (by omega), g]
    rcases hp with hp | hp
    · rw [if_pos (by omega)]
    · rw [if_neg (by omega), if_neg (by omega), if_neg (by omega)]
  · by_cases c1 : s + (e - m) ≤ p
    · exact sortSeg_sorted hc hm2 (by rw [hl1]; omega) ht2 p q x y c1 q2 q3 hp hq
    · rw [so2 p (.inl (by omega))] at hp
      by_cases c2 : q < s + (e - m)
      · rw [so2 q (.inl c2)] at hq
        exact sortSeg_sorted hc hm1 (by rw [hrl]; omega) ht1 p q x y q1 q2 c2 hp hq
      · obtain ⟨p', u1, u2, u3⟩ := sortSeg_mem hm1 (by rw [hrl]; omega) q1 (by omega) hp
        obtain ⟨q', v1, v2, v3⟩ := sortSeg_mem hm2 (by rw [hl1]; omega) (by omega) q3 hq
        rw [so q' (.inr v1)] at v3
        exact hlr p' q' x y u1 u2 v1 v2 u3 v3


end Go.Proofs.YtgldfnkbpopanaaGreatDoor


namespace Go.Proofs.YtgldfnkbpopanaaGreatDoor
open Go.RowKit
set_option linter.unusedVariables false

/-! Types. -/
namespace TyDS8

end TyDS8
open TyDS8


variable {α : Type}
theorem rot_up {l : List α} {a k : Nat} (h : a ≤ k) (hk : k + 1 < l.length) : sw (rotl l a (a + 1) (k + 1)) k (k + 1) = rotl l a (a + 1) (k + 2) := by
  apply List.ext_getElem?
  intro p
  have hl : (rotl l a (a + 1) (k + 1)).length = l.length := rotl_len (by omega) (by omega) (by omega)
  rw [swD_get (by omega) (by omega), rotl_get (by omega) (by omega) (by omega) p, rotl_get (by omega) (by omega) (by omega) k, rotl_get (by omega) (by omega) (by omega) (k + 1), rotl_get (by omega) (by omega) (by omega) p]
  by_cases c1 : p = k + 1
  · rw [if_pos c1, if_neg (by omega), if_neg (by omega), if_pos (by omega), if_neg (by omega), if_neg (by omega), if_pos (by omega)]
    congr 1; omega
  · rw [if_neg c1]
    by_cases c2 : p = k
    · rw [if_pos c2, if_neg (by omega), if_neg (by omega), if_neg (by omega), if_neg (by omega), if_pos (by omega)]
      congr 1; omega
    · rw [if_neg c2]
      by_cases c3 : p < a
      · rw [if_pos c3, if_pos c3]
      · rw [if_neg c3, if_neg c3]
        by_cases c4 : p < k
        · rw [if_pos (by omega), if_pos (by omega)]
        · rw [if_neg (by omega), if_neg (by omega), if_neg (by omega), if_neg (by omega)]
theorem rot_down {l : List α} {m k : Nat} (h : k ≤ m) (h0 : 0 < k) (hm : m < l.length) : sw (rotl l k m (m + 1)) k (k - 1) = rotl l (k - 1) m (m + 1) := by
  apply List.ext_getElem?
  intro p
  have hl : (rotl l k m (m + 1)).length = l.length := rotl_len (by omega) (by omega) (by omega)
  rw [swD_get (by omega) (by omega), rotl_get (by omega) (by omega) (by omega) p, rotl_get (by omega) (by omega) (by omega) k, rotl_get (by omega) (by omega) (by omega) (k - 1), rotl_get (by omega) (by omega) (by omega) p]
  by_cases c1 : p = k - 1
  · rw [if_pos c1, if_neg (by omega), if_pos (by omega), if_neg (by omega), if_pos (by omega)]
    congr 1; omega
  · rw [if_neg c1]
    by_cases c2 : p = k
    · rw [if_pos c2, if_pos (by omega), if_neg (by omega), if_neg (by omega), if_pos (by omega)]
      congr 1; omega
    · rw [if_neg c2]
      by_cases c3 : p < k - 1
      · rw [if_pos (by omega), if_pos c3]
      · by_cases c4 : p < m + 1
        · rw [if_neg (by omega), if_neg (by omega), if_pos c4, if_neg (by omega), if_neg (by omega)]
        · rw [if_neg (by omega), if_neg (by omega), if_neg c4, if_neg (by omega), if_neg (by omega)]
/-- One element of run 1, let down among those of run 2. -/
theorem one_up {cmp : α → α → Int} (hc : PreC cmp) {l : List (α × Nat)} {a b i : Nat} (ht : TagsOk l) (hb : b ≤ l.length) (h2 : SortedOn cmp l (a + 1) b) (hi : a + 1 ≤ i) (hib : i ≤ b)
    (hlo : ∀ h x y, a + 1 ≤ h → h < i → l[h]? = some y → l[a]? = some x → tlt cmp y x) (hhi : ∀ h x y, i ≤ h → h < b → l[h]? = some y → l[a]? = some x → tlt cmp x y) : rotl l a (a + 1) i = sortSeg cmp l a b := by
  have g := fun p => rotl_get (l := l) (a := a) (m := a + 1) (b := i) (by omega) hi (by omega) p
  refine sortSeg_eq hc (by omega) ht (rotl_perm (by omega) hi) (fun p hp => ?_) (fun p q x y q1 q2 q3 hp hq => ?_)
  · rw [g]
    rcases hp with hp | hp
    · rw [if_pos hp]
    · rw [if_neg (by omega), if_neg (by omega), if_neg (by omega)]
  · rw [g, if_neg (by omega)] at hp hq
    by_cases c1 : p < a + (i - (a + 1))
    · rw [if_pos c1] at hp
      by_cases c2 : q < a + (i - (a + 1))
      · rw [if_pos c2] at hq; exact h2 _ _ x y (by omega) (by omega) (by omega) hp hq
      · rw [if_neg c2] at hq
        by_cases c3 : q < i
        · rw [if_pos c3, show q - (i - (a + 1)) = a by omega] at hq
          exact hlo _ y x (by omega) (by omega) hp hq
        · rw [if_neg c3] at hq; exact h2 _ _ x y (by omega) (by omega) q3 hp hq
    · rw [if_neg c1] at hp
      rw [if_neg (by omega), if_neg (by omega)] at hq
      by_cases c3 : p < i
      · rw [if_pos c3, show p - (i - (a + 1)) = a by omega] at hp
        exact hhi q x y (by omega) q3 hq hp
      · rw [if_neg c3] at hp; exact h2 _ _ x y (by omega) q2 q3 hp hq
/-- One element of run 2, let up among those of run 1. -/
theorem one_down {cmp : α → α → Int} (hc : PreC cmp) {l : List (α × Nat)} {a m i : Nat} (ht : TagsOk l) (hb : m + 1 ≤ l.length) (h1 : SortedOn cmp l a m) (hi : a ≤ i) (him : i ≤ m)
    (hlo : ∀ h x y, a ≤ h → h < i → l[h]? = some y → l[m]? = some x → tlt cmp y x) (hhi : ∀ h x y, i ≤ h → h < m → l[h]? = some y → l[m]? = some x → tlt cmp x y) : rotl l i m (m + 1) = sortSeg cmp l a (m + 1) := by
  have g := fun p => rotl_get (l := l) (a := i) (m := m) (b := m + 1) him (by omega) (by omega) p
  refine sortSeg_eq hc (by omega) ht (rotl_perm him (by omega)) (fun p hp => ?_) (fun p q x y q1 q2 q3 hp hq => ?_)
  · rw [g]
    rcases hp with hp | hp
    · rw [if_pos (by omega)]
    · rw [if_neg (by omega), if_neg (by omega), if_neg (by omega)]
  · rw [g] at hp hq
    by_cases c1 : p < i
    · rw [if_pos c1] at hp
      by_cases c2 : q < i
      · rw [if_pos c2] at hq; exact h1 _ _ x y q1 q2 (by omega) hp hq
      · rw [if_neg c2] at hq
        by_cases c3 : q < i + (m + 1 - m)
        · rw [if_pos c3, show q + (m - i) = m by omega] at hq
          exact hlo _ y x q1 c1 hp hq
        · rw [if_neg c3, if_pos q3] at hq; exact h1 _ _ x y q1 (by omega) (by omega) hp hq
    · rw [if_neg c1] at hp
      rw [if_neg (by omega), if_neg (by omega), if_pos q3] at hq
      by_cases c3 : p < i + (m + 1 - m)
      · rw [if_pos c3, show p + (m - i) = m by omega] at hp
        exact hhi _ x y (by omega) (by omega) hq hp
      · rw [if_neg c3, if_pos (by omega)] at hp; exact h1 _ _ x y (by omega) (by omega) (by omega) hp hq


end Go.Proofs.YtgldfnkbpopanaaGreatDoor


namespace Go.Proofs.YtgldfnkbpopanaaGreatDoor
open Go.RowKit
set_option linter.unusedVariables false

/-! Types. -/
namespace TyDS9

end TyDS9
open TyDS9


/-- The binary search among run 2 for an element x of run 1, or the other way round: who lies before i is said by lo, who lies from j on by hi. -/
structure Srch {β : Type} (l : List β) (lo hi : β → Prop) (a b i j : Nat) : Prop where
  ai : a ≤ i
  ij : i ≤ j
  jb : j ≤ b
  low : ∀ h y, a ≤ h → h < i → l[h]? = some y → lo y
  high : ∀ h y, j ≤ h → h < b → l[h]? = some y → hi y
theorem Srch.start {β : Type} {l : List β} {lo hi : β → Prop} {a b : Nat} (h : a ≤ b) : Srch l lo hi a b a b := ⟨Nat.le_refl _, h, Nat.le_refl _, fun _ _ _ _ => by omega, fun _ _ _ _ => by omega⟩
theorem Srch.up {β : Type} {l : List β} {lo hi : β → Prop} {a b i j h : Nat} (s : Srch l lo hi a b i j) (h1 : i ≤ h) (h2 : h < j) (hl : ∀ k y, a ≤ k → k ≤ h → l[k]? = some y → lo y) : Srch l lo hi a b (h + 1) j :=
  ⟨by have := s.ai; omega, by omega, s.jb, fun k y q1 q2 => hl k y q1 (by omega), s.high⟩
theorem Srch.dn {β : Type} {l : List β} {lo hi : β → Prop} {a b i j h : Nat} (s : Srch l lo hi a b i j) (h1 : i ≤ h) (h2 : h < j) (hh : ∀ k y, h ≤ k → k < b → l[k]? = some y → hi y) : Srch l lo hi a b i h :=
  ⟨s.ai, h1, by have := s.jb; omega, s.low, hh⟩
theorem mono_up {α : Type} {cmp : α → α → Int} (hc : PreC cmp) {l : List (α × Nat)} {a b h : Nat} {x y0 : α × Nat} (hs : SortedOn cmp l a b) (hb : h < b) (hy : l[h]? = some y0) (ht : tlt cmp y0 x) : ∀ k y, a ≤ k → k ≤ h → l[k]? = some y → tlt cmp y x := fun k y h1 h2 h3 => by
  by_cases e : k = h
  · subst e; rw [hy] at h3; cases h3; exact ht
  · exact tlt_trans hc (hs k h y y0 h1 (by omega) hb h3 hy) ht
theorem mono_dn {α : Type} {cmp : α → α → Int} (hc : PreC cmp) {l : List (α × Nat)} {a b h : Nat} {x y0 : α × Nat} (hs : SortedOn cmp l a b) (ha : a ≤ h) (hy : l[h]? = some y0) (ht : tlt cmp x y0) : ∀ k y, h ≤ k → k < b → l[k]? = some y → tlt cmp x y := fun k y h1 h2 h3 => by
  by_cases e : h = k
  · subst e; rw [hy] at h3; cases h3; exact ht
  · exact tlt_trans hc ht (hs h k y0 y ha (by omega) h2 hy h3)
/-- The search for the cut: c from s on has its partner p - c below it, c before s has not. -/
structure CutS (cmp : Dsp → Dsp → Int) (l : List (Dsp × Nat)) (p lo0 hi0 s r : Nat) : Prop where
  ls : lo0 ≤ s
  sr : s ≤ r
  rh : r ≤ hi0
  low : lo0 < s → ∃ x y, l[s - 1]? = some x ∧ l[p - (s - 1)]? = some y ∧ tlt cmp x y
  high : r < hi0 → ∃ x y, l[r]? = some x ∧ l[p - r]? = some y ∧ tlt cmp y x
theorem CutS.cut {cmp : Dsp → Dsp → Int} (hc : PreC cmp) {l : List (Dsp × Nat)} {a m b mid lo0 hi0 s : Nat} (h1 : SortedOn cmp l a m) (h2 : SortedOn cmp l m b) (hmid : mid = (a + b) / 2) (ham : a < m) (hmb : m < b)
    (hl : (mid < m ∧ lo0 + b = mid + m ∧ hi0 = mid) ∨ (m ≤ mid ∧ lo0 = a ∧ hi0 = m)) (h : CutS cmp l (mid + m - 1) lo0 hi0 s s) : Cut cmp l a m b s (mid + m - s) := by
  have ls := h.ls
  have rh := h.rh
  refine ⟨by omega, by omega, by omega, by omega, fun i j x y q1 q2 q3 q4 hx hy => ?_, fun i j x y q1 q2 q3 q4 hx hy => ?_⟩
  · obtain ⟨u, v, hu, hv, ht⟩ := h.low (by omega)
    have hv2 : l[mid + m - s]? = some v := by rw [← hv]; congr 1; omega
    have e1 : tlt cmp x v := mono_up hc h1 (by omega) hu ht i x q1 (by omega) hx
    exact mono_dn hc h2 (by omega) hv2 e1 j y q3 q4 hy
  · obtain ⟨u, v, hu, hv, ht⟩ := h.high (by omega)
    have hv2 : l[mid + m - s - 1]? = some v := by rw [← hv]; congr 1; omega
    have e1 : tlt cmp y u := mono_up hc h2 (by omega) hv2 ht j y q3 (by omega) hy
    exact mono_dn hc h1 (by omega) hu e1 i x q1 q2 hx


end Go.Proofs.YtgldfnkbpopanaaGreatDoor


namespace Go.Proofs.YtgldfnkbpopanaaGreatDoor
open Go.RowKit
set_option linter.unusedVariables false

/-! Types. -/
namespace TyDS10
theorem ag_73 : AggT Tryz.prog 73 2 := .of (by kernel_rfl)
theorem et_26 : ElemTy Tryz.prog 26 73 2 16 (.agg #[(.int .i64 0), (.bool false)]) := ⟨by kernel_rfl, by kernel_rfl, by kernel_rfl, by decide⟩
theorem sz_73 : ∀ w, (sizeOf 73).run Tryz.prog w = .ok 2 w := SizeT.of (by kernel_rfl)
end TyDS10
open TyDS10


theorem sorted_at {α : Type} {cmp : α → α → Int} {l : List (α × Nat)} {a b a' b' : Nat} (h : SortedOn cmp l a b) (ha : a = a') (hb : b = b') : SortedOn cmp l a' b' := ha ▸ hb ▸ h
theorem sortSeg_self {α : Type} {cmp : α → α → Int} (hc : PreC cmp) {l : List (α × Nat)} {a b : Nat} (hab : a ≤ b) (ht : TagsOk l) (hs : SortedOn cmp l a b) : sortSeg cmp l a b = l := (sortSeg_eq hc hab ht (List.Perm.refl _) (fun _ _ => rfl) hs).symm


set_option maxRecDepth 100000 in
set_option maxHeartbeats 1000000 in
theorem c_symStep (cmp : Dsp → Dsp → Int) (hc : PreC cmp) (f : Nat) (caps : List D) (hf : ∀ x y : Dsp, ACall Tryz.prog f (.agg x.ds :: .agg y.ds :: caps) (.v (.int .i64 (cmp x y)))) (N : Nat) (ih : ∀ (l : List (Dsp × Nat)) (a m b : Nat), b - a < N → a < m → m < b → b ≤ l.length → l.length ≤ 4611686018427387904 → TagsOk l → SortedOn cmp l a m → SortedOn cmp l m b → Cross l a m b → RCall Tryz.prog 117 73 2 (l.map tds) ((sortSeg cmp l a b).map tds) [.v (.int .i64 a), .v (.int .i64 m), .v (.int .i64 b), .clo (.func f) caps] (.tup [])) (l : List (Dsp × Nat)) (a m b : Nat) (hN : b - a ≤ N) (ham : a < m) (hmb : m < b) (hbl : b ≤ l.length) (hl : l.length ≤ 4611686018427387904) (ht : TagsOk l) (s1 : SortedOn cmp l a m) (s2 : SortedOn cmp l m b) (hx : Cross l a m b) : RCall Tryz.prog 117 73 2 (l.map tds) ((sortSeg cmp l a b).map tds) [.v (.int .i64 a), .v (.int .i64 m), .v (.int .i64 b), .clo (.func f) caps] (.tup []) := by
  refine RCall.of1 (chg := fun i => Nat.ble 1000 i) (xcall_of (n := 220) (ds' := []) Tryz.func117 rfl (by kernel_rfl) rfl [] rfl rfl ?_) rfl
  intro B w0 F0 fr ρ0
  have ha : a < l.length := by omega
  have hm : m < l.length := by omega
  refine AWP.seq ?_
  refine AWP.seq (AWP.region ?_)
  refine AOps.mA ?_
  refine AOps.mA ?_
  refine AOps.sA (AOp.sub64 rfl rfl rfl (by omega) (by omega)) ?_
  refine AOps.sA (AOp.eql rfl rfl rfl) (.nil ?_)
  refine AWP.cond rfl (fun h1 => ?_) (fun h1 => ?_)
  · replace h1 := of_decide_eq_true h1
    have hma : m = a + 1 := by omega
    refine AWP.seq (AWP.region ?_)
    refine AOps.mA ?_
    refine AOps.aA (.nil ?_)
    refine AWP.seq (AWP.region ?_)
    refine AOps.mA ?_
    refine AOps.aA (.nil ?_)
    refine AWP.seq ?_
    refine AWP.block ?_
    refine AWP.loop (G := Nat × Nat) (fun g => Env.of [(10, .d (.v (.int .i64 (g.1 : Int)))), (11, .d (.v (.int .i64 (g.2 : Int)))), (0, .own 1), (1, .d (.v (.int .i64 a))), (2, .d (.v (.int .i64 m))), (3, .d (.v (.int .i64 b))), (4, .d (.clo (.func f) caps))]) (fun g => [(1, .row 73 2 (l.map tds))]) (fun g => Srch l (fun y => tlt cmp y (l[a]'ha)) (fun y => tlt cmp (l[a]'ha) y) m b g.1 g.2) (fun g => g.2 - g.1) (m, b) (Srch.start (by omega)) (Sub.less ⟨(SLe.i64 rfl), (SLe.i64 rfl), SLe.refl _, SLe.refl _, SLe.refl _, SLe.refl _, SLe.refl _, trivial⟩ (row_same rfl)) ?_
    rintro ⟨i, j⟩ hs
    dsimp only at hs ⊢
    have hs1 := hs.ai
    have hs2 := hs.ij
    have hs3 := hs.jb
    refine AWP.seq ?_
    refine AWP.seq (AWP.region ?_)
    refine AOps.mA ?_
    refine AOps.mA ?_
    refine AOps.sA (AOp.lss rfl rfl rfl) (.nil ?_)
    refine AWP.cond rfl (fun h2 => ?_) (fun h2 => ?_)
    · replace h2 := of_decide_eq_true h2
      have hij : i < j := by omega
      have hhl : ((i + j) / 2) < l.length := by omega
      refine AWP.skip ?_
      refine AWP.block ?_
      refine AWP.seq (AWP.region ?_)
      refine AOps.mA ?_
      refine AOps.mA ?_
      refine AOps.sA (AOp.add64 rfl rfl rfl (by omega) (by omega)) ?_
      refine AOps.sA (AOp.convSame rfl (by kernel_rfl) rfl (wrapU64 (by omega) (by omega))) ?_
      refine AOps.sA (AOp.half rfl rfl rfl) ?_
      refine AOps.sA (AOp.convSame rfl (by kernel_rfl) rfl (w64 (by omega) (by omega))) ?_
      refine AOps.aA (.nil ?_)
      refine AWP.seq ?_
      refine AWP.draw (by kernel_rfl) (by kernel_rfl) ?_
      refine DRun.sA (AOp.moveD rfl rfl) ?_
      refine DRun.sA (AOp.moveO rfl rfl) ?_
      refine DRun.sA (AOp.moveD rfl rfl) ?_
      refine DRun.sA (AOp.indexOwn rfl et_26 rfl rfl (.head _) ((i + j) / 2) (by omega) (by rw [List.length_map]; omega)) ?_
      refine DRun.sA (AOp.loadRowAgg rfl ag_73 rfl (.head _) ((i + j) / 2) rfl (at_list hhl)) ?_
      refine DRun.sA (AOp.moveO rfl rfl) ?_
      refine DRun.sA (AOp.moveD rfl rfl) ?_
      refine DRun.sA (AOp.indexOwn rfl et_26 rfl rfl (.head _) a rfl (by rw [List.length_map]; omega)) ?_
      refine DRun.sA (AOp.loadRowAgg rfl ag_73 rfl (.head _) a rfl (at_list ha)) ?_
      refine DRun.sA (AOp.callClo rfl rfl (.cons (ArgOk.rfl' rfl) (.cons (ArgOk.rfl' rfl) .nil)) (hf (l[((i + j) / 2)]'hhl).1 (l[a]'ha).1)) ?_
      refine DRun.sA (AOp.lss rfl rfl rfl) ?_
      refine DRun.nil ?_
      refine AWP.cond rfl (fun h3 => ?_) (fun h3 => ?_)
      · replace h3 := of_decide_eq_true h3
        have HU := hs.up (h := ((i + j) / 2)) (by omega) (by omega) (mono_up hc s2 (by omega) (at_some l hhl) (.inl h3))
        refine AWP.region ?_
        refine AOps.mA ?_
        refine AOps.sA (AOp.add64 rfl rfl rfl (by omega) (by omega)) ?_
        refine AOps.aA (.nil ?_)
        refine ⟨(((i + j) / 2) + 1, j), HU, (by dsimp only; omega), Sub.less ⟨(SLe.i64 (by dsimp only; omega)), (SLe.refl _), SLe.refl _, SLe.refl _, SLe.refl _, SLe.refl _, SLe.refl _, trivial⟩ (row_same rfl)⟩
      replace h3 := of_decide_eq_false h3
      have HD := hs.dn (h := ((i + j) / 2)) (by omega) (by omega) (mono_dn hc s2 (by omega) (at_some l hhl) (cross_ge (hx a _ _ _ (Nat.le_refl _) ham (by omega) (by omega) (at_some l ha) (at_some l hhl)) h3))
      refine AWP.region ?_
      refine AOps.mA ?_
      refine AOps.aA (.nil ?_)
      refine ⟨(i, ((i + j) / 2)), HD, (by dsimp only; omega), Sub.less ⟨(SLe.refl _), (SLe.i64 (by dsimp only; omega)), SLe.refl _, SLe.refl _, SLe.refl _, SLe.refl _, SLe.refl _, trivial⟩ (row_same rfl)⟩
    replace h2 := of_decide_eq_false h2
    have hij : i = j := by omega
    refine AWP.exit ?_
    refine AWP.seq ?_
    refine AWP.seq (AWP.region ?_)
    refine AOps.mA ?_
    refine AOps.aA (.nil ?_)
    refine AWP.block ?_
    refine AWP.loop (G := Nat) (fun k => Env.of [(13, .d (.v (.int .i64 (k : Int)))), (10, .d (.v (.int .i64 (i : Int)))), (0, .own 1), (1, .d (.v (.int .i64 a))), (2, .d (.v (.int .i64 m))), (3, .d (.v (.int .i64 b))), (4, .d (.clo (.func f) caps))]) (fun k => [(1, .row 73 2 ((rotl l a (a + 1) (k + 1)).map tds))]) (fun k => a ≤ k ∧ k + 1 ≤ i) (fun k => i - k) a ⟨Nat.le_refl _, by omega⟩ (Sub.less ⟨(SLe.i64 rfl), SLe.refl _, SLe.refl _, SLe.refl _, SLe.refl _, SLe.refl _, SLe.refl _, trivial⟩ (row_same (by rw [rotl_id2 (by omega)]))) ?_
    rintro k ⟨k1, k2⟩
    refine AWP.seq ?_
    refine AWP.seq (AWP.region ?_)
    refine AOps.mA ?_
    refine AOps.mA ?_
    refine AOps.sA (AOp.sub64 rfl rfl rfl (by omega) (by omega)) ?_
    refine AOps.sA (AOp.lss rfl rfl rfl) (.nil ?_)
    refine AWP.cond rfl (fun h4 => ?_) (fun h4 => ?_)
    · replace h4 := of_decide_eq_true h4
      have hki : k + 1 < i := by omega
      have hrl : (rotl l a (a + 1) (k + 1)).length = l.length := rotl_len (by omega) (by omega) (by omega)
      refine AWP.skip ?_
      refine AWP.seq ?_
      refine AWP.block ?_
      refine AWP.drawG (fun k => (Nat.beq k 15 || Nat.beq k 17) || (Nat.beq k 8 || Nat.beq k 9 || Nat.beq k 12 || Nat.beq k 13 || Nat.beq k 14 || Nat.beq k 16)) (fun k => Nat.beq k 15 || Nat.beq k 17) (fun k h => Bool.or_eq_true_iff.2 (.inl h)) (by kernel_rfl) (by kernel_rfl) (by kernel_rfl) ?_
      refine GRun.step rfl rfl rfl (fun _ => AOp.moveO rfl rfl) ?_
      refine GRun.step rfl rfl rfl (fun _ => AOp.moveD rfl rfl) ?_
      refine GRun.step rfl rfl rfl (fun _ => AOp.moveO rfl rfl) ?_
      refine GRun.step rfl rfl rfl (fun _ => AOp.moveD rfl rfl) ?_
      refine GRun.step rfl rfl rfl (fun _ => AOp.add64 rfl rfl rfl (by omega) (by omega)) ?_
      refine GRun.step rfl rfl rfl (fun _ => AOp.moveO rfl rfl) ?_
      refine GRun.step rfl rfl rfl (fun _ => AOp.moveD rfl rfl) ?_
      refine GRun.step rfl rfl rfl (fun _ => AOp.add64 rfl rfl rfl (by omega) (by omega)) ?_
      refine GRun.stepS rfl rfl rfl rfl (AOp.indexOwn rfl et_26 rfl rfl (.head _) (k + 1) (by omega) (by rw [List.length_map, hrl]; omega)) ?_
      refine GRun.stepS rfl rfl rfl rfl (AOp.loadRowAgg rfl ag_73 rfl (.head _) (k + 1) rfl (at_list (by omega))) ?_
      refine GRun.step rfl rfl rfl (fun _ => AOp.moveO rfl rfl) ?_
      refine GRun.step rfl rfl rfl (fun _ => AOp.moveD rfl rfl) ?_
      refine GRun.stepS rfl rfl rfl rfl (AOp.indexOwn rfl et_26 rfl rfl (.head _) k rfl (by rw [List.length_map, hrl]; omega)) ?_
      refine GRun.stepS rfl rfl rfl rfl (AOp.loadRowAgg rfl ag_73 rfl (.head _) k rfl (at_list (by omega))) ?_
      refine GRun.stepS rfl rfl rfl rfl (AOp.indexOwn rfl et_26 rfl rfl (.head _) k rfl (by rw [List.length_map, hrl]; omega)) ?_
      refine GRun.eff rfl rfl rfl (EOp.storeRow rfl rfl sz_73 rfl (.head _) rfl rfl rfl k 0 rfl (at_list (by omega)) (Nat.le_of_ble_eq_true rfl)) ?_
      refine GRun.stepS rfl rfl rfl rfl (AOp.indexOwn rfl et_26 rfl rfl (.head _) (k + 1) (by omega) (by rw [List.length_set, List.length_map, hrl]; omega)) ?_
      refine GRun.eff rfl rfl rfl (EOp.storeRow rfl rfl sz_73 rfl (.head _) rfl rfl rfl (k + 1) 0 rfl (List.getElem?_eq_getElem (by rw [List.length_set, List.length_map, hrl]; omega)) (Nat.le_of_ble_eq_true rfl)) ?_
      refine GRun.nil ?_
      refine AWP.region ?_
      refine AOps.mA ?_
      refine AOps.sA (AOp.add64 rfl rfl rfl (by omega) (by omega)) ?_
      refine AOps.aA (.nil ?_)
      refine ⟨k + 1, ⟨by omega, by omega⟩, (by dsimp only; omega), Sub.less ⟨(SLe.i64 (by omega)), SLe.refl _, SLe.refl _, SLe.refl _, SLe.refl _, SLe.refl _, SLe.refl _, trivial⟩ (row_same ((row_swap (enc := tds) (size := 2) (cur := rotl l a (a + 1) (k + 1)) (i := k) (j := k + 1) (fun _ => rfl) (by omega) (by omega) rfl (List.getElem?_eq_getElem (by rw [List.length_set, List.length_map, hrl]; omega))).trans (by rw [rot_up k1 (by omega)])))⟩
    replace h4 := of_decide_eq_false h4
    have hki : k + 1 = i := by omega
    subst hma
    have HF : rotl l a (a + 1) (k + 1) = sortSeg cmp l a b := one_up hc ht hbl s2 (by omega) (by omega) (fun h x y q1 q2 hy hx2 => by rw [at_some l ha] at hx2; cases hx2; exact hs.low h y q1 (by omega) hy) (fun h x y q1 q2 hy hx2 => by rw [at_some l ha] at hx2; cases hx2; exact hs.high h y (by omega) q2 hy)
    refine AWP.exit ?_
    refine AWP.ret ?_
    refine ⟨trivial, ⟨mem_row_eq (.head _) ?_, trivial⟩⟩
    all_goals (rw [HF])
  replace h1 := of_decide_eq_false h1
  have hma : a + 1 < m := by omega
  refine AWP.skip ?_
  refine AWP.seq ?_
  refine AWP.seq (AWP.region ?_)
  refine AOps.mA ?_
  refine AOps.mA ?_
  refine AOps.sA (AOp.sub64 rfl rfl rfl (by omega) (by omega)) ?_
  refine AOps.sA (AOp.eql rfl rfl rfl) (.nil ?_)
  refine AWP.cond rfl (fun h5 => ?_) (fun h5 => ?_)
  · replace h5 := of_decide_eq_true h5
    have hbm : b = m + 1 := by omega
    refine AWP.seq (AWP.region ?_)
    refine AOps.mA ?_
    refine AOps.aA (.nil ?_)
    refine AWP.seq (AWP.region ?_)
    refine AOps.mA ?_
    refine AOps.aA (.nil ?_)
    refine AWP.seq ?_
    refine AWP.block ?_
    refine AWP.loop (G := Nat × Nat) (fun g => Env.of [(14, .d (.v (.int .i64 (g.1 : Int)))), (15, .d (.v (.int .i64 (g.2 : Int)))), (0, .own 1), (1, .d (.v (.int .i64 a))), (2, .d (.v (.int .i64 m))), (3, .d (.v (.int .i64 b))), (4, .d (.clo (.func f) caps))]) (fun g => [(1, .row 73 2 (l.map tds))]) (fun g => Srch l (fun y => tlt cmp y (l[m]'hm)) (fun y => tlt cmp (l[m]'hm) y) a m g.1 g.2) (fun g => g.2 - g.1) (a, m) (Srch.start (by omega)) (Sub.less ⟨(SLe.i64 rfl), (SLe.i64 rfl), SLe.refl _, SLe.refl _, SLe.refl _, SLe.refl _, SLe.refl _, trivial⟩ (row_same rfl)) ?_
    rintro ⟨i, j⟩ hs
    dsimp only at hs ⊢
    have hs1 := hs.ai
    have hs2 := hs.ij
    have hs3 := hs.jb
    refine AWP.seq ?_
    refine AWP.seq (AWP.region ?_)
    refine AOps.mA ?_
    refine AOps.mA ?_
    refine AOps.sA (AOp.lss rfl rfl rfl) (.nil ?_)
    refine AWP.cond rfl (fun h6 => ?_) (fun h6 => ?_)
    · replace h6 := of_decide_eq_true h6
      have hij : i < j := by omega
      have hhl : ((i + j) / 2) < l.length := by omega
      refine AWP.skip ?_
      refine AWP.block ?_
      refine AWP.seq (AWP.region ?_)
      refine AOps.mA ?_
      refine AOps.mA ?_
      refine AOps.sA (AOp.add64 rfl rfl rfl (by omega) (by omega)) ?_
      refine AOps.sA (AOp.convSame rfl (by kernel_rfl) rfl (wrapU64 (by omega) (by omega))) ?_
      refine AOps.sA (AOp.half rfl rfl rfl) ?_
      refine AOps.sA (AOp.convSame rfl (by kernel_rfl) rfl (w64 (by omega) (by omega))) ?_
      refine AOps.aA (.nil ?_)
      refine AWP.seq ?_
      refine AWP.draw (by kernel_rfl) (by kernel_rfl) ?_
      refine DRun.sA (AOp.moveD rfl rfl) ?_
      refine DRun.sA (AOp.moveO rfl rfl) ?_
      refine DRun.sA (AOp.moveD rfl rfl) ?_
      refine DRun.sA (AOp.indexOwn rfl et_26 rfl rfl (.head _) m rfl (by rw [List.length_map]; omega)) ?_
      refine DRun.sA (AOp.loadRowAgg rfl ag_73 rfl (.head _) m rfl (at_list hm)) ?_
      refine DRun.sA (AOp.moveO rfl rfl) ?_
      refine DRun.sA (AOp.moveD rfl rfl) ?_
      refine DRun.sA (AOp.indexOwn rfl et_26 rfl rfl (.head _) ((i + j) / 2) (by omega) (by rw [List.length_map]; omega)) ?_
      refine DRun.sA (AOp.loadRowAgg rfl ag_73 rfl (.head _) ((i + j) / 2) rfl (at_list hhl)) ?_
      refine DRun.sA (AOp.callClo rfl rfl (.cons (ArgOk.rfl' rfl) (.cons (ArgOk.rfl' rfl) .nil)) (hf (l[m]'hm).1 (l[((i + j) / 2)]'hhl).1)) ?_
      refine DRun.sA (AOp.lss rfl rfl rfl) ?_
      refine DRun.sA (AOp.not rfl rfl) ?_
      refine DRun.nil ?_
      refine AWP.cond rfl (fun h7 => ?_) (fun h7 => ?_)
      · replace h7 := bnot_t h7; replace h7 := of_decide_eq_false h7
        have HU := hs.up (h := ((i + j) / 2)) (by omega) (by omega) (mono_up hc s1 (by omega) (at_some l hhl) (cross_ge (hx _ m _ _ (by omega) (by omega) (Nat.le_refl _) hmb (at_some l hhl) (at_some l hm)) h7))
        refine AWP.region ?_
        refine AOps.mA ?_
        refine AOps.sA (AOp.add64 rfl rfl rfl (by omega) (by omega)) ?_
        refine AOps.aA (.nil ?_)
        refine ⟨(((i + j) / 2) + 1, j), HU, (by dsimp only; omega), Sub.less ⟨(SLe.i64 (by dsimp only; omega)), (SLe.refl _), SLe.refl _, SLe.refl _, SLe.refl _, SLe.refl _, SLe.refl _, trivial⟩ (row_same rfl)⟩
      replace h7 := bnot_f h7; replace h7 := of_decide_eq_true h7
      have HD := hs.dn (h := ((i + j) / 2)) (by omega) (by omega) (mono_dn hc s1 (by omega) (at_some l hhl) (.inl (by omega)))
      refine AWP.region ?_
      refine AOps.mA ?_
      refine AOps.aA (.nil ?_)
      refine ⟨(i, ((i + j) / 2)), HD, (by dsimp only; omega), Sub.less ⟨(SLe.refl _), (SLe.i64 (by dsimp only; omega)), SLe.refl _, SLe.refl _, SLe.refl _, SLe.refl _, SLe.refl _, trivial⟩ (row_same rfl)⟩
    replace h6 := of_decide_eq_false h6
    have hij : i = j := by omega
    refine AWP.exit ?_
    refine AWP.seq ?_
    refine AWP.seq (AWP.region ?_)
    refine AOps.mA ?_
    refine AOps.aA (.nil ?_)
    refine AWP.block ?_
    refine AWP.loop (G := Nat) (fun k => Env.of [(17, .d (.v (.int .i64 (k : Int)))), (14, .d (.v (.int .i64 (i : Int)))), (0, .own 1), (1, .d (.v (.int .i64 a))), (2, .d (.v (.int .i64 m))), (3, .d (.v (.int .i64 b))), (4, .d (.clo (.func f) caps))]) (fun k => [(1, .row 73 2 ((rotl l k m (m + 1)).map tds))]) (fun k => i ≤ k ∧ k ≤ m) (fun k => k) m ⟨by omega, Nat.le_refl _⟩ (Sub.less ⟨(SLe.i64 rfl), SLe.refl _, SLe.refl _, SLe.refl _, SLe.refl _, SLe.refl _, SLe.refl _, trivial⟩ (row_same (by rw [rotl_id1 (by omega)]))) ?_
    rintro k ⟨k1, k2⟩
    refine AWP.seq ?_
    refine AWP.seq (AWP.region ?_)
    refine AOps.mA ?_
    refine AOps.mA ?_
    refine AOps.sA (AOp.gtr rfl rfl rfl) (.nil ?_)
    refine AWP.cond rfl (fun h8 => ?_) (fun h8 => ?_)
    · replace h8 := of_decide_eq_true h8
      have hki : i < k := by omega
      have hrl : (rotl l k m (m + 1)).length = l.length := rotl_len (by omega) (by omega) (by omega)
      refine AWP.skip ?_
      refine AWP.seq ?_
      refine AWP.block ?_
      refine AWP.drawG (fun k => (Nat.beq k 15 || Nat.beq k 17) || (Nat.beq k 8 || Nat.beq k 9 || Nat.beq k 12 || Nat.beq k 13 || Nat.beq k 14 || Nat.beq k 16)) (fun k => Nat.beq k 15 || Nat.beq k 17) (fun k h => Bool.or_eq_true_iff.2 (.inl h)) (by kernel_rfl) (by kernel_rfl) (by kernel_rfl) ?_
      refine GRun.step rfl rfl rfl (fun _ => AOp.moveO rfl rfl) ?_
      refine GRun.step rfl rfl rfl (fun _ => AOp.moveD rfl rfl) ?_
      refine GRun.step rfl rfl rfl (fun _ => AOp.moveO rfl rfl) ?_
      refine GRun.step rfl rfl rfl (fun _ => AOp.moveD rfl rfl) ?_
      refine GRun.step rfl rfl rfl (fun _ => AOp.sub64 rfl rfl rfl (by omega) (by omega)) ?_
      refine GRun.step rfl rfl rfl (fun _ => AOp.moveO rfl rfl) ?_
      refine GRun.step rfl rfl rfl (fun _ => AOp.moveD rfl rfl) ?_
      refine GRun.step rfl rfl rfl (fun _ => AOp.sub64 rfl rfl rfl (by omega) (by omega)) ?_
      refine GRun.stepS rfl rfl rfl rfl (AOp.indexOwn rfl et_26 rfl rfl (.head _) (k - 1) (by omega) (by rw [List.length_map, hrl]; omega)) ?_
      refine GRun.stepS rfl rfl rfl rfl (AOp.loadRowAgg rfl ag_73 rfl (.head _) (k - 1) rfl (at_list (by omega))) ?_
      refine GRun.step rfl rfl rfl (fun _ => AOp.moveO rfl rfl) ?_
      refine GRun.step rfl rfl rfl (fun _ => AOp.moveD rfl rfl) ?_
      refine GRun.stepS rfl rfl rfl rfl (AOp.indexOwn rfl et_26 rfl rfl (.head _) k rfl (by rw [List.length_map, hrl]; omega)) ?_
      refine GRun.stepS rfl rfl rfl rfl (AOp.loadRowAgg rfl ag_73 rfl (.head _) k rfl (at_list (by omega))) ?_
      refine GRun.stepS rfl rfl rfl rfl (AOp.indexOwn rfl et_26 rfl rfl (.head _) k rfl (by rw [List.length_map, hrl]; omega)) ?_
      refine GRun.eff rfl rfl rfl (EOp.storeRow rfl rfl sz_73 rfl (.head _) rfl rfl rfl k 0 rfl (at_list (by omega)) (Nat.le_of_ble_eq_true rfl)) ?_
      refine GRun.stepS rfl rfl rfl rfl (AOp.indexOwn rfl et_26 rfl rfl (.head _) (k - 1) (by omega) (by rw [List.length_set, List.length_map, hrl]; omega)) ?_
      refine GRun.eff rfl rfl rfl (EOp.storeRow rfl rfl sz_73 rfl (.head _) rfl rfl rfl (k - 1) 0 rfl (List.getElem?_eq_getElem (by rw [List.length_set, List.length_map, hrl]; omega)) (Nat.le_of_ble_eq_true rfl)) ?_
      refine GRun.nil ?_
      refine AWP.region ?_
      refine AOps.mA ?_
      refine AOps.sA (AOp.sub64 rfl rfl rfl (by omega) (by omega)) ?_
      refine AOps.aA (.nil ?_)
      refine ⟨k - 1, ⟨by omega, by omega⟩, (by dsimp only; omega), Sub.less ⟨(SLe.i64 (by omega)), SLe.refl _, SLe.refl _, SLe.refl _, SLe.refl _, SLe.refl _, SLe.refl _, trivial⟩ (row_same ((row_swap (enc := tds) (size := 2) (cur := rotl l k m (m + 1)) (i := k) (j := k - 1) (fun _ => rfl) (by omega) (by omega) rfl (List.getElem?_eq_getElem (by rw [List.length_set, List.length_map, hrl]; omega))).trans (by rw [rot_down k2 (by omega) (by omega)])))⟩
    replace h8 := of_decide_eq_false h8
    have hki : k = i := by omega
    subst hbm
    subst hki
    have HF : rotl l k m (m + 1) = sortSeg cmp l a (m + 1) := one_down hc ht hbl s1 (by omega) (by omega) (fun h x y q1 q2 hy hx2 => by rw [at_some l hm] at hx2; cases hx2; exact hs.low h y q1 (by omega) hy) (fun h x y q1 q2 hy hx2 => by rw [at_some l hm] at hx2; cases hx2; exact hs.high h y (by omega) q2 hy)
    refine AWP.exit ?_
    refine AWP.ret ?_
    refine ⟨trivial, ⟨mem_row_eq (.head _) ?_, trivial⟩⟩
    all_goals (rw [HF])
  replace h5 := of_decide_eq_false h5
  have hbm : m + 1 < b := by omega
  obtain ⟨mid, hmid⟩ : ∃ mid, mid = (a + b) / 2 := ⟨_, rfl⟩
  refine AWP.skip ?_
  refine AWP.seq (AWP.region ?_)
  refine AOps.mA ?_
  refine AOps.mA ?_
  refine AOps.sA (AOp.add64 rfl rfl rfl (by omega) (by omega)) ?_
  refine AOps.sA (AOp.convSame rfl (by kernel_rfl) rfl (wrapU64 (by omega) (by omega))) ?_
  refine AOps.sA (AOp.half rfl rfl rfl) ?_
  refine AOps.sA (AOp.convSame rfl (by kernel_rfl) rfl (w64 (by omega) (by omega))) ?_
  refine AOps.aA (.nil ?_)
  refine AWP.seq (AWP.region ?_)
  refine AOps.mA ?_
  refine AOps.mA ?_
  refine AOps.sA (AOp.add64 rfl rfl rfl (by omega) (by omega)) ?_
  refine AOps.aA (.nil ?_)
  refine AWP.seq (AWP.region ?_)
  refine AOps.aA ?_
  refine AOps.aA (.nil ?_)
  refine AWP.seq ?_
  refine AWP.seq (AWP.region ?_)
  refine AOps.mA ?_
  refine AOps.mA ?_
  refine AOps.sA (AOp.gtr rfl rfl rfl) (.nil ?_)
  refine AWP.cond rfl (fun h9 => ?_) (fun h9 => ?_)
  · replace h9 := of_decide_eq_true h9
    have hmm : mid < m := by omega
    obtain ⟨lo0, hlo0⟩ : ∃ lo0, lo0 + b = mid + m := ⟨mid + m - b, by omega⟩
    obtain ⟨hi0, hhi0⟩ : ∃ hi0, hi0 = mid := ⟨_, rfl⟩
    have hg : (mid < m ∧ lo0 + b = mid + m ∧ hi0 = mid) ∨ (m ≤ mid ∧ lo0 = a ∧ hi0 = m) := .inl ⟨hmm, hlo0, hhi0⟩
    refine AWP.seq (AWP.region ?_)
    refine AOps.mA ?_
    refine AOps.mA ?_
    refine AOps.sA (AOp.sub64 rfl rfl rfl (by omega) (by omega)) ?_
    refine AOps.aA (.nil ?_)
    refine AWP.region ?_
    refine AOps.mA ?_
    refine AOps.aA (.nil ?_)
    refine AWP.seq (AWP.region ?_)
    refine AOps.mA ?_
    refine AOps.sA (AOp.sub64 rfl rfl rfl (by omega) (by omega)) ?_
    refine AOps.aA (.nil ?_)
    refine AWP.seq ?_
    refine AWP.block ?_
    refine AWP.loop (G := Nat × Nat) (fun g => Env.of [(20, .d (.v (.int .i64 (g.1 : Int)))), (21, .d (.v (.int .i64 (g.2 : Int)))), (22, .d (.v (.int .i64 ((mid + m - 1 : Nat) : Int)))), (19, .d (.v (.int .i64 ((mid + m : Nat) : Int)))), (18, .d (.v (.int .i64 (mid : Int)))), (0, .own 1), (1, .d (.v (.int .i64 a))), (2, .d (.v (.int .i64 m))), (3, .d (.v (.int .i64 b))), (4, .d (.clo (.func f) caps))]) (fun g => [(1, .row 73 2 (l.map tds))]) (fun g => CutS cmp l (mid + m - 1) lo0 hi0 g.1 g.2) (fun g => g.2 - g.1) (lo0, hi0) ⟨Nat.le_refl _, by dsimp only; omega, Nat.le_refl _, fun h => absurd h (Nat.lt_irrefl _), fun h => absurd h (Nat.lt_irrefl _)⟩ (Sub.less ⟨(SLe.i64 (by first | omega | (dsimp only; omega))), (SLe.i64 (by first | omega | (dsimp only; omega))), (SLe.i64 (by first | omega | (dsimp only; omega))), (SLe.i64 (by first | omega | (dsimp only; omega))), (SLe.i64 (by first | omega | (dsimp only; omega))), SLe.refl _, SLe.refl _, SLe.refl _, SLe.refl _, SLe.refl _, trivial⟩ (row_same rfl)) ?_
    rintro ⟨i, j⟩ hs
    dsimp only at hs ⊢
    have hs1 := hs.ls
    have hs2 := hs.sr
    have hs3 := hs.rh
    refine AWP.seq ?_
    refine AWP.seq (AWP.region ?_)
    refine AOps.mA ?_
    refine AOps.mA ?_
    refine AOps.sA (AOp.lss rfl rfl rfl) (.nil ?_)
    refine AWP.cond rfl (fun h10 => ?_) (fun h10 => ?_)
    · replace h10 := of_decide_eq_true h10
      have hij : i < j := by omega
      have hhl : ((i + j) / 2) < l.length := by omega
      have hpl : mid + m - 1 - ((i + j) / 2) < l.length := by omega
      have htg := hx _ _ _ _ (show a ≤ ((i + j) / 2) by omega) (by omega) (show m ≤ mid + m - 1 - ((i + j) / 2) by omega) (by omega) (at_some l hhl) (at_some l hpl)
      refine AWP.skip ?_
      refine AWP.block ?_
      refine AWP.seq (AWP.region ?_)
      refine AOps.mA ?_
      refine AOps.mA ?_
      refine AOps.sA (AOp.add64 rfl rfl rfl (by omega) (by omega)) ?_
      refine AOps.sA (AOp.convSame rfl (by kernel_rfl) rfl (wrapU64 (by omega) (by omega))) ?_
      refine AOps.sA (AOp.half rfl rfl rfl) ?_
      refine AOps.sA (AOp.convSame rfl (by kernel_rfl) rfl (w64 (by omega) (by omega))) ?_
      refine AOps.aA (.nil ?_)
      refine AWP.seq ?_
      refine AWP.draw (by kernel_rfl) (by kernel_rfl) ?_
      refine DRun.sA (AOp.moveD rfl rfl) ?_
      refine DRun.sA (AOp.moveO rfl rfl) ?_
      refine DRun.sA (AOp.moveD rfl rfl) ?_
      refine DRun.sA (AOp.moveD rfl rfl) ?_
      refine DRun.sA (AOp.sub64 rfl rfl rfl (by omega) (by omega)) ?_
      refine DRun.sA (AOp.indexOwn rfl et_26 rfl rfl (.head _) (mid + m - 1 - ((i + j) / 2)) (by omega) (by rw [List.length_map]; omega)) ?_
      refine DRun.sA (AOp.loadRowAgg rfl ag_73 rfl (.head _) (mid + m - 1 - ((i + j) / 2)) rfl (at_list hpl)) ?_
      refine DRun.sA (AOp.moveO rfl rfl) ?_
      refine DRun.sA (AOp.moveD rfl rfl) ?_
      refine DRun.sA (AOp.indexOwn rfl et_26 rfl rfl (.head _) ((i + j) / 2) (by omega) (by rw [List.length_map]; omega)) ?_
      refine DRun.sA (AOp.loadRowAgg rfl ag_73 rfl (.head _) ((i + j) / 2) rfl (at_list hhl)) ?_
      refine DRun.sA (AOp.callClo rfl rfl (.cons (ArgOk.rfl' rfl) (.cons (ArgOk.rfl' rfl) .nil)) (hf (l[mid + m - 1 - ((i + j) / 2)]'hpl).1 (l[((i + j) / 2)]'hhl).1)) ?_
      refine DRun.sA (AOp.lss rfl rfl rfl) ?_
      refine DRun.sA (AOp.not rfl rfl) ?_
      refine DRun.nil ?_
      refine AWP.cond rfl (fun h11 => ?_) (fun h11 => ?_)
      · replace h11 := bnot_t h11; replace h11 := of_decide_eq_false h11
        have HU : CutS cmp l (mid + m - 1) lo0 hi0 (((i + j) / 2) + 1) j := ⟨by omega, by omega, by omega, fun _ => ⟨_, _, at_some l hhl, at_some l hpl, cross_ge htg h11⟩, hs.high⟩
        refine AWP.region ?_
        refine AOps.mA ?_
        refine AOps.sA (AOp.add64 rfl rfl rfl (by omega) (by omega)) ?_
        refine AOps.aA (.nil ?_)
        refine ⟨(((i + j) / 2) + 1, j), HU, (by dsimp only; omega), Sub.less ⟨(SLe.i64 (by dsimp only; omega)), (SLe.refl _), SLe.refl _, SLe.refl _, SLe.refl _, SLe.refl _, SLe.refl _, SLe.refl _, SLe.refl _, SLe.refl _, trivial⟩ (row_same rfl)⟩
      replace h11 := bnot_f h11; replace h11 := of_decide_eq_true h11
      have HD : CutS cmp l (mid + m - 1) lo0 hi0 i ((i + j) / 2) := ⟨by omega, by omega, by omega, hs.low, fun _ => ⟨_, _, at_some l hhl, at_some l hpl, .inl (by omega)⟩⟩
      refine AWP.region ?_
      refine AOps.mA ?_
      refine AOps.aA (.nil ?_)
      refine ⟨(i, ((i + j) / 2)), HD, (by dsimp only; omega), Sub.less ⟨(SLe.refl _), (SLe.i64 (by dsimp only; omega)), SLe.refl _, SLe.refl _, SLe.refl _, SLe.refl _, SLe.refl _, SLe.refl _, SLe.refl _, SLe.refl _, trivial⟩ (row_same rfl)⟩
    replace h10 := of_decide_eq_false h10
    have hij : i = j := by omega
    subst hij
    have hcut := CutS.cut hc s1 s2 hmid ham hmb hg hs
    have hs4 := hcut.has
    have hs5 := hcut.sm
    have hs6 := hcut.me
    have hs7 := hcut.eb
    obtain ⟨k1, k2, k3, k4, k5, k6, k7⟩ := cut_merge hc ht hbl s1 s2 hx hcut
    rw [show i + (mid + m - i - m) = mid by omega] at k2 k3 k4 k5 k6 k7
    have hrl : (rotl l i m (mid + m - i)).length = l.length := rotl_len hs5 hs6 (by omega)
    have ht1 : TagsOk (rotl l i m (mid + m - i)) := ht.perm (rotl_perm hs5 hs6)
    have hl1 : (sortSeg cmp (rotl l i m (mid + m - i)) a mid).length = l.length := by rw [sortSeg_len cmp _ (by omega), hrl]
    have ht2 : TagsOk (sortSeg cmp (rotl l i m (mid + m - i)) a mid) := ht1.perm (sortSeg_perm cmp _ (by omega))
    have HF := k7
    refine AWP.exit ?_
    refine AWP.seq (AWP.region ?_)
    refine AOps.mA ?_
    refine AOps.mA ?_
    refine AOps.sA (AOp.sub64 rfl rfl rfl (by omega) (by omega)) ?_
    refine AOps.aA (.nil ?_)
    refine AWP.seq ?_
    refine AWP.seq (AWP.region ?_)
    refine AOps.mA ?_
    refine AOps.mA ?_
    refine AOps.sA (AOp.lss rfl rfl rfl) ?_
    refine AOps.mA ?_
    refine AOps.split 181 rfl (fun g12 => ?_) (fun g12 => ?_)
    · replace g12 := of_decide_eq_true g12
      refine AOps.sG (AOp.moveD rfl rfl) ?_
      refine AOps.sG (AOp.moveD rfl rfl) ?_
      refine AOps.sG (AOp.lss rfl rfl rfl) ?_
      refine AOps.sA (AOp.pickT rfl rfl rfl) (.nil ?_)
      refine AWP.cond rfl (fun h13 => ?_) (fun h13 => ?_)
      · replace h13 := of_decide_eq_true h13
        refine AWP.region ?_
        refine AOps.sA (AOp.moveO rfl rfl) ?_
        refine AOps.mA ?_
        refine AOps.mA ?_
        refine AOps.mA ?_
        refine AOps.mA ?_
        -- turns 1
        refine AOps.callX rfl rfl rfl (.cons (SLe.refl _) (.cons (SLe.refl _) (.cons (SLe.refl _) (.cons (SLe.i64 (by omega)) (.cons (SLe.refl _) .nil))))) ((c_rotate l i m (mid + m - i) _ (by omega) (by omega) (by omega) hl) 1) ⟨(.head _), trivial⟩ rfl rfl (fun _ h => nomatch h) ?_
        refine AOps.nil ?_
        refine AWP.seq ?_
        refine AWP.seq (AWP.region ?_)
        refine AOps.mA ?_
        refine AOps.mA ?_
        refine AOps.sA (AOp.lss rfl rfl rfl) ?_
        refine AOps.mA ?_
        refine AOps.split 195 rfl (fun g14 => ?_) (fun g14 => ?_)
        · replace g14 := of_decide_eq_true g14
          refine AOps.sG (AOp.moveD rfl rfl) ?_
          refine AOps.sG (AOp.moveD rfl rfl) ?_
          refine AOps.sG (AOp.lss rfl rfl rfl) ?_
          refine AOps.sA (AOp.pickT rfl rfl rfl) (.nil ?_)
          refine AWP.cond rfl (fun h15 => ?_) (fun h15 => ?_)
          · replace h15 := of_decide_eq_true h15
            refine AWP.region ?_
            refine AOps.sA (AOp.moveO rfl rfl) ?_
            refine AOps.mA ?_
            refine AOps.mA ?_
            refine AOps.mA ?_
            refine AOps.mA ?_
            -- turns 1
            refine AOps.callX rfl rfl rfl (.cons (SLe.refl _) (.cons (SLe.refl _) (.cons (SLe.refl _) (.cons (SLe.refl _) (.cons (SLe.refl _) .nil))))) ((ih _ a i mid (by omega) (by omega) (by omega) (by omega) (by omega) ht1 k1 k2 k3) 1) ⟨(.head _), trivial⟩ rfl rfl (fun _ h => nomatch h) ?_
            refine AOps.nil ?_
            refine AWP.seq (AWP.region ?_)
            refine AOps.mA ?_
            refine AOps.mA ?_
            refine AOps.sA (AOp.lss rfl rfl rfl) ?_
            refine AOps.mA ?_
            refine AOps.split 209 rfl (fun g16 => ?_) (fun g16 => ?_)
            · replace g16 := of_decide_eq_true g16
              refine AOps.sG (AOp.moveD rfl rfl) ?_
              refine AOps.sG (AOp.moveD rfl rfl) ?_
              refine AOps.sG (AOp.lss rfl rfl rfl) ?_
              refine AOps.sA (AOp.pickT rfl rfl rfl) (.nil ?_)
              refine AWP.cond rfl (fun h17 => ?_) (fun h17 => ?_)
              · replace h17 := of_decide_eq_true h17
                refine AWP.region ?_
                refine AOps.sA (AOp.moveO rfl rfl) ?_
                refine AOps.mA ?_
                refine AOps.mA ?_
                refine AOps.mA ?_
                refine AOps.mA ?_
                -- turns 1
                refine AOps.callX rfl rfl rfl (.cons (SLe.refl _) (.cons (SLe.refl _) (.cons (SLe.i64 (by omega)) (.cons (SLe.refl _) (.cons (SLe.refl _) .nil))))) ((ih _ mid (mid + m - i) b (by omega) (by omega) (by omega) (by omega) (by omega) ht2 k4 k5 k6) 1) ⟨(.head _), trivial⟩ rfl rfl (fun _ h => nomatch h) ?_
                refine AOps.nil ?_
                refine ⟨trivial, ⟨mem_row_eq (.head _) ?_, trivial⟩⟩
                all_goals (rw [HF])
              replace h17 := of_decide_eq_false h17
              have er3 : (sortSeg cmp (rotl l i m (mid + m - i)) a mid).map tds = (sortSeg cmp (sortSeg cmp (rotl l i m (mid + m - i)) a mid) mid b).map tds := by rw [sortSeg_self hc (by omega) ht2 (sorted_at k4 (by omega) (by omega))]
              rw [er3]
              refine AWP.skip ?_
              refine ⟨trivial, ⟨mem_row_eq (.head _) ?_, trivial⟩⟩
              all_goals (rw [HF])
            replace g16 := of_decide_eq_false g16
            have er3 : (sortSeg cmp (rotl l i m (mid + m - i)) a mid).map tds = (sortSeg cmp (sortSeg cmp (rotl l i m (mid + m - i)) a mid) mid b).map tds := by rw [sortSeg_self hc (by omega) ht2 (sorted_at k5 (by omega) (by omega))]
            rw [er3]
            refine AOps.pA ?_
            refine AOps.pA ?_
            refine AOps.pA ?_
            refine AOps.sA (AOp.pickF rfl rfl rfl) (.nil ?_)
            refine AWP.cond rfl (fun h => nomatch h) (fun _ => ?_)
            refine AWP.skip ?_
            refine ⟨trivial, ⟨mem_row_eq (.head _) ?_, trivial⟩⟩
            all_goals (rw [HF])
          replace h15 := of_decide_eq_false h15
          have er2 : (rotl l i m (mid + m - i)).map tds = (sortSeg cmp (rotl l i m (mid + m - i)) a mid).map tds := by rw [sortSeg_self hc (by omega) ht1 (sorted_at k1 (by omega) (by omega))]
          rw [er2]
          refine AWP.skip ?_
          refine AWP.seq (AWP.region ?_)
          refine AOps.mA ?_
          refine AOps.mA ?_
          refine AOps.sA (AOp.lss rfl rfl rfl) ?_
          refine AOps.mA ?_
          refine AOps.split 209 rfl (fun g18 => ?_) (fun g18 => ?_)
          · replace g18 := of_decide_eq_true g18
            refine AOps.sG (AOp.moveD rfl rfl) ?_
            refine AOps.sG (AOp.moveD rfl rfl) ?_
            refine AOps.sG (AOp.lss rfl rfl rfl) ?_
            refine AOps.sA (AOp.pickT rfl rfl rfl) (.nil ?_)
            refine AWP.cond rfl (fun h19 => ?_) (fun h19 => ?_)
            · replace h19 := of_decide_eq_true h19
              refine AWP.region ?_
              refine AOps.sA (AOp.moveO rfl rfl) ?_
              refine AOps.mA ?_
              refine AOps.mA ?_
              refine AOps.mA ?_
              refine AOps.mA ?_
              -- turns 1
              refine AOps.callX rfl rfl rfl (.cons (SLe.refl _) (.cons (SLe.refl _) (.cons (SLe.i64 (by omega)) (.cons (SLe.refl _) (.cons (SLe.refl _) .nil))))) ((ih _ mid (mid + m - i) b (by omega) (by omega) (by omega) (by omega) (by omega) ht2 k4 k5 k6) 1) ⟨(.head _), trivial⟩ rfl rfl (fun _ h => nomatch h) ?_
              refine AOps.nil ?_
              refine ⟨trivial, ⟨mem_row_eq (.head _) ?_, trivial⟩⟩
              all_goals (rw [HF])
            replace h19 := of_decide_eq_false h19
            have er3 : (sortSeg cmp (rotl l i m (mid + m - i)) a mid).map tds = (sortSeg cmp (sortSeg cmp (rotl l i m (mid + m - i)) a mid) mid b).map tds := by rw [sortSeg_self hc (by omega) ht2 (sorted_at k4 (by omega) (by omega))]
            rw [er3]
            refine AWP.skip ?_
            refine ⟨trivial, ⟨mem_row_eq (.head _) ?_, trivial⟩⟩
            all_goals (rw [HF])
          replace g18 := of_decide_eq_false g18
          have er3 : (sortSeg cmp (rotl l i m (mid + m - i)) a mid).map tds = (sortSeg cmp (sortSeg cmp (rotl l i m (mid + m - i)) a mid) mid b).map tds := by rw [sortSeg_self hc (by omega) ht2 (sorted_at k5 (by omega) (by omega))]
          rw [er3]
          refine AOps.pA ?_
          refine AOps.pA ?_
          refine AOps.pA ?_
          refine AOps.sA (AOp.pickF rfl rfl rfl) (.nil ?_)
          refine AWP.cond rfl (fun h => nomatch h) (fun _ => ?_)
          refine AWP.skip ?_
          refine ⟨trivial, ⟨mem_row_eq (.head _) ?_, trivial⟩⟩
          all_goals (rw [HF])
        replace g14 := of_decide_eq_false g14
        have er2 : (rotl l i m (mid + m - i)).map tds = (sortSeg cmp (rotl l i m (mid + m - i)) a mid).map tds := by rw [sortSeg_self hc (by omega) ht1 (sorted_at k2 (by omega) (by omega))]
        rw [er2]
        refine AOps.pA ?_
        refine AOps.pA ?_
        refine AOps.pA ?_
        refine AOps.sA (AOp.pickF rfl rfl rfl) (.nil ?_)
        refine AWP.cond rfl (fun h => nomatch h) (fun _ => ?_)
        refine AWP.skip ?_
        refine AWP.seq (AWP.region ?_)
        refine AOps.mA ?_
        refine AOps.mA ?_
        refine AOps.sA (AOp.lss rfl rfl rfl) ?_
        refine AOps.mA ?_
        refine AOps.split 209 rfl (fun g20 => ?_) (fun g20 => ?_)
        · replace g20 := of_decide_eq_true g20
          refine AOps.sG (AOp.moveD rfl rfl) ?_
          refine AOps.sG (AOp.moveD rfl rfl) ?_
          refine AOps.sG (AOp.lss rfl rfl rfl) ?_
          refine AOps.sA (AOp.pickT rfl rfl rfl) (.nil ?_)
          refine AWP.cond rfl (fun h21 => ?_) (fun h21 => ?_)
          · replace h21 := of_decide_eq_true h21
            refine AWP.region ?_
            refine AOps.sA (AOp.moveO rfl rfl) ?_
            refine AOps.mA ?_
            refine AOps.mA ?_
            refine AOps.mA ?_
            refine AOps.mA ?_
            -- turns 1
            refine AOps.callX rfl rfl rfl (.cons (SLe.refl _) (.cons (SLe.refl _) (.cons (SLe.i64 (by omega)) (.cons (SLe.refl _) (.cons (SLe.refl _) .nil))))) ((ih _ mid (mid + m - i) b (by omega) (by omega) (by omega) (by omega) (by omega) ht2 k4 k5 k6) 1) ⟨(.head _), trivial⟩ rfl rfl (fun _ h => nomatch h) ?_
            refine AOps.nil ?_
            refine ⟨trivial, ⟨mem_row_eq (.head _) ?_, trivial⟩⟩
            all_goals (rw [HF])
          replace h21 := of_decide_eq_false h21
          have er3 : (sortSeg cmp (rotl l i m (mid + m - i)) a mid).map tds = (sortSeg cmp (sortSeg cmp (rotl l i m (mid + m - i)) a mid) mid b).map tds := by rw [sortSeg_self hc (by omega) ht2 (sorted_at k4 (by omega) (by omega))]
          rw [er3]
          refine AWP.skip ?_
          refine ⟨trivial, ⟨mem_row_eq (.head _) ?_, trivial⟩⟩
          all_goals (rw [HF])
        replace g20 := of_decide_eq_false g20
        have er3 : (sortSeg cmp (rotl l i m (mid + m - i)) a mid).map tds = (sortSeg cmp (sortSeg cmp (rotl l i m (mid + m - i)) a mid) mid b).map tds := by rw [sortSeg_self hc (by omega) ht2 (sorted_at k5 (by omega) (by omega))]
        rw [er3]
        refine AOps.pA ?_
        refine AOps.pA ?_
        refine AOps.pA ?_
        refine AOps.sA (AOp.pickF rfl rfl rfl) (.nil ?_)
        refine AWP.cond rfl (fun h => nomatch h) (fun _ => ?_)
        refine AWP.skip ?_
        refine ⟨trivial, ⟨mem_row_eq (.head _) ?_, trivial⟩⟩
        all_goals (rw [HF])
      replace h13 := of_decide_eq_false h13
      have er : l.map tds = (rotl l i m (mid + m - i)).map tds := by rw [show mid + m - i = m by omega, rotl_id2 (by omega)]
      rw [er]
      refine AWP.skip ?_
      refine AWP.seq ?_
      refine AWP.seq (AWP.region ?_)
      refine AOps.mA ?_
      refine AOps.mA ?_
      refine AOps.sA (AOp.lss rfl rfl rfl) ?_
      refine AOps.mA ?_
      refine AOps.split 195 rfl (fun g22 => ?_) (fun g22 => ?_)
      · replace g22 := of_decide_eq_true g22
        refine AOps.sG (AOp.moveD rfl rfl) ?_
        refine AOps.sG (AOp.moveD rfl rfl) ?_
        refine AOps.sG (AOp.lss rfl rfl rfl) ?_
        refine AOps.sA (AOp.pickT rfl rfl rfl) (.nil ?_)
        refine AWP.cond rfl (fun h23 => ?_) (fun h23 => ?_)
        · replace h23 := of_decide_eq_true h23
          refine AWP.region ?_
          refine AOps.sA (AOp.moveO rfl rfl) ?_
          refine AOps.mA ?_
          refine AOps.mA ?_
          refine AOps.mA ?_
          refine AOps.mA ?_
          -- turns 1
          refine AOps.callX rfl rfl rfl (.cons (SLe.refl _) (.cons (SLe.refl _) (.cons (SLe.refl _) (.cons (SLe.refl _) (.cons (SLe.refl _) .nil))))) ((ih _ a i mid (by omega) (by omega) (by omega) (by omega) (by omega) ht1 k1 k2 k3) 1) ⟨(.head _), trivial⟩ rfl rfl (fun _ h => nomatch h) ?_
          refine AOps.nil ?_
          refine AWP.seq (AWP.region ?_)
          refine AOps.mA ?_
          refine AOps.mA ?_
          refine AOps.sA (AOp.lss rfl rfl rfl) ?_
          refine AOps.mA ?_
          refine AOps.split 209 rfl (fun g24 => ?_) (fun g24 => ?_)
          · replace g24 := of_decide_eq_true g24
            refine AOps.sG (AOp.moveD rfl rfl) ?_
            refine AOps.sG (AOp.moveD rfl rfl) ?_
            refine AOps.sG (AOp.lss rfl rfl rfl) ?_
            refine AOps.sA (AOp.pickT rfl rfl rfl) (.nil ?_)
            refine AWP.cond rfl (fun h25 => ?_) (fun h25 => ?_)
            · replace h25 := of_decide_eq_true h25
              refine AWP.region ?_
              refine AOps.sA (AOp.moveO rfl rfl) ?_
              refine AOps.mA ?_
              refine AOps.mA ?_
              refine AOps.mA ?_
              refine AOps.mA ?_
              -- turns 1
              refine AOps.callX rfl rfl rfl (.cons (SLe.refl _) (.cons (SLe.refl _) (.cons (SLe.i64 (by omega)) (.cons (SLe.refl _) (.cons (SLe.refl _) .nil))))) ((ih _ mid (mid + m - i) b (by omega) (by omega) (by omega) (by omega) (by omega) ht2 k4 k5 k6) 1) ⟨(.head _), trivial⟩ rfl rfl (fun _ h => nomatch h) ?_
              refine AOps.nil ?_
              refine ⟨trivial, ⟨mem_row_eq (.head _) ?_, trivial⟩⟩
              all_goals (rw [HF])
            replace h25 := of_decide_eq_false h25
            have er3 : (sortSeg cmp (rotl l i m (mid + m - i)) a mid).map tds = (sortSeg cmp (sortSeg cmp (rotl l i m (mid + m - i)) a mid) mid b).map tds := by rw [sortSeg_self hc (by omega) ht2 (sorted_at k4 (by omega) (by omega))]
            rw [er3]
            refine AWP.skip ?_
            refine ⟨trivial, ⟨mem_row_eq (.head _) ?_, trivial⟩⟩
            all_goals (rw [HF])
          replace g24 := of_decide_eq_false g24
          have er3 : (sortSeg cmp (rotl l i m (mid + m - i)) a mid).map tds = (sortSeg cmp (sortSeg cmp (rotl l i m (mid + m - i)) a mid) mid b).map tds := by rw [sortSeg_self hc (by omega) ht2 (sorted_at k5 (by omega) (by omega))]
          rw [er3]
          refine AOps.pA ?_
          refine AOps.pA ?_
          refine AOps.pA ?_
          refine AOps.sA (AOp.pickF rfl rfl rfl) (.nil ?_)
          refine AWP.cond rfl (fun h => nomatch h) (fun _ => ?_)
          refine AWP.skip ?_
          refine ⟨trivial, ⟨mem_row_eq (.head _) ?_, trivial⟩⟩
          all_goals (rw [HF])
        replace h23 := of_decide_eq_false h23
        have er2 : (rotl l i m (mid + m - i)).map tds = (sortSeg cmp (rotl l i m (mid + m - i)) a mid).map tds := by rw [sortSeg_self hc (by omega) ht1 (sorted_at k1 (by omega) (by omega))]
        rw [er2]
        refine AWP.skip ?_
        refine AWP.seq (AWP.region ?_)
        refine AOps.mA ?_
        refine AOps.mA ?_
        refine AOps.sA (AOp.lss rfl rfl rfl) ?_
        refine AOps.mA ?_
        refine AOps.split 209 rfl (fun g26 => ?_) (fun g26 => ?_)
        · replace g26 := of_decide_eq_true g26
          refine AOps.sG (AOp.moveD rfl rfl) ?_
          refine AOps.sG (AOp.moveD rfl rfl) ?_
          refine AOps.sG (AOp.lss rfl rfl rfl) ?_
          refine AOps.sA (AOp.pickT rfl rfl rfl) (.nil ?_)
          refine AWP.cond rfl (fun h27 => ?_) (fun h27 => ?_)
          · replace h27 := of_decide_eq_true h27
            refine AWP.region ?_
            refine AOps.sA (AOp.moveO rfl rfl) ?_
            refine AOps.mA ?_
            refine AOps.mA ?_
            refine AOps.mA ?_
            refine AOps.mA ?_
            -- turns 1
            refine AOps.callX rfl rfl rfl (.cons (SLe.refl _) (.cons (SLe.refl _) (.cons (SLe.i64 (by omega)) (.cons (SLe.refl _) (.cons (SLe.refl _) .nil))))) ((ih _ mid (mid + m - i) b (by omega) (by omega) (by omega) (by omega) (by omega) ht2 k4 k5 k6) 1) ⟨(.head _), trivial⟩ rfl rfl (fun _ h => nomatch h) ?_
            refine AOps.nil ?_
            refine ⟨trivial, ⟨mem_row_eq (.head _) ?_, trivial⟩⟩
            all_goals (rw [HF])
          replace h27 := of_decide_eq_false h27
          have er3 : (sortSeg cmp (rotl l i m (mid + m - i)) a mid).map tds = (sortSeg cmp (sortSeg cmp (rotl l i m (mid + m - i)) a mid) mid b).map tds := by rw [sortSeg_self hc (by omega) ht2 (sorted_at k4 (by omega) (by omega))]
          rw [er3]
          refine AWP.skip ?_
          refine ⟨trivial, ⟨mem_row_eq (.head _) ?_, trivial⟩⟩
          all_goals (rw [HF])
        replace g26 := of_decide_eq_false g26
        have er3 : (sortSeg cmp (rotl l i m (mid + m - i)) a mid).map tds = (sortSeg cmp (sortSeg cmp (rotl l i m (mid + m - i)) a mid) mid b).map tds := by rw [sortSeg_self hc (by omega) ht2 (sorted_at k5 (by omega) (by omega))]
        rw [er3]
        refine AOps.pA ?_
        refine AOps.pA ?_
        refine AOps.pA ?_
        refine AOps.sA (AOp.pickF rfl rfl rfl) (.nil ?_)
        refine AWP.cond rfl (fun h => nomatch h) (fun _ => ?_)
        refine AWP.skip ?_
        refine ⟨trivial, ⟨mem_row_eq (.head _) ?_, trivial⟩⟩
        all_goals (rw [HF])
      replace g22 := of_decide_eq_false g22
      have er2 : (rotl l i m (mid + m - i)).map tds = (sortSeg cmp (rotl l i m (mid + m - i)) a mid).map tds := by rw [sortSeg_self hc (by omega) ht1 (sorted_at k2 (by omega) (by omega))]
      rw [er2]
      refine AOps.pA ?_
      refine AOps.pA ?_
      refine AOps.pA ?_
      refine AOps.sA (AOp.pickF rfl rfl rfl) (.nil ?_)
      refine AWP.cond rfl (fun h => nomatch h) (fun _ => ?_)
      refine AWP.skip ?_
      refine AWP.seq (AWP.region ?_)
      refine AOps.mA ?_
      refine AOps.mA ?_
      refine AOps.sA (AOp.lss rfl rfl rfl) ?_
      refine AOps.mA ?_
      refine AOps.split 209 rfl (fun g28 => ?_) (fun g28 => ?_)
      · replace g28 := of_decide_eq_true g28
        refine AOps.sG (AOp.moveD rfl rfl) ?_
        refine AOps.sG (AOp.moveD rfl rfl) ?_
        refine AOps.sG (AOp.lss rfl rfl rfl) ?_
        refine AOps.sA (AOp.pickT rfl rfl rfl) (.nil ?_)
        refine AWP.cond rfl (fun h29 => ?_) (fun h29 => ?_)
        · replace h29 := of_decide_eq_true h29
          refine AWP.region ?_
          refine AOps.sA (AOp.moveO rfl rfl) ?_
          refine AOps.mA ?_
          refine AOps.mA ?_
          refine AOps.mA ?_
          refine AOps.mA ?_
          -- turns 1
          refine AOps.callX rfl rfl rfl (.cons (SLe.refl _) (.cons (SLe.refl _) (.cons (SLe.i64 (by omega)) (.cons (SLe.refl _) (.cons (SLe.refl _) .nil))))) ((ih _ mid (mid + m - i) b (by omega) (by omega) (by omega) (by omega) (by omega) ht2 k4 k5 k6) 1) ⟨(.head _), trivial⟩ rfl rfl (fun _ h => nomatch h) ?_
          refine AOps.nil ?_
          refine ⟨trivial, ⟨mem_row_eq (.head _) ?_, trivial⟩⟩
          all_goals (rw [HF])
        replace h29 := of_decide_eq_false h29
        have er3 : (sortSeg cmp (rotl l i m (mid + m - i)) a mid).map tds = (sortSeg cmp (sortSeg cmp (rotl l i m (mid + m - i)) a mid) mid b).map tds := by rw [sortSeg_self hc (by omega) ht2 (sorted_at k4 (by omega) (by omega))]
        rw [er3]
        refine AWP.skip ?_
        refine ⟨trivial, ⟨mem_row_eq (.head _) ?_, trivial⟩⟩
        all_goals (rw [HF])
      replace g28 := of_decide_eq_false g28
      have er3 : (sortSeg cmp (rotl l i m (mid + m - i)) a mid).map tds = (sortSeg cmp (sortSeg cmp (rotl l i m (mid + m - i)) a mid) mid b).map tds := by rw [sortSeg_self hc (by omega) ht2 (sorted_at k5 (by omega) (by omega))]
      rw [er3]
      refine AOps.pA ?_
      refine AOps.pA ?_
      refine AOps.pA ?_
      refine AOps.sA (AOp.pickF rfl rfl rfl) (.nil ?_)
      refine AWP.cond rfl (fun h => nomatch h) (fun _ => ?_)
      refine AWP.skip ?_
      refine ⟨trivial, ⟨mem_row_eq (.head _) ?_, trivial⟩⟩
      all_goals (rw [HF])
    replace g12 := of_decide_eq_false g12
    have er : l.map tds = (rotl l i m (mid + m - i)).map tds := by rw [show i = m by omega, rotl_id1 (by omega)]
    rw [er]
    refine AOps.pA ?_
    refine AOps.pA ?_
    refine AOps.pA ?_
    refine AOps.sA (AOp.pickF rfl rfl rfl) (.nil ?_)
    refine AWP.cond rfl (fun h => nomatch h) (fun _ => ?_)
    refine AWP.skip ?_
    refine AWP.seq ?_
    refine AWP.seq (AWP.region ?_)
    refine AOps.mA ?_
    refine AOps.mA ?_
    refine AOps.sA (AOp.lss rfl rfl rfl) ?_
    refine AOps.mA ?_
    refine AOps.split 195 rfl (fun g30 => ?_) (fun g30 => ?_)
    · replace g30 := of_decide_eq_true g30
      refine AOps.sG (AOp.moveD rfl rfl) ?_
      refine AOps.sG (AOp.moveD rfl rfl) ?_
      refine AOps.sG (AOp.lss rfl rfl rfl) ?_
      refine AOps.sA (AOp.pickT rfl rfl rfl) (.nil ?_)
      refine AWP.cond rfl (fun h31 => ?_) (fun h31 => ?_)
      · replace h31 := of_decide_eq_true h31
        refine AWP.region ?_
        refine AOps.sA (AOp.moveO rfl rfl) ?_
        refine AOps.mA ?_
        refine AOps.mA ?_
        refine AOps.mA ?_
        refine AOps.mA ?_
        -- turns 1
        refine AOps.callX rfl rfl rfl (.cons (SLe.refl _) (.cons (SLe.refl _) (.cons (SLe.refl _) (.cons (SLe.refl _) (.cons (SLe.refl _) .nil))))) ((ih _ a i mid (by omega) (by omega) (by omega) (by omega) (by omega) ht1 k1 k2 k3) 1) ⟨(.head _), trivial⟩ rfl rfl (fun _ h => nomatch h) ?_
        refine AOps.nil ?_
        refine AWP.seq (AWP.region ?_)
        refine AOps.mA ?_
        refine AOps.mA ?_
        refine AOps.sA (AOp.lss rfl rfl rfl) ?_
        refine AOps.mA ?_
        refine AOps.split 209 rfl (fun g32 => ?_) (fun g32 => ?_)
        · replace g32 := of_decide_eq_true g32
          refine AOps.sG (AOp.moveD rfl rfl) ?_
          refine AOps.sG (AOp.moveD rfl rfl) ?_
          refine AOps.sG (AOp.lss rfl rfl rfl) ?_
          refine AOps.sA (AOp.pickT rfl rfl rfl) (.nil ?_)
          refine AWP.cond rfl (fun h33 => ?_) (fun h33 => ?_)
          · replace h33 := of_decide_eq_true h33
            refine AWP.region ?_
            refine AOps.sA (AOp.moveO rfl rfl) ?_
            refine AOps.mA ?_
            refine AOps.mA ?_
            refine AOps.mA ?_
            refine AOps.mA ?_
            -- turns 1
            refine AOps.callX rfl rfl rfl (.cons (SLe.refl _) (.cons (SLe.refl _) (.cons (SLe.i64 (by omega)) (.cons (SLe.refl _) (.cons (SLe.refl _) .nil))))) ((ih _ mid (mid + m - i) b (by omega) (by omega) (by omega) (by omega) (by omega) ht2 k4 k5 k6) 1) ⟨(.head _), trivial⟩ rfl rfl (fun _ h => nomatch h) ?_
            refine AOps.nil ?_
            refine ⟨trivial, ⟨mem_row_eq (.head _) ?_, trivial⟩⟩
            all_goals (rw [HF])
          replace h33 := of_decide_eq_false h33
          have er3 : (sortSeg cmp (rotl l i m (mid + m - i)) a mid).map tds = (sortSeg cmp (sortSeg cmp (rotl l i m (mid + m - i)) a mid) mid b).map tds := by rw [sortSeg_self hc (by omega) ht2 (sorted_at k4 (by omega) (by omega))]
          rw [er3]
          refine AWP.skip ?_
          refine ⟨trivial, ⟨mem_row_eq (.head _) ?_, trivial⟩⟩
          all_goals (rw [HF])
        replace g32 := of_decide_eq_false g32
        have er3 : (sortSeg cmp (rotl l i m (mid + m - i)) a mid).map tds = (sortSeg cmp (sortSeg cmp (rotl l i m (mid + m - i)) a mid) mid b).map tds := by rw [sortSeg_self hc (by omega) ht2 (sorted_at k5 (by omega) (by omega))]
        rw [er3]
        refine AOps.pA ?_
        refine AOps.pA ?_
        refine AOps.pA ?_
        refine AOps.sA (AOp.pickF rfl rfl rfl) (.nil ?_)
        refine AWP.cond rfl (fun h => nomatch h) (fun _ => ?_)
        refine AWP.skip ?_
        refine ⟨trivial, ⟨mem_row_eq (.head _) ?_, trivial⟩⟩
        all_goals (rw [HF])
      replace h31 := of_decide_eq_false h31
      have er2 : (rotl l i m (mid + m - i)).map tds = (sortSeg cmp (rotl l i m (mid + m - i)) a mid).map tds := by rw [sortSeg_self hc (by omega) ht1 (sorted_at k1 (by omega) (by omega))]
      rw [er2]
      refine AWP.skip ?_
      refine AWP.seq (AWP.region ?_)
      refine AOps.mA ?_
      refine AOps.mA ?_
      refine AOps.sA (AOp.lss rfl rfl rfl) ?_
      refine AOps.mA ?_
      refine AOps.split 209 rfl (fun g34 => ?_) (fun g34 => ?_)
      · replace g34 := of_decide_eq_true g34
        refine AOps.sG (AOp.moveD rfl rfl) ?_
        refine AOps.sG (AOp.moveD rfl rfl) ?_
        refine AOps.sG (AOp.lss rfl rfl rfl) ?_
        refine AOps.sA (AOp.pickT rfl rfl rfl) (.nil ?_)
        refine AWP.cond rfl (fun h35 => ?_) (fun h35 => ?_)
        · replace h35 := of_decide_eq_true h35
          refine AWP.region ?_
          refine AOps.sA (AOp.moveO rfl rfl) ?_
          refine AOps.mA ?_
          refine AOps.mA ?_
          refine AOps.mA ?_
          refine AOps.mA ?_
          -- turns 1
          refine AOps.callX rfl rfl rfl (.cons (SLe.refl _) (.cons (SLe.refl _) (.cons (SLe.i64 (by omega)) (.cons (SLe.refl _) (.cons (SLe.refl _) .nil))))) ((ih _ mid (mid + m - i) b (by omega) (by omega) (by omega) (by omega) (by omega) ht2 k4 k5 k6) 1) ⟨(.head _), trivial⟩ rfl rfl (fun _ h => nomatch h) ?_
          refine AOps.nil ?_
          refine ⟨trivial, ⟨mem_row_eq (.head _) ?_, trivial⟩⟩
          all_goals (rw [HF])
        replace h35 := of_decide_eq_false h35
        have er3 : (sortSeg cmp (rotl l i m (mid + m - i)) a mid).map tds = (sortSeg cmp (sortSeg cmp (rotl l i m (mid + m - i)) a mid) mid b).map tds := by rw [sortSeg_self hc (by omega) ht2 (sorted_at k4 (by omega) (by omega))]
        rw [er3]
        refine AWP.skip ?_
        refine ⟨trivial, ⟨mem_row_eq (.head _) ?_, trivial⟩⟩
        all_goals (rw [HF])
      replace g34 := of_decide_eq_false g34
      have er3 : (sortSeg cmp (rotl l i m (mid + m - i)) a mid).map tds = (sortSeg cmp (sortSeg cmp (rotl l i m (mid + m - i)) a mid) mid b).map tds := by rw [sortSeg_self hc (by omega) ht2 (sorted_at k5 (by omega) (by omega))]
      rw [er3]
      refine AOps.pA ?_
      refine AOps.pA ?_
      refine AOps.pA ?_
      refine AOps.sA (AOp.pickF rfl rfl rfl) (.nil ?_)
      refine AWP.cond rfl (fun h => nomatch h) (fun _ => ?_)
      refine AWP.skip ?_
      refine ⟨trivial, ⟨mem_row_eq (.head _) ?_, trivial⟩⟩
      all_goals (rw [HF])
    replace g30 := of_decide_eq_false g30
    have er2 : (rotl l i m (mid + m - i)).map tds = (sortSeg cmp (rotl l i m (mid + m - i)) a mid).map tds := by rw [sortSeg_self hc (by omega) ht1 (sorted_at k2 (by omega) (by omega))]
    rw [er2]
    refine AOps.pA ?_
    refine AOps.pA ?_
    refine AOps.pA ?_
    refine AOps.sA (AOp.pickF rfl rfl rfl) (.nil ?_)
    refine AWP.cond rfl (fun h => nomatch h) (fun _ => ?_)
    refine AWP.skip ?_
    refine AWP.seq (AWP.region ?_)
    refine AOps.mA ?_
    refine AOps.mA ?_
    refine AOps.sA (AOp.lss rfl rfl rfl) ?_
    refine AOps.mA ?_
    refine AOps.split 209 rfl (fun g36 => ?_) (fun g36 => ?_)
    · replace g36 := of_decide_eq_true g36
      refine AOps.sG (AOp.moveD rfl rfl) ?_
      refine AOps.sG (AOp.moveD rfl rfl) ?_
      refine AOps.sG (AOp.lss rfl rfl rfl) ?_
      refine AOps.sA (AOp.pickT rfl rfl rfl) (.nil ?_)
      refine AWP.cond rfl (fun h37 => ?_) (fun h37 => ?_)
      · replace h37 := of_decide_eq_true h37
        refine AWP.region ?_
        refine AOps.sA (AOp.moveO rfl rfl) ?_
        refine AOps.mA ?_
        refine AOps.mA ?_
        refine AOps.mA ?_
        refine AOps.mA ?_
        -- turns 1
        refine AOps.callX rfl rfl rfl (.cons (SLe.refl _) (.cons (SLe.refl _) (.cons (SLe.i64 (by omega)) (.cons (SLe.refl _) (.cons (SLe.refl _) .nil))))) ((ih _ mid (mid + m - i) b (by omega) (by omega) (by omega) (by omega) (by omega) ht2 k4 k5 k6) 1) ⟨(.head _), trivial⟩ rfl rfl (fun _ h => nomatch h) ?_
        refine AOps.nil ?_
        refine ⟨trivial, ⟨mem_row_eq (.head _) ?_, trivial⟩⟩
        all_goals (rw [HF])
      replace h37 := of_decide_eq_false h37
      have er3 : (sortSeg cmp (rotl l i m (mid + m - i)) a mid).map tds = (sortSeg cmp (sortSeg cmp (rotl l i m (mid + m - i)) a mid) mid b).map tds := by rw [sortSeg_self hc (by omega) ht2 (sorted_at k4 (by omega) (by omega))]
      rw [er3]
      refine AWP.skip ?_
      refine ⟨trivial, ⟨mem_row_eq (.head _) ?_, trivial⟩⟩
      all_goals (rw [HF])
    replace g36 := of_decide_eq_false g36
    have er3 : (sortSeg cmp (rotl l i m (mid + m - i)) a mid).map tds = (sortSeg cmp (sortSeg cmp (rotl l i m (mid + m - i)) a mid) mid b).map tds := by rw [sortSeg_self hc (by omega) ht2 (sorted_at k5 (by omega) (by omega))]
    rw [er3]
    refine AOps.pA ?_
    refine AOps.pA ?_
    refine AOps.pA ?_
    refine AOps.sA (AOp.pickF rfl rfl rfl) (.nil ?_)
    refine AWP.cond rfl (fun h => nomatch h) (fun _ => ?_)
    refine AWP.skip ?_
    refine ⟨trivial, ⟨mem_row_eq (.head _) ?_, trivial⟩⟩
    all_goals (rw [HF])
  replace h9 := of_decide_eq_false h9
  have hmm : m ≤ mid := by omega
  obtain ⟨lo0, hlo0⟩ : ∃ lo0, lo0 = a := ⟨_, rfl⟩
  obtain ⟨hi0, hhi0⟩ : ∃ hi0, hi0 = m := ⟨_, rfl⟩
  have hg : (mid < m ∧ lo0 + b = mid + m ∧ hi0 = mid) ∨ (m ≤ mid ∧ lo0 = a ∧ hi0 = m) := .inr ⟨hmm, hlo0, hhi0⟩
  refine AWP.seq (AWP.region ?_)
  refine AOps.mA ?_
  refine AOps.aA (.nil ?_)
  refine AWP.region ?_
  refine AOps.mA ?_
  refine AOps.aA (.nil ?_)
  refine AWP.seq (AWP.region ?_)
  refine AOps.mA ?_
  refine AOps.sA (AOp.sub64 rfl rfl rfl (by omega) (by omega)) ?_
  refine AOps.aA (.nil ?_)
  refine AWP.seq ?_
  refine AWP.block ?_
  refine AWP.loop (G := Nat × Nat) (fun g => Env.of [(20, .d (.v (.int .i64 (g.1 : Int)))), (21, .d (.v (.int .i64 (g.2 : Int)))), (22, .d (.v (.int .i64 ((mid + m - 1 : Nat) : Int)))), (19, .d (.v (.int .i64 ((mid + m : Nat) : Int)))), (18, .d (.v (.int .i64 (mid : Int)))), (0, .own 1), (1, .d (.v (.int .i64 a))), (2, .d (.v (.int .i64 m))), (3, .d (.v (.int .i64 b))), (4, .d (.clo (.func f) caps))]) (fun g => [(1, .row 73 2 (l.map tds))]) (fun g => CutS cmp l (mid + m - 1) lo0 hi0 g.1 g.2) (fun g => g.2 - g.1) (lo0, hi0) ⟨Nat.le_refl _, by dsimp only; omega, Nat.le_refl _, fun h => absurd h (Nat.lt_irrefl _), fun h => absurd h (Nat.lt_irrefl _)⟩ (Sub.less ⟨(SLe.i64 (by first | omega | (dsimp only; omega))), (SLe.i64 (by first | omega | (dsimp only; omega))), (SLe.i64 (by first | omega | (dsimp only; omega))), (SLe.i64 (by first | omega | (dsimp only; omega))), (SLe.i64 (by first | omega | (dsimp only; omega))), SLe.refl _, SLe.refl _, SLe.refl _, SLe.refl _, SLe.refl _, trivial⟩ (row_same rfl)) ?_
  rintro ⟨i, j⟩ hs
  dsimp only at hs ⊢
  have hs1 := hs.ls
  have hs2 := hs.sr
  have hs3 := hs.rh
  refine AWP.seq ?_
  refine AWP.seq (AWP.region ?_)
  refine AOps.mA ?_
  refine AOps.mA ?_
  refine AOps.sA (AOp.lss rfl rfl rfl) (.nil ?_)
  refine AWP.cond rfl (fun h38 => ?_) (fun h38 => ?_)
  · replace h38 := of_decide_eq_true h38
    have hij : i < j := by omega
    have hhl : ((i + j) / 2) < l.length := by omega
    have hpl : mid + m - 1 - ((i + j) / 2) < l.length := by omega
    have htg := hx _ _ _ _ (show a ≤ ((i + j) / 2) by omega) (by omega) (show m ≤ mid + m - 1 - ((i + j) / 2) by omega) (by omega) (at_some l hhl) (at_some l hpl)
    refine AWP.skip ?_
    refine AWP.block ?_
    refine AWP.seq (AWP.region ?_)
    refine AOps.mA ?_
    refine AOps.mA ?_
    refine AOps.sA (AOp.add64 rfl rfl rfl (by omega) (by omega)) ?_
    refine AOps.sA (AOp.convSame rfl (by kernel_rfl) rfl (wrapU64 (by omega) (by omega))) ?_
    refine AOps.sA (AOp.half rfl rfl rfl) ?_
    refine AOps.sA (AOp.convSame rfl (by kernel_rfl) rfl (w64 (by omega) (by omega))) ?_
    refine AOps.aA (.nil ?_)
    refine AWP.seq ?_
    refine AWP.draw (by kernel_rfl) (by kernel_rfl) ?_
    refine DRun.sA (AOp.moveD rfl rfl) ?_
    refine DRun.sA (AOp.moveO rfl rfl) ?_
    refine DRun.sA (AOp.moveD rfl rfl) ?_
    refine DRun.sA (AOp.moveD rfl rfl) ?_
    refine DRun.sA (AOp.sub64 rfl rfl rfl (by omega) (by omega)) ?_
    refine DRun.sA (AOp.indexOwn rfl et_26 rfl rfl (.head _) (mid + m - 1 - ((i + j) / 2)) (by omega) (by rw [List.length_map]; omega)) ?_
    refine DRun.sA (AOp.loadRowAgg rfl ag_73 rfl (.head _) (mid + m - 1 - ((i + j) / 2)) rfl (at_list hpl)) ?_
    refine DRun.sA (AOp.moveO rfl rfl) ?_
    refine DRun.sA (AOp.moveD rfl rfl) ?_
    refine DRun.sA (AOp.indexOwn rfl et_26 rfl rfl (.head _) ((i + j) / 2) (by omega) (by rw [List.length_map]; omega)) ?_
    refine DRun.sA (AOp.loadRowAgg rfl ag_73 rfl (.head _) ((i + j) / 2) rfl (at_list hhl)) ?_
    refine DRun.sA (AOp.callClo rfl rfl (.cons (ArgOk.rfl' rfl) (.cons (ArgOk.rfl' rfl) .nil)) (hf (l[mid + m - 1 - ((i + j) / 2)]'hpl).1 (l[((i + j) / 2)]'hhl).1)) ?_
    refine DRun.sA (AOp.lss rfl rfl rfl) ?_
    refine DRun.sA (AOp.not rfl rfl) ?_
    refine DRun.nil ?_
    refine AWP.cond rfl (fun h39 => ?_) (fun h39 => ?_)
    · replace h39 := bnot_t h39; replace h39 := of_decide_eq_false h39
      have HU : CutS cmp l (mid + m - 1) lo0 hi0 (((i + j) / 2) + 1) j := ⟨by omega, by omega, by omega, fun _ => ⟨_, _, at_some l hhl, at_some l hpl, cross_ge htg h39⟩, hs.high⟩
      refine AWP.region ?_
      refine AOps.mA ?_
      refine AOps.sA (AOp.add64 rfl rfl rfl (by omega) (by omega)) ?_
      refine AOps.aA (.nil ?_)
      refine ⟨(((i + j) / 2) + 1, j), HU, (by dsimp only; omega), Sub.less ⟨(SLe.i64 (by dsimp only; omega)), (SLe.refl _), SLe.refl _, SLe.refl _, SLe.refl _, SLe.refl _, SLe.refl _, SLe.refl _, SLe.refl _, SLe.refl _, trivial⟩ (row_same rfl)⟩
    replace h39 := bnot_f h39; replace h39 := of_decide_eq_true h39
    have HD : CutS cmp l (mid + m - 1) lo0 hi0 i ((i + j) / 2) := ⟨by omega, by omega, by omega, hs.low, fun _ => ⟨_, _, at_some l hhl, at_some l hpl, .inl (by omega)⟩⟩
    refine AWP.region ?_
    refine AOps.mA ?_
    refine AOps.aA (.nil ?_)
    refine ⟨(i, ((i + j) / 2)), HD, (by dsimp only; omega), Sub.less ⟨(SLe.refl _), (SLe.i64 (by dsimp only; omega)), SLe.refl _, SLe.refl _, SLe.refl _, SLe.refl _, SLe.refl _, SLe.refl _, SLe.refl _, SLe.refl _, trivial⟩ (row_same rfl)⟩
  replace h38 := of_decide_eq_false h38
  have hij : i = j := by omega
  subst hij
  have hcut := CutS.cut hc s1 s2 hmid ham hmb hg hs
  have hs4 := hcut.has
  have hs5 := hcut.sm
  have hs6 := hcut.me
  have hs7 := hcut.eb
  obtain ⟨k1, k2, k3, k4, k5, k6, k7⟩ := cut_merge hc ht hbl s1 s2 hx hcut
  rw [show i + (mid + m - i - m) = mid by omega] at k2 k3 k4 k5 k6 k7
  have hrl : (rotl l i m (mid + m - i)).length = l.length := rotl_len hs5 hs6 (by omega)
  have ht1 : TagsOk (rotl l i m (mid + m - i)) := ht.perm (rotl_perm hs5 hs6)
  have hl1 : (sortSeg cmp (rotl l i m (mid + m - i)) a mid).length = l.length := by rw [sortSeg_len cmp _ (by omega), hrl]
  have ht2 : TagsOk (sortSeg cmp (rotl l i m (mid + m - i)) a mid) := ht1.perm (sortSeg_perm cmp _ (by omega))
  have HF := k7
  refine AWP.exit ?_
  refine AWP.seq (AWP.region ?_)
  refine AOps.mA ?_
  refine AOps.mA ?_
  refine AOps.sA (AOp.sub64 rfl rfl rfl (by omega) (by omega)) ?_
  refine AOps.aA (.nil ?_)
  refine AWP.seq ?_
  refine AWP.seq (AWP.region ?_)
  refine AOps.mA ?_
  refine AOps.mA ?_
  refine AOps.sA (AOp.lss rfl rfl rfl) ?_
  refine AOps.mA ?_
  refine AOps.split 181 rfl (fun g40 => ?_) (fun g40 => ?_)
  · replace g40 := of_decide_eq_true g40
    refine AOps.sG (AOp.moveD rfl rfl) ?_
    refine AOps.sG (AOp.moveD rfl rfl) ?_
    refine AOps.sG (AOp.lss rfl rfl rfl) ?_
    refine AOps.sA (AOp.pickT rfl rfl rfl) (.nil ?_)
    refine AWP.cond rfl (fun h41 => ?_) (fun h41 => ?_)
    · replace h41 := of_decide_eq_true h41
      refine AWP.region ?_
      refine AOps.sA (AOp.moveO rfl rfl) ?_
      refine AOps.mA ?_
      refine AOps.mA ?_
      refine AOps.mA ?_
      refine AOps.mA ?_
      -- turns 1
      refine AOps.callX rfl rfl rfl (.cons (SLe.refl _) (.cons (SLe.refl _) (.cons (SLe.refl _) (.cons (SLe.i64 (by omega)) (.cons (SLe.refl _) .nil))))) ((c_rotate l i m (mid + m - i) _ (by omega) (by omega) (by omega) hl) 1) ⟨(.head _), trivial⟩ rfl rfl (fun _ h => nomatch h) ?_
      refine AOps.nil ?_
      refine AWP.seq ?_
      refine AWP.seq (AWP.region ?_)
      refine AOps.mA ?_
      refine AOps.mA ?_
      refine AOps.sA (AOp.lss rfl rfl rfl) ?_
      refine AOps.mA ?_
      refine AOps.split 195 rfl (fun g42 => ?_) (fun g42 => ?_)
      · replace g42 := of_decide_eq_true g42
        refine AOps.sG (AOp.moveD rfl rfl) ?_
        refine AOps.sG (AOp.moveD rfl rfl) ?_
        refine AOps.sG (AOp.lss rfl rfl rfl) ?_
        refine AOps.sA (AOp.pickT rfl rfl rfl) (.nil ?_)
        refine AWP.cond rfl (fun h43 => ?_) (fun h43 => ?_)
        · replace h43 := of_decide_eq_true h43
          refine AWP.region ?_
          refine AOps.sA (AOp.moveO rfl rfl) ?_
          refine AOps.mA ?_
          refine AOps.mA ?_
          refine AOps.mA ?_
          refine AOps.mA ?_
          -- turns 1
          refine AOps.callX rfl rfl rfl (.cons (SLe.refl _) (.cons (SLe.refl _) (.cons (SLe.refl _) (.cons (SLe.refl _) (.cons (SLe.refl _) .nil))))) ((ih _ a i mid (by omega) (by omega) (by omega) (by omega) (by omega) ht1 k1 k2 k3) 1) ⟨(.head _), trivial⟩ rfl rfl (fun _ h => nomatch h) ?_
          refine AOps.nil ?_
          refine AWP.seq (AWP.region ?_)
          refine AOps.mA ?_
          refine AOps.mA ?_
          refine AOps.sA (AOp.lss rfl rfl rfl) ?_
          refine AOps.mA ?_
          refine AOps.split 209 rfl (fun g44 => ?_) (fun g44 => ?_)
          · replace g44 := of_decide_eq_true g44
            refine AOps.sG (AOp.moveD rfl rfl) ?_
            refine AOps.sG (AOp.moveD rfl rfl) ?_
            refine AOps.sG (AOp.lss rfl rfl rfl) ?_
            refine AOps.sA (AOp.pickT rfl rfl rfl) (.nil ?_)
            refine AWP.cond rfl (fun h45 => ?_) (fun h45 => ?_)
            · replace h45 := of_decide_eq_true h45
              refine AWP.region ?_
              refine AOps.sA (AOp.moveO rfl rfl) ?_
              refine AOps.mA ?_
              refine AOps.mA ?_
              refine AOps.mA ?_
              refine AOps.mA ?_
              -- turns 1
              refine AOps.callX rfl rfl rfl (.cons (SLe.refl _) (.cons (SLe.refl _) (.cons (SLe.i64 (by omega)) (.cons (SLe.refl _) (.cons (SLe.refl _) .nil))))) ((ih _ mid (mid + m - i) b (by omega) (by omega) (by omega) (by omega) (by omega) ht2 k4 k5 k6) 1) ⟨(.head _), trivial⟩ rfl rfl (fun _ h => nomatch h) ?_
              refine AOps.nil ?_
              refine ⟨trivial, ⟨mem_row_eq (.head _) ?_, trivial⟩⟩
              all_goals (rw [HF])
            replace h45 := of_decide_eq_false h45
            have er3 : (sortSeg cmp (rotl l i m (mid + m - i)) a mid).map tds = (sortSeg cmp (sortSeg cmp (rotl l i m (mid + m - i)) a mid) mid b).map tds := by rw [sortSeg_self hc (by omega) ht2 (sorted_at k4 (by omega) (by omega))]
            rw [er3]
            refine AWP.skip ?_
            refine ⟨trivial, ⟨mem_row_eq (.head _) ?_, trivial⟩⟩
            all_goals (rw [HF])
          replace g44 := of_decide_eq_false g44
          have er3 : (sortSeg cmp (rotl l i m (mid + m - i)) a mid).map tds = (sortSeg cmp (sortSeg cmp (rotl l i m (mid + m - i)) a mid) mid b).map tds := by rw [sortSeg_self hc (by omega) ht2 (sorted_at k5 (by omega) (by omega))]
          rw [er3]
          refine AOps.pA ?_
          refine AOps.pA ?_
          refine AOps.pA ?_
          refine AOps.sA (AOp.pickF rfl rfl rfl) (.nil ?_)
          refine AWP.cond rfl (fun h => nomatch h) (fun _ => ?_)
          refine AWP.skip ?_
          refine ⟨trivial, ⟨mem_row_eq (.head _) ?_, trivial⟩⟩
          all_goals (rw [HF])
        replace h43 := of_decide_eq_false h43
        have er2 : (rotl l i m (mid + m - i)).map tds = (sortSeg cmp (rotl l i m (mid + m - i)) a mid).map tds := by rw [sortSeg_self hc (by omega) ht1 (sorted_at k1 (by omega) (by omega))]
        rw [er2]
        refine AWP.skip ?_
        refine AWP.seq (AWP.region ?_)
        refine AOps.mA ?_
        refine AOps.mA ?_
        refine AOps.sA (AOp.lss rfl rfl rfl) ?_
        refine AOps.mA ?_
        refine AOps.split 209 rfl (fun g46 => ?_) (fun g46 => ?_)
        · replace g46 := of_decide_eq_true g46
          refine AOps.sG (AOp.moveD rfl rfl) ?_
          refine AOps.sG (AOp.moveD rfl rfl) ?_
          refine AOps.sG (AOp.lss rfl rfl rfl) ?_
          refine AOps.sA (AOp.pickT rfl rfl rfl) (.nil ?_)
          refine AWP.cond rfl (fun h47 => ?_) (fun h47 => ?_)
          · replace h47 := of_decide_eq_true h47
            refine AWP.region ?_
            refine AOps.sA (AOp.moveO rfl rfl) ?_
            refine AOps.mA ?_
            refine AOps.mA ?_
            refine AOps.mA ?_
            refine AOps.mA ?_
            -- turns 1
            refine AOps.callX rfl rfl rfl (.cons (SLe.refl _) (.cons (SLe.refl _) (.cons (SLe.i64 (by omega)) (.cons (SLe.refl _) (.cons (SLe.refl _) .nil))))) ((ih _ mid (mid + m - i) b (by omega) (by omega) (by omega) (by omega) (by omega) ht2 k4 k5 k6) 1) ⟨(.head _), trivial⟩ rfl rfl (fun _ h => nomatch h) ?_
            refine AOps.nil ?_
            refine ⟨trivial, ⟨mem_row_eq (.head _) ?_, trivial⟩⟩
            all_goals (rw [HF])
          replace h47 := of_decide_eq_false h47
          have er3 : (sortSeg cmp (rotl l i m (mid + m - i)) a mid).map tds = (sortSeg cmp (sortSeg cmp (rotl l i m (mid + m - i)) a mid) mid b).map tds := by rw [sortSeg_self hc (by omega) ht2 (sorted_at k4 (by omega) (by omega))]
          rw [er3]
          refine AWP.skip ?_
          refine ⟨trivial, ⟨mem_row_eq (.head _) ?_, trivial⟩⟩
          all_goals (rw [HF])
        replace g46 := of_decide_eq_false g46
        have er3 : (sortSeg cmp (rotl l i m (mid + m - i)) a mid).map tds = (sortSeg cmp (sortSeg cmp (rotl l i m (mid + m - i)) a mid) mid b).map tds := by rw [sortSeg_self hc (by omega) ht2 (sorted_at k5 (by omega) (by omega))]
        rw [er3]
        refine AOps.pA ?_
        refine AOps.pA ?_
        refine AOps.pA ?_
        refine AOps.sA (AOp.pickF rfl rfl rfl) (.nil ?_)
        refine AWP.cond rfl (fun h => nomatch h) (fun _ => ?_)
        refine AWP.skip ?_
        refine ⟨trivial, ⟨mem_row_eq (.head _) ?_, trivial⟩⟩
        all_goals (rw [HF])
      replace g42 := of_decide_eq_false g42
      have er2 : (rotl l i m (mid + m - i)).map tds = (sortSeg cmp (rotl l i m (mid + m - i)) a mid).map tds := by rw [sortSeg_self hc (by omega) ht1 (sorted_at k2 (by omega) (by omega))]
      rw [er2]
      refine AOps.pA ?_
      refine AOps.pA ?_
      refine AOps.pA ?_
      refine AOps.sA (AOp.pickF rfl rfl rfl) (.nil ?_)
      refine AWP.cond rfl (fun h => nomatch h) (fun _ => ?_)
      refine AWP.skip ?_
      refine AWP.seq (AWP.region ?_)
      refine AOps.mA ?_
      refine AOps.mA ?_
      refine AOps.sA (AOp.lss rfl rfl rfl) ?_
      refine AOps.mA ?_
      refine AOps.split 209 rfl (fun g48 => ?_) (fun g48 => ?_)
      · replace g48 := of_decide_eq_true g48
        refine AOps.sG (AOp.moveD rfl rfl) ?_
        refine AOps.sG (AOp.moveD rfl rfl) ?_
        refine AOps.sG (AOp.lss rfl rfl rfl) ?_
        refine AOps.sA (AOp.pickT rfl rfl rfl) (.nil ?_)
        refine AWP.cond rfl (fun h49 => ?_) (fun h49 => ?_)
        · replace h49 := of_decide_eq_true h49
          refine AWP.region ?_
          refine AOps.sA (AOp.moveO rfl rfl) ?_
          refine AOps.mA ?_
          refine AOps.mA ?_
          refine AOps.mA ?_
          refine AOps.mA ?_
          -- turns 1
          refine AOps.callX rfl rfl rfl (.cons (SLe.refl _) (.cons (SLe.refl _) (.cons (SLe.i64 (by omega)) (.cons (SLe.refl _) (.cons (SLe.refl _) .nil))))) ((ih _ mid (mid + m - i) b (by omega) (by omega) (by omega) (by omega) (by omega) ht2 k4 k5 k6) 1) ⟨(.head _), trivial⟩ rfl rfl (fun _ h => nomatch h) ?_
          refine AOps.nil ?_
          refine ⟨trivial, ⟨mem_row_eq (.head _) ?_, trivial⟩⟩
          all_goals (rw [HF])
        replace h49 := of_decide_eq_false h49
        have er3 : (sortSeg cmp (rotl l i m (mid + m - i)) a mid).map tds = (sortSeg cmp (sortSeg cmp (rotl l i m (mid + m - i)) a mid) mid b).map tds := by rw [sortSeg_self hc (by omega) ht2 (sorted_at k4 (by omega) (by omega))]
        rw [er3]
        refine AWP.skip ?_
        refine ⟨trivial, ⟨mem_row_eq (.head _) ?_, trivial⟩⟩
        all_goals (rw [HF])
      replace g48 := of_decide_eq_false g48
      have er3 : (sortSeg cmp (rotl l i m (mid + m - i)) a mid).map tds = (sortSeg cmp (sortSeg cmp (rotl l i m (mid + m - i)) a mid) mid b).map tds := by rw [sortSeg_self hc (by omega) ht2 (sorted_at k5 (by omega) (by omega))]
      rw [er3]
      refine AOps.pA ?_
      refine AOps.pA ?_
      refine AOps.pA ?_
      refine AOps.sA (AOp.pickF rfl rfl rfl) (.nil ?_)
      refine AWP.cond rfl (fun h => nomatch h) (fun _ => ?_)
      refine AWP.skip ?_
      refine ⟨trivial, ⟨mem_row_eq (.head _) ?_, trivial⟩⟩
      all_goals (rw [HF])
    replace h41 := of_decide_eq_false h41
    have er : l.map tds = (rotl l i m (mid + m - i)).map tds := by rw [show mid + m - i = m by omega, rotl_id2 (by omega)]
    rw [er]
    refine AWP.skip ?_
    refine AWP.seq ?_
    refine AWP.seq (AWP.region ?_)
    refine AOps.mA ?_
    refine AOps.mA ?_
    refine AOps.sA (AOp.lss rfl rfl rfl) ?_
    refine AOps.mA ?_
    refine AOps.split 195 rfl (fun g50 => ?_) (fun g50 => ?_)
    · replace g50 := of_decide_eq_true g50
      refine AOps.sG (AOp.moveD rfl rfl) ?_
      refine AOps.sG (AOp.moveD rfl rfl) ?_
      refine AOps.sG (AOp.lss rfl rfl rfl) ?_
      refine AOps.sA (AOp.pickT rfl rfl rfl) (.nil ?_)
      refine AWP.cond rfl (fun h51 => ?_) (fun h51 => ?_)
      · replace h51 := of_decide_eq_true h51
        refine AWP.region ?_
        refine AOps.sA (AOp.moveO rfl rfl) ?_
        refine AOps.mA ?_
        refine AOps.mA ?_
        refine AOps.mA ?_
        refine AOps.mA ?_
        -- turns 1
        refine AOps.callX rfl rfl rfl (.cons (SLe.refl _) (.cons (SLe.refl _) (.cons (SLe.refl _) (.cons (SLe.refl _) (.cons (SLe.refl _) .nil))))) ((ih _ a i mid (by omega) (by omega) (by omega) (by omega) (by omega) ht1 k1 k2 k3) 1) ⟨(.head _), trivial⟩ rfl rfl (fun _ h => nomatch h) ?_
        refine AOps.nil ?_
        refine AWP.seq (AWP.region ?_)
        refine AOps.mA ?_
        refine AOps.mA ?_
        refine AOps.sA (AOp.lss rfl rfl rfl) ?_
        refine AOps.mA ?_
        refine AOps.split 209 rfl (fun g52 => ?_) (fun g52 => ?_)
        · replace g52 := of_decide_eq_true g52
          refine AOps.sG (AOp.moveD rfl rfl) ?_
          refine AOps.sG (AOp.moveD rfl rfl) ?_
          refine AOps.sG (AOp.lss rfl rfl rfl) ?_
          refine AOps.sA (AOp.pickT rfl rfl rfl) (.nil ?_)
          refine AWP.cond rfl (fun h53 => ?_) (fun h53 => ?_)
          · replace h53 := of_decide_eq_true h53
            refine AWP.region ?_
            refine AOps.sA (AOp.moveO rfl rfl) ?_
            refine AOps.mA ?_
            refine AOps.mA ?_
            refine AOps.mA ?_
            refine AOps.mA ?_
            -- turns 1
            refine AOps.callX rfl rfl rfl (.cons (SLe.refl _) (.cons (SLe.refl _) (.cons (SLe.i64 (by omega)) (.cons (SLe.refl _) (.cons (SLe.refl _) .nil))))) ((ih _ mid (mid + m - i) b (by omega) (by omega) (by omega) (by omega) (by omega) ht2 k4 k5 k6) 1) ⟨(.head _), trivial⟩ rfl rfl (fun _ h => nomatch h) ?_
            refine AOps.nil ?_
            refine ⟨trivial, ⟨mem_row_eq (.head _) ?_, trivial⟩⟩
            all_goals (rw [HF])
          replace h53 := of_decide_eq_false h53
          have er3 : (sortSeg cmp (rotl l i m (mid + m - i)) a mid).map tds = (sortSeg cmp (sortSeg cmp (rotl l i m (mid + m - i)) a mid) mid b).map tds := by rw [sortSeg_self hc (by omega) ht2 (sorted_at k4 (by omega) (by omega))]
          rw [er3]
          refine AWP.skip ?_
          refine ⟨trivial, ⟨mem_row_eq (.head _) ?_, trivial⟩⟩
          all_goals (rw [HF])
        replace g52 := of_decide_eq_false g52
        have er3 : (sortSeg cmp (rotl l i m (mid + m - i)) a mid).map tds = (sortSeg cmp (sortSeg cmp (rotl l i m (mid + m - i)) a mid) mid b).map tds := by rw [sortSeg_self hc (by omega) ht2 (sorted_at k5 (by omega) (by omega))]
        rw [er3]
        refine AOps.pA ?_
        refine AOps.pA ?_
        refine AOps.pA ?_
        refine AOps.sA (AOp.pickF rfl rfl rfl) (.nil ?_)
        refine AWP.cond rfl (fun h => nomatch h) (fun _ => ?_)
        refine AWP.skip ?_
        refine ⟨trivial, ⟨mem_row_eq (.head _) ?_, trivial⟩⟩
        all_goals (rw [HF])
      replace h51 := of_decide_eq_false h51
      have er2 : (rotl l i m (mid + m - i)).map tds = (sortSeg cmp (rotl l i m (mid + m - i)) a mid).map tds := by rw [sortSeg_self hc (by omega) ht1 (sorted_at k1 (by omega) (by omega))]
      rw [er2]
      refine AWP.skip ?_
      refine AWP.seq (AWP.region ?_)
      refine AOps.mA ?_
      refine AOps.mA ?_
      refine AOps.sA (AOp.lss rfl rfl rfl) ?_
      refine AOps.mA ?_
      refine AOps.split 209 rfl (fun g54 => ?_) (fun g54 => ?_)
      · replace g54 := of_decide_eq_true g54
        refine AOps.sG (AOp.moveD rfl rfl) ?_
        refine AOps.sG (AOp.moveD rfl rfl) ?_
        refine AOps.sG (AOp.lss rfl rfl rfl) ?_
        refine AOps.sA (AOp.pickT rfl rfl rfl) (.nil ?_)
        refine AWP.cond rfl (fun h55 => ?_) (fun h55 => ?_)
        · replace h55 := of_decide_eq_true h55
          refine AWP.region ?_
          refine AOps.sA (AOp.moveO rfl rfl) ?_
          refine AOps.mA ?_
          refine AOps.mA ?_
          refine AOps.mA ?_
          refine AOps.mA ?_
          -- turns 1
          refine AOps.callX rfl rfl rfl (.cons (SLe.refl _) (.cons (SLe.refl _) (.cons (SLe.i64 (by omega)) (.cons (SLe.refl _) (.cons (SLe.refl _) .nil))))) ((ih _ mid (mid + m - i) b (by omega) (by omega) (by omega) (by omega) (by omega) ht2 k4 k5 k6) 1) ⟨(.head _), trivial⟩ rfl rfl (fun _ h => nomatch h) ?_
          refine AOps.nil ?_
          refine ⟨trivial, ⟨mem_row_eq (.head _) ?_, trivial⟩⟩
          all_goals (rw [HF])
        replace h55 := of_decide_eq_false h55
        have er3 : (sortSeg cmp (rotl l i m (mid + m - i)) a mid).map tds = (sortSeg cmp (sortSeg cmp (rotl l i m (mid + m - i)) a mid) mid b).map tds := by rw [sortSeg_self hc (by omega) ht2 (sorted_at k4 (by omega) (by omega))]
        rw [er3]
        refine AWP.skip ?_
        refine ⟨trivial, ⟨mem_row_eq (.head _) ?_, trivial⟩⟩
        all_goals (rw [HF])
      replace g54 := of_decide_eq_false g54
      have er3 : (sortSeg cmp (rotl l i m (mid + m - i)) a mid).map tds = (sortSeg cmp (sortSeg cmp (rotl l i m (mid + m - i)) a mid) mid b).map tds := by rw [sortSeg_self hc (by omega) ht2 (sorted_at k5 (by omega) (by omega))]
      rw [er3]
      refine AOps.pA ?_
      refine AOps.pA ?_
      refine AOps.pA ?_
      refine AOps.sA (AOp.pickF rfl rfl rfl) (.nil ?_)
      refine AWP.cond rfl (fun h => nomatch h) (fun _ => ?_)
      refine AWP.skip ?_
      refine ⟨trivial, ⟨mem_row_eq (.head _) ?_, trivial⟩⟩
      all_goals (rw [HF])
    replace g50 := of_decide_eq_false g50
    have er2 : (rotl l i m (mid + m - i)).map tds = (sortSeg cmp (rotl l i m (mid + m - i)) a mid).map tds := by rw [sortSeg_self hc (by omega) ht1 (sorted_at k2 (by omega) (by omega))]
    rw [er2]
    refine AOps.pA ?_
    refine AOps.pA ?_
    refine AOps.pA ?_
    refine AOps.sA (AOp.pickF rfl rfl rfl) (.nil ?_)
    refine AWP.cond rfl (fun h => nomatch h) (fun _ => ?_)
    refine AWP.skip ?_
    refine AWP.seq (AWP.region ?_)
    refine AOps.mA ?_
    refine AOps.mA ?_
    refine AOps.sA (AOp.lss rfl rfl rfl) ?_
    refine AOps.mA ?_
    refine AOps.split 209 rfl (fun g56 => ?_) (fun g56 => ?_)
    · replace g56 := of_decide_eq_true g56
      refine AOps.sG (AOp.moveD rfl rfl) ?_
      refine AOps.sG (AOp.moveD rfl rfl) ?_
      refine AOps.sG (AOp.lss rfl rfl rfl) ?_
      refine AOps.sA (AOp.pickT rfl rfl rfl) (.nil ?_)
      refine AWP.cond rfl (fun h57 => ?_) (fun h57 => ?_)
      · replace h57 := of_decide_eq_true h57
        refine AWP.region ?_
        refine AOps.sA (AOp.moveO rfl rfl) ?_
        refine AOps.mA ?_
        refine AOps.mA ?_
        refine AOps.mA ?_
        refine AOps.mA ?_
        -- turns 1
        refine AOps.callX rfl rfl rfl (.cons (SLe.refl _) (.cons (SLe.refl _) (.cons (SLe.i64 (by omega)) (.cons (SLe.refl _) (.cons (SLe.refl _) .nil))))) ((ih _ mid (mid + m - i) b (by omega) (by omega) (by omega) (by omega) (by omega) ht2 k4 k5 k6) 1) ⟨(.head _), trivial⟩ rfl rfl (fun _ h => nomatch h) ?_
        refine AOps.nil ?_
        refine ⟨trivial, ⟨mem_row_eq (.head _) ?_, trivial⟩⟩
        all_goals (rw [HF])
      replace h57 := of_decide_eq_false h57
      have er3 : (sortSeg cmp (rotl l i m (mid + m - i)) a mid).map tds = (sortSeg cmp (sortSeg cmp (rotl l i m (mid + m - i)) a mid) mid b).map tds := by rw [sortSeg_self hc (by omega) ht2 (sorted_at k4 (by omega) (by omega))]
      rw [er3]
      refine AWP.skip ?_
      refine ⟨trivial, ⟨mem_row_eq (.head _) ?_, trivial⟩⟩
      all_goals (rw [HF])
    replace g56 := of_decide_eq_false g56
    have er3 : (sortSeg cmp (rotl l i m (mid + m - i)) a mid).map tds = (sortSeg cmp (sortSeg cmp (rotl l i m (mid + m - i)) a mid) mid b).map tds := by rw [sortSeg_self hc (by omega) ht2 (sorted_at k5 (by omega) (by omega))]
    rw [er3]
    refine AOps.pA ?_
    refine AOps.pA ?_
    refine AOps.pA ?_
    refine AOps.sA (AOp.pickF rfl rfl rfl) (.nil ?_)
    refine AWP.cond rfl (fun h => nomatch h) (fun _ => ?_)
    refine AWP.skip ?_
    refine ⟨trivial, ⟨mem_row_eq (.head _) ?_, trivial⟩⟩
    all_goals (rw [HF])
  replace g40 := of_decide_eq_false g40
  have er : l.map tds = (rotl l i m (mid + m - i)).map tds := by rw [show i = m by omega, rotl_id1 (by omega)]
  rw [er]
  refine AOps.pA ?_
  refine AOps.pA ?_
  refine AOps.pA ?_
  refine AOps.sA (AOp.pickF rfl rfl rfl) (.nil ?_)
  refine AWP.cond rfl (fun h => nomatch h) (fun _ => ?_)
  refine AWP.skip ?_
  refine AWP.seq ?_
  refine AWP.seq (AWP.region ?_)
  refine AOps.mA ?_
  refine AOps.mA ?_
  refine AOps.sA (AOp.lss rfl rfl rfl) ?_
  refine AOps.mA ?_
  refine AOps.split 195 rfl (fun g58 => ?_) (fun g58 => ?_)
  · replace g58 := of_decide_eq_true g58
    refine AOps.sG (AOp.moveD rfl rfl) ?_
    refine AOps.sG (AOp.moveD rfl rfl) ?_
    refine AOps.sG (AOp.lss rfl rfl rfl) ?_
    refine AOps.sA (AOp.pickT rfl rfl rfl) (.nil ?_)
    refine AWP.cond rfl (fun h59 => ?_) (fun h59 => ?_)
    · replace h59 := of_decide_eq_true h59
      refine AWP.region ?_
      refine AOps.sA (AOp.moveO rfl rfl) ?_
      refine AOps.mA ?_
      refine AOps.mA ?_
      refine AOps.mA ?_
      refine AOps.mA ?_
      -- turns 1
      refine AOps.callX rfl rfl rfl (.cons (SLe.refl _) (.cons (SLe.refl _) (.cons (SLe.refl _) (.cons (SLe.refl _) (.cons (SLe.refl _) .nil))))) ((ih _ a i mid (by omega) (by omega) (by omega) (by omega) (by omega) ht1 k1 k2 k3) 1) ⟨(.head _), trivial⟩ rfl rfl (fun _ h => nomatch h) ?_
      refine AOps.nil ?_
      refine AWP.seq (AWP.region ?_)
      refine AOps.mA ?_
      refine AOps.mA ?_
      refine AOps.sA (AOp.lss rfl rfl rfl) ?_
      refine AOps.mA ?_
      refine AOps.split 209 rfl (fun g60 => ?_) (fun g60 => ?_)
      · replace g60 := of_decide_eq_true g60
        refine AOps.sG (AOp.moveD rfl rfl) ?_
        refine AOps.sG (AOp.moveD rfl rfl) ?_
        refine AOps.sG (AOp.lss rfl rfl rfl) ?_
        refine AOps.sA (AOp.pickT rfl rfl rfl) (.nil ?_)
        refine AWP.cond rfl (fun h61 => ?_) (fun h61 => ?_)
        · replace h61 := of_decide_eq_true h61
          refine AWP.region ?_
          refine AOps.sA (AOp.moveO rfl rfl) ?_
          refine AOps.mA ?_
          refine AOps.mA ?_
          refine AOps.mA ?_
          refine AOps.mA ?_
          -- turns 1
          refine AOps.callX rfl rfl rfl (.cons (SLe.refl _) (.cons (SLe.refl _) (.cons (SLe.i64 (by omega)) (.cons (SLe.refl _) (.cons (SLe.refl _) .nil))))) ((ih _ mid (mid + m - i) b (by omega) (by omega) (by omega) (by omega) (by omega) ht2 k4 k5 k6) 1) ⟨(.head _), trivial⟩ rfl rfl (fun _ h => nomatch h) ?_
          refine AOps.nil ?_
          refine ⟨trivial, ⟨mem_row_eq (.head _) ?_, trivial⟩⟩
          all_goals (rw [HF])
        replace h61 := of_decide_eq_false h61
        have er3 : (sortSeg cmp (rotl l i m (mid + m - i)) a mid).map tds = (sortSeg cmp (sortSeg cmp (rotl l i m (mid + m - i)) a mid) mid b).map tds := by rw [sortSeg_self hc (by omega) ht2 (sorted_at k4 (by omega) (by omega))]
        rw [er3]
        refine AWP.skip ?_
        refine ⟨trivial, ⟨mem_row_eq (.head _) ?_, trivial⟩⟩
        all_goals (rw [HF])
      replace g60 := of_decide_eq_false g60
      have er3 : (sortSeg cmp (rotl l i m (mid + m - i)) a mid).map tds = (sortSeg cmp (sortSeg cmp (rotl l i m (mid + m - i)) a mid) mid b).map tds := by rw [sortSeg_self hc (by omega) ht2 (sorted_at k5 (by omega) (by omega))]
      rw [er3]
      refine AOps.pA ?_
      refine AOps.pA ?_
      refine AOps.pA ?_
      refine AOps.sA (AOp.pickF rfl rfl rfl) (.nil ?_)
      refine AWP.cond rfl (fun h => nomatch h) (fun _ => ?_)
      refine AWP.skip ?_
      refine ⟨trivial, ⟨mem_row_eq (.head _) ?_, trivial⟩⟩
      all_goals (rw [HF])
    replace h59 := of_decide_eq_false h59
    have er2 : (rotl l i m (mid + m - i)).map tds = (sortSeg cmp (rotl l i m (mid + m - i)) a mid).map tds := by rw [sortSeg_self hc (by omega) ht1 (sorted_at k1 (by omega) (by omega))]
    rw [er2]
    refine AWP.skip ?_
    refine AWP.seq (AWP.region ?_)
    refine AOps.mA ?_
    refine AOps.mA ?_
    refine AOps.sA (AOp.lss rfl rfl rfl) ?_
    refine AOps.mA ?_
    refine AOps.split 209 rfl (fun g62 => ?_) (fun g62 => ?_)
    · replace g62 := of_decide_eq_true g62
      refine AOps.sG (AOp.moveD rfl rfl) ?_
      refine AOps.sG (AOp.moveD rfl rfl) ?_
      refine AOps.sG (AOp.lss rfl rfl rfl) ?_
      refine AOps.sA (AOp.pickT rfl rfl rfl) (.nil ?_)
      refine AWP.cond rfl (fun h63 => ?_) (fun h63 => ?_)
      · replace h63 := of_decide_eq_true h63
        refine AWP.region ?_
        refine AOps.sA (AOp.moveO rfl rfl) ?_
        refine AOps.mA ?_
        refine AOps.mA ?_
        refine AOps.mA ?_
        refine AOps.mA ?_
        -- turns 1
        refine AOps.callX rfl rfl rfl (.cons (SLe.refl _) (.cons (SLe.refl _) (.cons (SLe.i64 (by omega)) (.cons (SLe.refl _) (.cons (SLe.refl _) .nil))))) ((ih _ mid (mid + m - i) b (by omega) (by omega) (by omega) (by omega) (by omega) ht2 k4 k5 k6) 1) ⟨(.head _), trivial⟩ rfl rfl (fun _ h => nomatch h) ?_
        refine AOps.nil ?_
        refine ⟨trivial, ⟨mem_row_eq (.head _) ?_, trivial⟩⟩
        all_goals (rw [HF])
      replace h63 := of_decide_eq_false h63
      have er3 : (sortSeg cmp (rotl l i m (mid + m - i)) a mid).map tds = (sortSeg cmp (sortSeg cmp (rotl l i m (mid + m - i)) a mid) mid b).map tds := by rw [sortSeg_self hc (by omega) ht2 (sorted_at k4 (by omega) (by omega))]
      rw [er3]
      refine AWP.skip ?_
      refine ⟨trivial, ⟨mem_row_eq (.head _) ?_, trivial⟩⟩
      all_goals (rw [HF])
    replace g62 := of_decide_eq_false g62
    have er3 : (sortSeg cmp (rotl l i m (mid + m - i)) a mid).map tds = (sortSeg cmp (sortSeg cmp (rotl l i m (mid + m - i)) a mid) mid b).map tds := by rw [sortSeg_self hc (by omega) ht2 (sorted_at k5 (by omega) (by omega))]
    rw [er3]
    refine AOps.pA ?_
    refine AOps.pA ?_
    refine AOps.pA ?_
    refine AOps.sA (AOp.pickF rfl rfl rfl) (.nil ?_)
    refine AWP.cond rfl (fun h => nomatch h) (fun _ => ?_)
    refine AWP.skip ?_
    refine ⟨trivial, ⟨mem_row_eq (.head _) ?_, trivial⟩⟩
    all_goals (rw [HF])
  replace g58 := of_decide_eq_false g58
  have er2 : (rotl l i m (mid + m - i)).map tds = (sortSeg cmp (rotl l i m (mid + m - i)) a mid).map tds := by rw [sortSeg_self hc (by omega) ht1 (sorted_at k2 (by omega) (by omega))]
  rw [er2]
  refine AOps.pA ?_
  refine AOps.pA ?_
  refine AOps.pA ?_
  refine AOps.sA (AOp.pickF rfl rfl rfl) (.nil ?_)
  refine AWP.cond rfl (fun h => nomatch h) (fun _ => ?_)
  refine AWP.skip ?_
  refine AWP.seq (AWP.region ?_)
  refine AOps.mA ?_
  refine AOps.mA ?_
  refine AOps.sA (AOp.lss rfl rfl rfl) ?_
  refine AOps.mA ?_
  refine AOps.split 209 rfl (fun g64 => ?_) (fun g64 => ?_)
  · replace g64 := of_decide_eq_true g64
    refine AOps.sG (AOp.moveD rfl rfl) ?_
    refine AOps.sG (AOp.moveD rfl rfl) ?_
    refine AOps.sG (AOp.lss rfl rfl rfl) ?_
    refine AOps.sA (AOp.pickT rfl rfl rfl) (.nil ?_)
    refine AWP.cond rfl (fun h65 => ?_) (fun h65 => ?_)
    · replace h65 := of_decide_eq_true h65
      refine AWP.region ?_
      refine AOps.sA (AOp.moveO rfl rfl) ?_
      refine AOps.mA ?_
      refine AOps.mA ?_
      refine AOps.mA ?_
      refine AOps.mA ?_
      -- turns 1
      refine AOps.callX rfl rfl rfl (.cons (SLe.refl _) (.cons (SLe.refl _) (.cons (SLe.i64 (by omega)) (.cons (SLe.refl _) (.cons (SLe.refl _) .nil))))) ((ih _ mid (mid + m - i) b (by omega) (by omega) (by omega) (by omega) (by omega) ht2 k4 k5 k6) 1) ⟨(.head _), trivial⟩ rfl rfl (fun _ h => nomatch h) ?_
      refine AOps.nil ?_
      refine ⟨trivial, ⟨mem_row_eq (.head _) ?_, trivial⟩⟩
      all_goals (rw [HF])
    replace h65 := of_decide_eq_false h65
    have er3 : (sortSeg cmp (rotl l i m (mid + m - i)) a mid).map tds = (sortSeg cmp (sortSeg cmp (rotl l i m (mid + m - i)) a mid) mid b).map tds := by rw [sortSeg_self hc (by omega) ht2 (sorted_at k4 (by omega) (by omega))]
    rw [er3]
    refine AWP.skip ?_
    refine ⟨trivial, ⟨mem_row_eq (.head _) ?_, trivial⟩⟩
    all_goals (rw [HF])
  replace g64 := of_decide_eq_false g64
  have er3 : (sortSeg cmp (rotl l i m (mid + m - i)) a mid).map tds = (sortSeg cmp (sortSeg cmp (rotl l i m (mid + m - i)) a mid) mid b).map tds := by rw [sortSeg_self hc (by omega) ht2 (sorted_at k5 (by omega) (by omega))]
  rw [er3]
  refine AOps.pA ?_
  refine AOps.pA ?_
  refine AOps.pA ?_
  refine AOps.sA (AOp.pickF rfl rfl rfl) (.nil ?_)
  refine AWP.cond rfl (fun h => nomatch h) (fun _ => ?_)
  refine AWP.skip ?_
  refine ⟨trivial, ⟨mem_row_eq (.head _) ?_, trivial⟩⟩
  all_goals (rw [HF])

end Go.Proofs.YtgldfnkbpopanaaGreatDoor


namespace Go.Proofs.YtgldfnkbpopanaaGreatDoor
open Go.RowKit
set_option linter.unusedVariables false

/-! Types. -/
namespace TyDS11
theorem et_26 : ElemTy Tryz.prog 26 73 2 16 (.agg #[(.int .i64 0), (.bool false)]) := ⟨by kernel_rfl, by kernel_rfl, by kernel_rfl, by decide⟩
end TyDS11
open TyDS11


theorem c_symMerge (cmp : Dsp → Dsp → Int) (hc : PreC cmp) (f : Nat) (caps : List D) (hf : ∀ x y : Dsp, ACall Tryz.prog f (.agg x.ds :: .agg y.ds :: caps) (.v (.int .i64 (cmp x y)))) : ∀ (N : Nat) (l : List (Dsp × Nat)) (a m b : Nat), b - a ≤ N → a < m → m < b → b ≤ l.length → l.length ≤ 4611686018427387904 → TagsOk l → SortedOn cmp l a m → SortedOn cmp l m b → Cross l a m b →
    RCall Tryz.prog 117 73 2 (l.map tds) ((sortSeg cmp l a b).map tds) [.v (.int .i64 a), .v (.int .i64 m), .v (.int .i64 b), .clo (.func f) caps] (.tup [])
  | 0, _, _, _, _, hN, h1, h2, _, _, _, _, _, _ => by omega
  | N + 1, l, a, m, b, hN, h1, h2, h3, hl, ht, s1, s2, hx => c_symStep cmp hc f caps hf (N + 1) (fun l a m b q1 q2 q3 q4 q5 q6 q7 q8 q9 => c_symMerge cmp hc f caps hf N l a m b (by omega) q2 q3 q4 q5 q6 q7 q8 q9) l a m b hN h1 h2 h3 hl ht s1 s2 hx
section
variable {α : Type} {cmp : α → α → Int}
theorem dvd_gap {s a m : Nat} (h1 : s ∣ a) (h2 : s ∣ m) (h : a < m) : a + s ≤ m := by
  obtain ⟨k, rfl⟩ := h1
  obtain ⟨j, rfl⟩ := h2
  have : k < j := Nat.lt_of_mul_lt_mul_left h
  have := Nat.mul_le_mul_left s this
  rw [Nat.mul_succ] at this
  exact this
/-- Pieces in order, cut at B; who lies before a cut came before. -/
def Runs (cmp : α → α → Int) (n : Nat) (B : Nat → Prop) (c : List (α × Nat)) : Prop := (∀ m, B m → Cross c 0 m n) ∧ ∀ i j x y, i < j → j < n → (∀ m, i < m → m ≤ j → ¬ B m) → c[i]? = some x → c[j]? = some y → tlt cmp x y
theorem Runs.congr {n : Nat} {B B' : Nat → Prop} {c : List (α × Nat)} (h : Runs cmp n B c) (hb : ∀ m, 0 < m → m < n → (B m ↔ B' m)) : Runs cmp n B' c := by
  refine ⟨fun m hm i j x y h1 h2 h3 h4 hx hy => ?_, fun i j x y h1 h2 h3 hx hy => h.2 i j x y h1 h2 (fun m q1 q2 q3 => h3 m q1 q2 ((hb m (by omega) (by omega)).1 q3)) hx hy⟩
  exact h.1 m ((hb m (by omega) (by omega)).2 hm) i j x y h1 h2 h3 h4 hx hy
theorem Runs.sorted {n : Nat} {B : Nat → Prop} {c : List (α × Nat)} (h : Runs cmp n B c) {a b : Nat} (hb : b ≤ n) (hn : ∀ m, a < m → m < b → ¬ B m) : SortedOn cmp c a b :=
  fun i j x y h1 h2 h3 hx hy => h.2 i j x y h2 (by omega) (fun m q1 q2 => hn m (by omega) (by omega)) hx hy
theorem Runs.cross {n : Nat} {B : Nat → Prop} {c : List (α × Nat)} (h : Runs cmp n B c) {a m b : Nat} (hm : B m) (hb : b ≤ n) : Cross c a m b := fun i j x y _ h2 h3 h4 hx hy => h.1 m hm i j x y (Nat.zero_le _) h2 h3 (by omega) hx hy
theorem seg_from {l : List (α × Nat)} {a b : Nat} (hab : a ≤ b) (hb : b ≤ l.length) {p : Nat} {x : α × Nat} (h : (sortSeg cmp l a b)[p]? = some x) : ∃ q, l[q]? = some x ∧ (p < a → q = p) ∧ (b ≤ p → q = p) ∧ (a ≤ p → p < b → a ≤ q ∧ q < b) := by
  by_cases h1 : p < a
  · exact ⟨p, by rw [← sortSeg_out cmp l hab hb p (.inl h1)]; exact h, fun _ => rfl, fun _ => rfl, fun _ _ => by omega⟩
  · by_cases h2 : b ≤ p
    · exact ⟨p, by rw [← sortSeg_out cmp l hab hb p (.inr h2)]; exact h, fun _ => rfl, fun _ => rfl, fun _ _ => by omega⟩
    · obtain ⟨q, q1, q2, q3⟩ := sortSeg_mem hab hb (by omega) (by omega) h
      exact ⟨q, q3, fun _ => by omega, fun _ => by omega, fun _ _ => ⟨q1, q2⟩⟩
theorem Runs.step (hc : PreC cmp) {n : Nat} {B : Nat → Prop} {c : List (α × Nat)} (h : Runs cmp n B c) (ht : TagsOk c) {a b : Nat} (hab : a ≤ b) (hbn : b ≤ n) (hn : n ≤ c.length) (hBa : B a) (hBb : B b ∨ b = n) : Runs cmp n (fun m => B m ∧ ¬ (a < m ∧ m < b)) (sortSeg cmp c a b) := by
  refine ⟨fun m hm i j x y h1 h2 h3 h4 hx hy => ?_, fun i j x y h1 h2 h3 hx hy => ?_⟩
  · obtain ⟨p, p1, p2, p3, p4⟩ := seg_from hab (by omega) hx
    obtain ⟨q, q1, q2, q3, q4⟩ := seg_from hab (by omega) hy
    refine h.1 m hm.1 p q x y (Nat.zero_le _) ?_ ?_ ?_ p1 q1 <;> have := hm.2 <;> by_cases c1 : i < a <;> by_cases c2 : b ≤ i <;> by_cases c3 : j < a <;> by_cases c4 : b ≤ j <;> omega
  · by_cases c1 : a ≤ i ∧ j < b
    · exact sortSeg_sorted hc hab (by omega) ht i j x y c1.1 h1 c1.2 hx hy
    · by_cases c2 : i < a ∧ a ≤ j
      · exact absurd ⟨hBa, by omega⟩ (h3 a c2.1 c2.2)
      · by_cases c3 : i < b ∧ b ≤ j
        · rcases hBb with hBb | hBb
          · exact absurd ⟨hBb, by omega⟩ (h3 b c3.1 c3.2)
          · omega
        · rw [sortSeg_out cmp c hab (by omega) i (by omega)] at hx
          rw [sortSeg_out cmp c hab (by omega) j (by omega)] at hy
          exact h.2 i j x y h1 h2 (fun m q1 q2 q3 => h3 m q1 q2 ⟨q3, by omega⟩) hx hy
def Bk (s a s2 m : Nat) : Prop := (s ∣ m ∧ m ≤ a) ∨ (s2 ∣ m ∧ a ≤ m)
theorem Bk.start {l : List (α × Nat)} {n s : Nat} (h : Incr l 0 n) : Runs cmp n (Bk s 0 1) l :=
  ⟨fun m hm i j x y h1 h2 h3 h4 hx hy => h i j x y h1 (by omega) h4 hx hy, fun i j x y h1 h2 h3 => absurd (.inr ⟨Nat.one_dvd _, Nat.zero_le _⟩) (h3 j h1 (Nat.le_refl _))⟩
theorem Bk.incr {c : List (α × Nat)} {n s a b : Nat} (h : Runs cmp n (Bk s a 1) c) (hb : b ≤ n) : Incr c a b := fun i j x y h1 h2 h3 hx hy => h.1 j (.inr ⟨Nat.one_dvd _, by omega⟩) i j x y (Nat.zero_le _) h2 (Nat.le_refl _) (by omega) hx hy
theorem Bk.at {s a s2 : Nat} (h : s ∣ a) : Bk s a s2 a := .inl ⟨h, Nat.le_refl _⟩
theorem Bk.next {s a s2 : Nat} (h : s2 ∣ s) (ha : s ∣ a) (hs : 0 < s) (m : Nat) : (Bk s a s2 m ∧ ¬ (a < m ∧ m < a + s)) ↔ Bk s (a + s) s2 m := by
  constructor
  · rintro ⟨⟨h1, h2⟩ | ⟨h1, h2⟩, h3⟩
    · exact .inl ⟨h1, by omega⟩
    · by_cases e : m = a
      · subst e; exact .inl ⟨ha, by omega⟩
      · exact .inr ⟨h1, by omega⟩
  · rintro (⟨h1, h2⟩ | ⟨h1, h2⟩)
    · by_cases e : m ≤ a
      · exact ⟨.inl ⟨h1, e⟩, by omega⟩
      · have := dvd_gap ha h1 (by omega)
        exact ⟨.inr ⟨Nat.dvd_trans h h1, by omega⟩, by omega⟩
    · exact ⟨.inr ⟨h1, by omega⟩, by omega⟩
theorem Bk.last {s a s2 n : Nat} (ha : s ∣ a) (hn : n ≤ a + s) (m : Nat) (hm : m < n) : (Bk s a s2 m ∧ ¬ (a < m ∧ m < n)) ↔ s ∣ m := by
  constructor
  · rintro ⟨⟨h1, h2⟩ | ⟨h1, h2⟩, h3⟩
    · exact h1
    · have : m = a := by omega
      subst this; exact ha
  · intro h1
    have h2 : m ≤ a := Nat.le_of_not_lt fun hh => by have := dvd_gap ha h1 hh; omega
    exact ⟨.inl ⟨h1, h2⟩, by omega⟩
theorem Bk.skip {s a s2 n : Nat} (ha : s ∣ a) (ha2 : s2 ∣ a) (h2 : s2 ≤ s) (hn : n ≤ a + s2) (m : Nat) (hm : m < n) : Bk s a s2 m ↔ s ∣ m := by
  constructor
  · rintro (⟨h1, h2⟩ | ⟨h1, h2⟩)
    · exact h1
    · have h3 : m ≤ a := Nat.le_of_not_lt fun hh => by have := dvd_gap ha2 h1 hh; omega
      have : m = a := by omega
      subst this; exact ha
  · intro h1
    exact .inl ⟨h1, Nat.le_of_not_lt fun hh => by have := dvd_gap ha h1 hh; omega⟩
theorem Bk.open {s : Nat} (m : Nat) : s ∣ m ↔ Bk (2 * s) 0 s m :=
  ⟨fun h => .inr ⟨h, Nat.zero_le _⟩, fun h => h.elim (fun h => Nat.dvd_trans ⟨2, Nat.mul_comm _ _⟩ h.1) (fun h => h.1)⟩
theorem Bk.run1 {c : List (α × Nat)} {n s a : Nat} (h : Runs cmp n (Bk (2 * s) a s) c) (ha : s ∣ a) (hb : a + s ≤ n) : SortedOn cmp c a (a + s) := h.sorted hb fun m h1 h2 h3 => by
  rcases h3 with ⟨_, h3⟩ | ⟨h3, _⟩
  · omega
  · have := dvd_gap ha h3 h1; omega
theorem Bk.run2 {c : List (α × Nat)} {n s a b : Nat} (h : Runs cmp n (Bk (2 * s) a s) c) (ha : s ∣ a) (hb : b ≤ n) (hb2 : b ≤ a + 2 * s) : SortedOn cmp c (a + s) b := h.sorted hb fun m h1 h2 h3 => by
  rcases h3 with ⟨_, h3⟩ | ⟨h3, _⟩
  · omega
  · have := dvd_gap (Nat.dvd_add ha (Nat.dvd_refl s)) h3 h1; omega
theorem Bk.mid {s a : Nat} (ha : s ∣ a) : Bk (2 * s) a s (a + s) := .inr ⟨Nat.dvd_add ha (Nat.dvd_refl s), by omega⟩
theorem runs_end (hc : PreC cmp) {l c : List (α × Nat)} {s : Nat} (ht : TagsOk l) (hp : c.Perm l) (h : Runs cmp l.length (fun m => s ∣ m) c) (hs : l.length ≤ s) : c = sortSeg cmp l 0 l.length :=
  sortSeg_eq hc (Nat.zero_le _) ht hp (fun p h1 => by rw [List.getElem?_eq_none (by rw [hp.length_eq]; omega), List.getElem?_eq_none (by omega)])
    (h.sorted (Nat.le_refl _) fun m h1 h2 h3 => by have := Nat.le_of_dvd h1 h3; omega)
end


set_option maxRecDepth 100000 in
set_option maxHeartbeats 1000000 in
theorem c_stable (cmp : Dsp → Dsp → Int) (hc : PreC cmp) (f : Nat) (caps : List D) (hf : ∀ x y : Dsp, ACall Tryz.prog f (.agg x.ds :: .agg y.ds :: caps) (.v (.int .i64 (cmp x y)))) (l : List (Dsp × Nat)) (hl : l.length ≤ 1152921504606846976) (ht : TagsOk l) (hin : Incr l 0 l.length) : RCall Tryz.prog 78 73 2 (l.map tds) ((sortSeg cmp l 0 l.length).map tds) [.v (.int .i64 l.length), .clo (.func f) caps] (.tup []) := by
  refine RCall.of1 (chg := fun i => Nat.ble 1000 i) (xcall_of (n := 63) (ds' := []) Tryz.func78 rfl (by kernel_rfl) rfl [] rfl rfl ?_) rfl
  intro B w0 F0 fr ρ0
  refine AWP.seq (AWP.region ?_)
  refine AOps.aA (.nil ?_)
  refine AWP.seq (AWP.region ?_)
  refine AOps.mA ?_
  refine AOps.aA ?_
  refine AOps.aA (.nil ?_)
  refine AWP.seq ?_
  refine AWP.block ?_
  refine AWP.loop (G := List (Dsp × Nat) × Nat) (fun g => Env.of [(6, .d (.v (.int .i64 20))), (7, .d (.v (.int .i64 (g.2 : Int)))), (8, .d (.v (.int .i64 ((g.2 + 20 : Nat) : Int)))), (0, .own 1), (1, .d (.v (.int .i64 (l.length : Int)))), (2, .d (.clo (.func f) caps))]) (fun g => [(1, .row 73 2 (g.1.map tds))]) (fun g => 20 ∣ g.2 ∧ g.2 ≤ l.length ∧ Runs cmp l.length (Bk 20 g.2 1) g.1 ∧ g.1.Perm l) (fun g => l.length - g.2) (l, 0) ⟨Nat.dvd_zero _, Nat.zero_le _, Bk.start hin, List.Perm.refl _⟩ (Sub.less ⟨SLe.refl _, (SLe.i64 rfl), (SLe.i64 rfl), SLe.refl _, SLe.refl _, SLe.refl _, trivial⟩ (row_same rfl)) ?_
  rintro ⟨c, a⟩ ⟨hg1, hg2, hg3, hg4⟩
  dsimp only at hg1 hg2 hg3 hg4 ⊢
  have hcl := hg4.length_eq
  have htc : TagsOk c := ht.perm hg4
  refine AWP.seq ?_
  refine AWP.seq (AWP.region ?_)
  refine AOps.mA ?_
  refine AOps.mA ?_
  refine AOps.sA (AOp.leq rfl rfl rfl) (.nil ?_)
  refine AWP.cond rfl (fun h1 => ?_) (fun h1 => ?_)
  · replace h1 := of_decide_eq_true h1
    refine AWP.skip ?_
    refine AWP.block ?_
    refine AWP.seq (AWP.region ?_)
    refine AOps.sA (AOp.moveO rfl rfl) ?_
    refine AOps.mA ?_
    refine AOps.mA ?_
    refine AOps.mA ?_
    -- turns 1
    refine AOps.callX rfl rfl rfl (.cons (SLe.refl _) (.cons (SLe.refl _) (.cons (SLe.i64 (by omega)) (.cons (SLe.refl _) .nil)))) ((c_insSort c a (a + 20) cmp hc f caps hf htc (Bk.incr hg3 (by omega)) (by omega) (by omega) (by omega)) 1) ⟨(.head _), trivial⟩ rfl rfl (fun _ h => nomatch h) ?_
    refine AOps.nil ?_
    refine AWP.seq (AWP.region ?_)
    refine AOps.mA ?_
    refine AOps.aA (.nil ?_)
    refine AWP.region ?_
    refine AOps.mA ?_
    refine AOps.mA ?_
    refine AOps.sA (AOp.add64 rfl rfl rfl (by omega) (by omega)) ?_
    refine AOps.aA (.nil ?_)
    refine ⟨(sortSeg cmp c a (a + 20), a + 20), ⟨Nat.dvd_add hg1 (Nat.dvd_refl _), by dsimp only; omega, (hg3.step hc htc (a := a) (b := a + 20) (by omega) (by omega) (by omega) (Bk.at hg1) (.inl (.inr ⟨Nat.one_dvd _, by omega⟩))).congr (fun m _ _ => Bk.next (s := 20) (s2 := 1) (Nat.one_dvd _) hg1 (by decide) m), (sortSeg_perm cmp c (Nat.le_add_right _ _)).trans hg4⟩, (by dsimp only; omega), Sub.less ⟨SLe.refl _, (SLe.i64 (by first | rfl | omega | (dsimp only; omega))), (SLe.i64 (by first | rfl | omega | (dsimp only; omega))), SLe.refl _, SLe.refl _, SLe.refl _, trivial⟩ (row_same rfl)⟩
  replace h1 := of_decide_eq_false h1
  have hr1 := hg3.step hc htc (a := a) (b := l.length) (by omega) (Nat.le_refl _) (by omega) (Bk.at hg1) (.inr rfl)
  have hr2 : Runs cmp l.length (fun m => 20 ∣ m) (sortSeg cmp c a l.length) := hr1.congr fun m _ q2 => Bk.last hg1 (by omega) m q2
  have hp2 : (sortSeg cmp c a l.length).Perm l := (sortSeg_perm cmp c hg2).trans hg4
  refine AWP.exit ?_
  refine AWP.seq (AWP.region ?_)
  refine AOps.sA (AOp.moveO rfl rfl) ?_
  refine AOps.mA ?_
  refine AOps.mA ?_
  refine AOps.mA ?_
  -- turns 1
  refine AOps.callX rfl rfl rfl (.cons (SLe.refl _) (.cons (SLe.refl _) (.cons (SLe.refl _) (.cons (SLe.refl _) .nil)))) ((c_insSort c a l.length cmp hc f caps hf htc (Bk.incr hg3 (Nat.le_refl _)) hg2 (by omega) (by omega)) 1) ⟨(.head _), trivial⟩ rfl rfl (fun _ h => nomatch h) ?_
  refine AOps.nil ?_
  refine AWP.block ?_
  refine AWP.loop (G := List (Dsp × Nat) × Nat) (fun g => Env.of [(6, .d (.v (.int .i64 (g.2 : Int)))), (0, .own 1), (1, .d (.v (.int .i64 (l.length : Int)))), (2, .d (.clo (.func f) caps))]) (fun g => [(1, .row 73 2 (g.1.map tds))]) (fun g => 20 ≤ g.2 ∧ g.2 ≤ 2305843009213693952 ∧ g.1.Perm l ∧ Runs cmp l.length (fun m => g.2 ∣ m) g.1) (fun g => l.length - g.2) (sortSeg cmp c a l.length, 20) ⟨Nat.le_refl _, by dsimp only; omega, hp2, hr2⟩ (Sub.less ⟨(SLe.i64 rfl), SLe.refl _, SLe.refl _, SLe.refl _, trivial⟩ (row_same rfl)) ?_
  rintro ⟨c0, s⟩ ⟨hs1, hs2, hq2, hq3⟩
  dsimp only at hs1 hs2 hq2 hq3 ⊢
  have hcl0 := hq2.length_eq
  refine AWP.seq ?_
  refine AWP.seq (AWP.region ?_)
  refine AOps.mA ?_
  refine AOps.mA ?_
  refine AOps.sA (AOp.lss rfl rfl rfl) (.nil ?_)
  refine AWP.cond rfl (fun h2 => ?_) (fun h2 => ?_)
  · replace h2 := of_decide_eq_true h2
    have hsl : s < l.length := by omega
    refine AWP.skip ?_
    refine AWP.block ?_
    refine AWP.seq (AWP.region ?_)
    refine AOps.mA ?_
    refine AOps.sA (AOp.mul64 rfl rfl rfl (by omega) (by omega)) ?_
    refine AOps.aA ?_
    refine AOps.aA (.nil ?_)
    refine AWP.seq ?_
    refine AWP.block ?_
    refine AWP.loop (G := List (Dsp × Nat) × Nat) (fun g => Env.of [(6, .d (.v (.int .i64 (s : Int)))), (7, .d (.v (.int .i64 (g.2 : Int)))), (8, .d (.v (.int .i64 ((g.2 + 2 * s : Nat) : Int)))), (0, .own 1), (1, .d (.v (.int .i64 (l.length : Int)))), (2, .d (.clo (.func f) caps))]) (fun g => [(1, .row 73 2 (g.1.map tds))]) (fun g => 2 * s ∣ g.2 ∧ g.2 ≤ l.length ∧ Runs cmp l.length (Bk (2 * s) g.2 s) g.1 ∧ g.1.Perm l) (fun g => l.length - g.2) (c0, 0) ⟨Nat.dvd_zero _, Nat.zero_le _, hq3.congr (fun m _ _ => Bk.open m), hq2⟩ (Sub.less ⟨SLe.refl _, (SLe.i64 rfl), (SLe.i64 (by first | rfl | omega | (dsimp only; omega))), SLe.refl _, SLe.refl _, SLe.refl _, trivial⟩ (row_same rfl)) ?_
    rintro ⟨c, a⟩ ⟨hg1, hg2, hg3, hg4⟩
    dsimp only at hg1 hg2 hg3 hg4 ⊢
    have hcl := hg4.length_eq
    have htc : TagsOk c := ht.perm hg4
    refine AWP.seq ?_
    refine AWP.seq (AWP.region ?_)
    refine AOps.mA ?_
    refine AOps.mA ?_
    refine AOps.sA (AOp.leq rfl rfl rfl) (.nil ?_)
    refine AWP.cond rfl (fun h3 => ?_) (fun h3 => ?_)
    · replace h3 := of_decide_eq_true h3
      have hb2 : a + 2 * s ≤ l.length := by omega
      have sa : s ∣ a := Nat.dvd_trans ⟨2, Nat.mul_comm _ _⟩ hg1
      refine AWP.skip ?_
      refine AWP.block ?_
      refine AWP.seq (AWP.region ?_)
      refine AOps.sA (AOp.moveO rfl rfl) ?_
      refine AOps.mA ?_
      refine AOps.mA ?_
      refine AOps.mA ?_
      refine AOps.sA (AOp.add64 rfl rfl rfl (by omega) (by omega)) ?_
      refine AOps.mA ?_
      refine AOps.mA ?_
      -- turns 1
      refine AOps.callX rfl rfl rfl (.cons (SLe.refl _) (.cons (SLe.refl _) (.cons (SLe.i64 (by omega)) (.cons (SLe.i64 (by omega)) (.cons (SLe.refl _) .nil))))) ((c_symMerge cmp hc f caps hf _ c a (a + s) (a + 2 * s) (Nat.le_refl _) (by omega) (by omega) (by omega) (by omega) htc (Bk.run1 hg3 sa (by omega)) (Bk.run2 hg3 sa hb2 (Nat.le_refl _)) (hg3.cross (Bk.mid sa) hb2)) 1) ⟨(.head _), trivial⟩ rfl rfl (fun _ h => nomatch h) ?_
      refine AOps.nil ?_
      refine AWP.seq (AWP.region ?_)
      refine AOps.mA ?_
      refine AOps.aA (.nil ?_)
      refine AWP.region ?_
      refine AOps.mA ?_
      refine AOps.mA ?_
      refine AOps.sA (AOp.mul64 rfl rfl rfl (by omega) (by omega)) ?_
      refine AOps.sA (AOp.add64 rfl rfl rfl (by omega) (by omega)) ?_
      refine AOps.aA (.nil ?_)
      refine ⟨(sortSeg cmp c a (a + 2 * s), a + 2 * s), ⟨Nat.dvd_add hg1 (Nat.dvd_refl _), by dsimp only; omega, (hg3.step hc htc (a := a) (b := a + 2 * s) (by omega) (by omega) (by omega) (Bk.at hg1) (.inl (.inr ⟨Nat.dvd_add sa ⟨2, Nat.mul_comm _ _⟩, by omega⟩))).congr (fun m _ _ => Bk.next (s := 2 * s) (s2 := s) ⟨2, Nat.mul_comm _ _⟩ hg1 (by omega) m), (sortSeg_perm cmp c (Nat.le_add_right _ _)).trans hg4⟩, (by dsimp only; omega), Sub.less ⟨SLe.refl _, (SLe.i64 (by first | rfl | omega | (dsimp only; omega))), (SLe.i64 (by first | rfl | omega | (dsimp only; omega))), SLe.refl _, SLe.refl _, SLe.refl _, trivial⟩ (row_same rfl)⟩
    replace h3 := of_decide_eq_false h3
    have sa : s ∣ a := Nat.dvd_trans ⟨2, Nat.mul_comm _ _⟩ hg1
    refine AWP.exit ?_
    refine AWP.seq ?_
    refine AWP.seq (AWP.region ?_)
    refine AOps.mA ?_
    refine AOps.mA ?_
    refine AOps.sA (AOp.add64 rfl rfl rfl (by omega) (by omega)) ?_
    refine AOps.aA (.nil ?_)
    refine AWP.seq (AWP.region ?_)
    refine AOps.mA ?_
    refine AOps.mA ?_
    refine AOps.sA (AOp.lss rfl rfl rfl) (.nil ?_)
    refine AWP.cond rfl (fun h4 => ?_) (fun h4 => ?_)
    · replace h4 := of_decide_eq_true h4
      have hr1 := hg3.step hc htc (a := a) (b := l.length) (by omega) (Nat.le_refl _) (by omega) (Bk.at hg1) (.inr rfl)
      have hr2 : Runs cmp l.length (fun m => 2 * s ∣ m) (sortSeg cmp c a l.length) := hr1.congr fun m _ q2 => Bk.last hg1 (by omega) m q2
      have hp2 : (sortSeg cmp c a l.length).Perm l := (sortSeg_perm cmp c hg2).trans hg4
      refine AWP.region ?_
      refine AOps.sA (AOp.moveO rfl rfl) ?_
      refine AOps.mA ?_
      refine AOps.mA ?_
      refine AOps.mA ?_
      refine AOps.mA ?_
      -- turns 1
      refine AOps.callX rfl rfl rfl (.cons (SLe.refl _) (.cons (SLe.refl _) (.cons (SLe.i64 (by omega)) (.cons (SLe.refl _) (.cons (SLe.refl _) .nil))))) ((c_symMerge cmp hc f caps hf _ c a (a + s) l.length (Nat.le_refl _) (by omega) (by omega) (by omega) (by omega) htc (Bk.run1 hg3 sa (by omega)) (Bk.run2 hg3 sa (Nat.le_refl _) (by omega)) (hg3.cross (Bk.mid sa) (Nat.le_refl _))) 1) ⟨(.head _), trivial⟩ rfl rfl (fun _ h => nomatch h) ?_
      refine AOps.nil ?_
      refine AWP.region ?_
      refine AOps.mA ?_
      refine AOps.sA (AOp.mul64 rfl rfl rfl (by omega) (by omega)) ?_
      refine AOps.aA (.nil ?_)
      refine ⟨(sortSeg cmp c a l.length, 2 * s), ⟨by dsimp only; omega, by dsimp only; omega, hp2, hr2⟩, (by dsimp only; omega), Sub.less ⟨(SLe.i64 (by first | rfl | omega | (dsimp only; omega))), SLe.refl _, SLe.refl _, SLe.refl _, trivial⟩ (row_same rfl)⟩
    replace h4 := of_decide_eq_false h4
    have hr2 : Runs cmp l.length (fun m => 2 * s ∣ m) c := hg3.congr fun m _ q2 => Bk.skip hg1 sa (by omega) (by omega) m q2
    refine AWP.skip ?_
    refine AWP.region ?_
    refine AOps.mA ?_
    refine AOps.sA (AOp.mul64 rfl rfl rfl (by omega) (by omega)) ?_
    refine AOps.aA (.nil ?_)
    refine ⟨(c, 2 * s), ⟨by dsimp only; omega, by dsimp only; omega, hg4, hr2⟩, (by dsimp only; omega), Sub.less ⟨(SLe.i64 (by first | rfl | omega | (dsimp only; omega))), SLe.refl _, SLe.refl _, SLe.refl _, trivial⟩ (row_same rfl)⟩
  replace h2 := of_decide_eq_false h2
  have HF := runs_end hc ht hq2 hq3 (by omega)
  refine AWP.exit ?_
  refine ⟨trivial, ⟨mem_row_eq (.head _) ?_, trivial⟩⟩
  all_goals (rw [HF])

set_option maxRecDepth 100000 in
set_option maxHeartbeats 1000000 in
theorem c_sortStable (cmp : Dsp → Dsp → Int) (hc : PreC cmp) (f : Nat) (caps : List D) (hf : ∀ x y : Dsp, ACall Tryz.prog f (.agg x.ds :: .agg y.ds :: caps) (.v (.int .i64 (cmp x y)))) (l : List (Dsp × Nat)) (hl : l.length ≤ 1152921504606846976) (ht : TagsOk l) (hin : Incr l 0 l.length) : RCall Tryz.prog 34 73 2 (l.map tds) ((sortSeg cmp l 0 l.length).map tds) [.clo (.func f) caps] (.tup []) := by
  refine RCall.of1 (chg := fun i => Nat.ble 1000 i) (xcall_of (n := 9) (ds' := []) Tryz.func34 rfl (by kernel_rfl) rfl [] rfl rfl ?_) rfl
  intro B w0 F0 fr ρ0
  refine AWP.region ?_
  refine AOps.sA (AOp.moveO rfl rfl) ?_
  refine AOps.sA (AOp.moveO rfl rfl) ?_
  refine AOps.sA (AOp.lenOwn rfl et_26.ht rfl (.head _)) ?_
  refine AOps.mA ?_
  -- turns 1
  refine AOps.callX rfl rfl rfl (.cons (SLe.refl _) (.cons (SLe.i64 (by rw [List.length_map])) (.cons (SLe.refl _) .nil))) ((c_stable cmp hc f caps hf l hl ht hin) 1) ⟨(.head _), trivial⟩ rfl rfl (fun _ h => nomatch h) ?_
  refine AOps.nil ?_
  refine ⟨trivial, ⟨mem_row_eq (.head _) ?_, trivial⟩⟩
  all_goals (rfl)

end Go.Proofs.YtgldfnkbpopanaaGreatDoor


namespace Go.Proofs.YtgldfnkbpopanaaGreatDoor
open Go.RowKit
set_option linter.unusedVariables false

/-! Types. -/
namespace TyNC

end TyNC
open TyNC


set_option linter.unusedSectionVars false
set_option linter.unusedSimpArgs false
section
variable {β : Type} [DecidableEq β]
def lkG (T : GL (Option β)) (k : Int) : Option β := (findG T k).join
def pkG (o p q : GL (Option β)) (k : Int) : Option β := if lkG p k = lkG o k then lkG q k else lkG p k
def disG (o p q : GL (Option β)) (k : Int) : Bool := !decide (lkG p k = lkG o k) && (!decide (lkG q k = lkG o k) && !decide (lkG p k = lkG q k))
def tgE (o p q : GL (Option β)) (ids : List Int) : GL (Option β) := ids.map fun k => (k, pkG o p q k)
def tgG (o p q : GL (Option β)) (ids : List Int) : GL (Option β) := putAll [] (tgE o p q ids)
def tgTo (o p q : GL (Option β)) (ids : List Int) (n : Nat) : GL (Option β) := tgG o p q (ids.take n)
def dgTo (o p q : GL (Option β)) (ids : List Int) (n : Nat) : List Int := (ids.take n).filter (disG o p q)
def ov3 (o p q : GL (Option β)) : GL (Option β) := putAll (putAll (putAll [] o) p) q
def idG (o p q : GL (Option β)) : List Int := keysG (ov3 o p q)
variable {o p q : GL (Option β)} {ids : List Int} {n : Nat}
theorem tgTo_next (h : n < ids.length) : tgTo o p q ids (n + 1) = putG (tgTo o p q ids n) ids[n] (pkG o p q ids[n]) := by
  unfold tgTo tgG tgE
  rw [List.take_add_one, List.getElem?_eq_getElem h, Option.toList_some, List.map_append, putAll_append]; rfl
theorem tgTo_all : tgTo o p q ids ids.length = tgG o p q ids := by unfold tgTo; rw [List.take_length]
theorem dgTo_yes (h : n < ids.length) (hd : disG o p q ids[n] = true) : dgTo o p q ids (n + 1) = dgTo o p q ids n ++ [ids[n]] := by
  unfold dgTo
  rw [List.take_add_one, List.getElem?_eq_getElem h, Option.toList_some, List.filter_append, List.filter_cons_of_pos hd]; rfl
theorem dgTo_no (h : n < ids.length) (hd : disG o p q ids[n] = false) : dgTo o p q ids (n + 1) = dgTo o p q ids n := by
  unfold dgTo
  rw [List.take_add_one, List.getElem?_eq_getElem h, Option.toList_some, List.filter_append, List.filter_cons_of_neg (by rw [hd]; decide)]; simp
theorem dgTo_len : (dgTo o p q ids n).length ≤ ids.length := by
  have := List.length_filter_le (disG o p q) (ids.take n)
  rw [List.length_take] at this; unfold dgTo; omega
theorem putG_two (L : GL (Option β)) (k : Int) (v w : Option β) : putG (putG L k v) k w = putG L k w := by
  unfold putG
  by_cases h : hasG L k = true
  · have h2 : hasG (L.map fun p => if p.1 = k then (k, v) else p) k = true := by
      obtain ⟨x, hx, hk⟩ := hasG_iff.1 h
      exact hasG_iff.2 ⟨(k, v), List.mem_map.2 ⟨x, hx, by rw [if_pos hk]⟩, rfl⟩
    rw [if_pos h, if_pos h2, if_pos h, List.map_map]
    refine List.map_congr_left fun x _ => ?_
    show (if (if x.1 = k then (k, v) else x).1 = k then (k, w) else if x.1 = k then (k, v) else x) = _
    by_cases hx : x.1 = k
    · rw [if_pos hx, if_pos rfl, if_pos hx]
    · rw [if_neg hx, if_neg hx]
  · have h2 : hasG (L ++ [(k, v)]) k = true := hasG_iff.2 ⟨(k, v), by simp, rfl⟩
    rw [if_neg h, if_pos h2, if_neg h, List.map_append]
    have h3 : ∀ x ∈ L, x.1 ≠ k := fun x hx he => h (hasG_iff.2 ⟨x, hx, he⟩)
    have h4 : (L.map fun p => if p.1 = k then (k, w) else p) = L := (List.map_congr_left (g := id) fun x hx => if_neg (h3 x hx)).trans (List.map_id L)
    rw [h4]
    simp
theorem tgE_nk (hu : UpL ids) : NkG (tgE o p q ids) := by
  unfold NkG tgE
  rw [List.pairwise_map]
  exact hu.imp fun {a b} h he => by dsimp only at he; omega
theorem tgG_nk : NkG (tgG o p q ids) := putAll_nk List.Pairwise.nil
theorem tgTo_nk : NkG (tgTo o p q ids n) := tgG_nk
theorem tgG_find (hu : UpL ids) (k : Int) : findG (tgG o p q ids) k = if k ∈ ids then some (pkG o p q k) else none := by
  unfold tgG
  rw [putAll_find (tgE_nk hu)]
  by_cases hk : k ∈ ids
  · have : findG (tgE o p q ids) k = some (pkG o p q k) := (mem_find (tgE_nk hu)).1 (List.mem_map.2 ⟨k, hk, rfl⟩)
    rw [this, if_pos hk]
  · have : findG (tgE o p q ids) k = none := by
      cases hf : findG (tgE o p q ids) k with
      | none => rfl
      | some v =>
        obtain ⟨m, hm, he⟩ := List.mem_map.1 (find_mem hf)
        exact absurd ((Prod.mk.inj he).1 ▸ hm) hk
    rw [this, if_neg hk]; rfl
theorem tgG_len : (tgG o p q ids).length ≤ ids.length := by
  have := putAll_len (tgE o p q ids) []
  unfold tgG
  simpa [tgE] using this
theorem VOk.tg {R : β → Prop} (hp : VOk R p) (hq : VOk R q) (hi : ∀ k ∈ ids, i64 k) : VOk R (tgG o p q ids) := fun x hx => by
  rcases putAll_mem hx with h | h
  · obtain ⟨k, hk, rfl⟩ := List.mem_map.1 h
    refine ⟨hi k hk, fun v hv => ?_⟩
    dsimp only at hv
    unfold pkG at hv
    split at hv
    · exact (hq.find hv).2
    · exact (hp.find hv).2
  · cases h
theorem ov3_nk : NkG (ov3 o p q) := putAll_nk (putAll_nk (putAll_nk List.Pairwise.nil))
theorem idG_up : UpL (idG o p q) := keysG_up ov3_nk
theorem idG_mem (ho : NkG o) (hp : NkG p) (hq : NkG q) {k : Int} : k ∈ idG o p q ↔ (findG o k).isSome = true ∨ (findG p k).isSome = true ∨ (findG q k).isSome = true := by
  unfold idG ov3
  rw [keysG_mem, putAll_find hq, putAll_find hp, putAll_find ho]
  cases findG q k <;> cases findG p k <;> cases findG o k <;> simp [findG_nil]
theorem lkG_none (ho : NkG o) (hp : NkG p) (hq : NkG q) {k : Int} (hk : ¬ k ∈ idG o p q) : lkG o k = none ∧ lkG p k = none ∧ lkG q k = none := by
  have key : ∀ T : GL (Option β), ¬ (findG T k).isSome = true → lkG T k = none := fun T h => by
    unfold lkG
    cases hf : findG T k with
    | none => rfl
    | some v => rw [hf] at h; exact absurd rfl h
  rw [idG_mem ho hp hq] at hk
  exact ⟨key o fun h => hk (.inl h), key p fun h => hk (.inr (.inl h)), key q fun h => hk (.inr (.inr h))⟩
theorem tg_vals (ho : NkG o) (hp : NkG p) (hq : NkG q) (k : Int) : findG (valsG (tgG o p q (idG o p q))) k = pkG o p q k := by
  rw [valsG_find tgG_nk, tgG_find idG_up]
  by_cases hk : k ∈ idG o p q
  · rw [if_pos hk]; rfl
  · rw [if_neg hk]
    obtain ⟨h1, h2, h3⟩ := lkG_none ho hp hq hk
    unfold pkG
    rw [h1, h2, h3]; rfl
theorem tg_ext {o2 p2 q2 : GL (Option β)} (ho : NkG o) (hp : NkG p) (hq : NkG q) (ho2 : NkG o2) (hp2 : NkG p2) (hq2 : NkG q2) (h : ∀ k, pkG o p q k = pkG o2 p2 q2 k) : valsG (tgG o p q (idG o p q)) = valsG (tgG o2 p2 q2 (idG o2 p2 q2)) :=
  rik_ext (valsG_ri tgG_nk) (valsG_ri tgG_nk) fun k => by rw [tg_vals ho hp hq, tg_vals ho2 hp2 hq2, h k]
theorem tg_one (ho : NkG o) (hp : NkG p) (hq : NkG q) {T : GL (Option β)} (hT : NkG T) (h : ∀ k, pkG o p q k = lkG T k) : valsG (tgG o p q (idG o p q)) = valsG T :=
  rik_ext (valsG_ri tgG_nk) (valsG_ri hT) fun k => by rw [tg_vals ho hp hq, valsG_find hT, h k]; rfl
theorem pk_l (k : Int) : pkG o p o k = lkG p k := by unfold pkG; split <;> simp_all
theorem pk_r (k : Int) : pkG o o q k = lkG q k := if_pos rfl
theorem dis_l (k : Int) : disG o p o k = false := by simp [disG]
theorem dis_r (k : Int) : disG o o q k = false := by simp [disG]
theorem dis_swap (k : Int) : disG o q p k = disG o p q k := by
  unfold disG
  by_cases h1 : lkG p k = lkG o k <;> by_cases h2 : lkG q k = lkG o k <;> by_cases h3 : lkG p k = lkG q k <;> simp [h1, h2, h3, Ne.symm]
  all_goals first | done | exact fun e => h3 e.symm | exact h3.symm
theorem pk_swap {k : Int} (h : disG o p q k = false) : pkG o p q k = pkG o q p k := by
  unfold disG at h
  unfold pkG
  by_cases h1 : lkG p k = lkG o k
  · rw [if_pos h1]
    by_cases h2 : lkG q k = lkG o k
    · rw [if_pos h2, h1, h2]
    · rw [if_neg h2]
  · rw [if_neg h1]
    by_cases h2 : lkG q k = lkG o k
    · rw [if_pos h2]
    · rw [if_neg h2]
      simp [h1, h2] at h
      exact h
end


end Go.Proofs.YtgldfnkbpopanaaGreatDoor


namespace Go.Proofs.YtgldfnkbpopanaaGreatDoor
open Go.RowKit
set_option linter.unusedVariables false

/-! Types. -/
namespace TyND

end TyND
open TyND


abbrev idT (base a b : Ctl) : List Int := idG (cT base) (cT a) (cT b)
abbrev idM (base a b : Ctl) : List Int := idG (cM base) (cM a) (cM b)
abbrev tgT (base a b : Ctl) : TL := tgG (cT base) (cT a) (cT b) (idT base a b)
abbrev tgM (base a b : Ctl) : ML := tgG (cM base) (cM a) (cM b) (idM base a b)
def dsL (base a b : Ctl) : List Dsp := (dgTo (cT base) (cT a) (cT b) (idT base a b) (idT base a b).length).map (⟨·, false⟩) ++ (dgTo (cM base) (cM a) (cM b) (idM base a b) (idM base a b).length).map (⟨·, true⟩)
def togC (base a b : Ctl) : Ctl := ctlO (tgT base a b) (tgM base a b)
def togV (S : List Dsp → List Dsp) (base a b : Ctl) : Ctl × List Dsp × Int := if chkF base = 0 then (if chkF a = 0 then (if chkF b = 0 then (if chkF (togC base a b) = 0 then (togC base a b, S (dsL base a b), 0) else (zC, [], chkF (togC base a b))) else (zC, [], chkF b)) else (zC, [], chkF a)) else (zC, [], chkF base)
section
variable {S : List Dsp → List Dsp} {base a b : Ctl}
theorem togV_o (h : chkF base ≠ 0) : togV S base a b = (zC, [], chkF base) := if_neg h
theorem togV_a (h : chkF base = 0) (h2 : chkF a ≠ 0) : togV S base a b = (zC, [], chkF a) := by unfold togV; rw [if_pos h, if_neg h2]
theorem togV_b (h : chkF base = 0) (h2 : chkF a = 0) (h3 : chkF b ≠ 0) : togV S base a b = (zC, [], chkF b) := by unfold togV; rw [if_pos h, if_pos h2, if_neg h3]
theorem togV_f (h : chkF base = 0) (h2 : chkF a = 0) (h3 : chkF b = 0) (h4 : chkF (togC base a b) ≠ 0) : togV S base a b = (zC, [], chkF (togC base a b)) := by unfold togV; rw [if_pos h, if_pos h2, if_pos h3, if_neg h4]
theorem togV_0 (h : chkF base = 0) (h2 : chkF a = 0) (h3 : chkF b = 0) (h4 : chkF (togC base a b) = 0) : togV S base a b = (togC base a b, S (dsL base a b), 0) := by unfold togV; rw [if_pos h, if_pos h2, if_pos h3, if_pos h4]
theorem tog_k {k : Nat} (hk : k < [base, a, b].length) (hb : ∀ z ∈ [base, a, b].take k, chkF z = 0) (h : chkF [base, a, b][k] ≠ 0) : togV S base a b = (zC, [], chkF [base, a, b][k]) := by
  match k, hk with
  | 0, _ => exact togV_o h
  | 1, _ => exact togV_a (hb base (by simp)) h
  | 2, _ => exact togV_b (hb base (by simp)) (hb a (by simp)) h
theorem ctl_self (h : chkF a = 0) : ctlO (cT a) (cM a) = a := by
  have h1 : valsG (cT a) = idxL a.things := valsG_ofE (nkT h)
  have h2 : valsG (cM a) = mvL a.moved := valsG_ofE (nkM h)
  unfold ctlO
  rw [h1, h2]
  have e1 : (idxL a.things).map (·.2) = a.things := by unfold idxL; rw [List.map_map]; exact List.map_id _
  have e2 : (mvL a.moved).map mvO = a.moved := by unfold mvL; rw [List.map_map]; exact List.map_id _
  rw [e1, e2]
theorem cT_nk (c : Ctl) : NkG (cT c) := ofE_nk _
theorem cM_nk (c : Ctl) : NkG (cM c) := ofE_nk _
theorem togC_one {c : Ctl} (h1 : ∀ k, pkG (cT base) (cT a) (cT b) k = lkG (cT c) k) (h2 : ∀ k, pkG (cM base) (cM a) (cM b) k = lkG (cM c) k) (hc : chkF c = 0) : togC base a b = c := by
  have e1 := tg_one (cT_nk base) (cT_nk a) (cT_nk b) (cT_nk c) h1
  have e2 := tg_one (cM_nk base) (cM_nk a) (cM_nk b) (cM_nk c) h2
  unfold togC ctlO
  rw [e1, e2]
  exact ctl_self hc
theorem dsL_nil (h1 : ∀ k, disG (cT base) (cT a) (cT b) k = false) (h2 : ∀ k, disG (cM base) (cM a) (cM b) k = false) : dsL base a b = [] := by
  unfold dsL dgTo
  rw [List.filter_eq_nil_iff.2 fun k _ => by rw [h1 k]; decide, List.filter_eq_nil_iff.2 fun k _ => by rw [h2 k]; decide]; rfl
theorem dsL_no (h : dsL base a b = []) : (∀ k ∈ idT base a b, disG (cT base) (cT a) (cT b) k = false) ∧ ∀ k ∈ idM base a b, disG (cM base) (cM a) (cM b) k = false := by
  obtain ⟨h1, h2⟩ := List.append_eq_nil_iff.1 h
  have k1 := List.map_eq_nil_iff.1 h1
  have k2 := List.map_eq_nil_iff.1 h2
  unfold dgTo at k1 k2
  rw [List.take_length] at k1 k2
  exact ⟨fun k hk => by simpa using List.filter_eq_nil_iff.1 k1 k hk, fun k hk => by simpa using List.filter_eq_nil_iff.1 k2 k hk⟩
theorem tog_same (hS : ∀ l, (S l).length = l.length) : (togV S base a base).2.2 = (togV S base base a).2.2 ∧
    ((togV S base a base).2.2 = 0 → (togV S base a base).1 = a ∧ (togV S base base a).1 = a ∧ (togV S base a base).2.1.length = 0 ∧ (togV S base base a).2.1.length = 0) := by
  by_cases ho : chkF base = 0
  · by_cases ha : chkF a = 0
    · have e1 : togC base a base = a := togC_one (fun k => pk_l k) (fun k => pk_l k) ha
      have e2 : togC base base a = a := togC_one (fun k => pk_r k) (fun k => pk_r k) ha
      have d1 : dsL base a base = [] := dsL_nil (fun k => dis_l k) (fun k => dis_l k)
      have d2 : dsL base base a = [] := dsL_nil (fun k => dis_r k) (fun k => dis_r k)
      rw [togV_0 ho ha ho (by rw [e1]; exact ha), togV_0 ho ho ha (by rw [e2]; exact ha), d1, d2]
      exact ⟨rfl, fun _ => ⟨e1, e2, by rw [hS]; rfl, by rw [hS]; rfl⟩⟩
    · rw [togV_a ho ha, togV_b ho ho ha]
      exact ⟨rfl, fun h => absurd h ha⟩
  · rw [togV_o ho, togV_o ho]
    exact ⟨rfl, fun h => absurd h ho⟩
theorem pk_all {β : Type} [DecidableEq β] {o p q : GL (Option β)} (ho : NkG o) (hp : NkG p) (hq : NkG q) (h : ∀ k ∈ idG o p q, disG o p q k = false) (k : Int) : disG o p q k = false := by
  by_cases hk : k ∈ idG o p q
  · exact h k hk
  · obtain ⟨h1, h2, h3⟩ := lkG_none ho hp hq hk
    unfold disG
    rw [h1, h2]; simp
theorem tog_swap (hS : ∀ l, (S l).length = l.length) (h : (togV S base a b).2.2 = 0) (h2 : (togV S base a b).2.1.length = 0) :
    (togV S base b a).2.2 = 0 ∧ (togV S base a b).1 = (togV S base b a).1 ∧ (togV S base b a).2.1.length = 0 := by
  by_cases ho : chkF base = 0
  · by_cases ha : chkF a = 0
    · by_cases hb : chkF b = 0
      · by_cases hc : chkF (togC base a b) = 0
        · rw [togV_0 ho ha hb hc] at h2 ⊢
          have hd : dsL base a b = [] := List.eq_nil_of_length_eq_zero (by rw [← hS]; exact h2)
          obtain ⟨n1, n2⟩ := dsL_no hd
          have m1 := pk_all (cT_nk base) (cT_nk a) (cT_nk b) n1
          have m2 := pk_all (cM_nk base) (cM_nk a) (cM_nk b) n2
          have e1 := tg_ext (cT_nk base) (cT_nk a) (cT_nk b) (cT_nk base) (cT_nk b) (cT_nk a) fun k => pk_swap (m1 k)
          have e2 := tg_ext (cM_nk base) (cM_nk a) (cM_nk b) (cM_nk base) (cM_nk b) (cM_nk a) fun k => pk_swap (m2 k)
          have e : togC base b a = togC base a b := by unfold togC ctlO; rw [e1, e2]
          have d : dsL base b a = [] := dsL_nil (fun k => by rw [dis_swap]; exact m1 k) (fun k => by rw [dis_swap]; exact m2 k)
          rw [togV_0 ho hb ha (by rw [e]; exact hc), d]
          exact ⟨rfl, e.symm, by rw [hS]; rfl⟩
        · rw [togV_f ho ha hb hc] at h; exact absurd h hc
      · rw [togV_b ho ha hb] at h; exact absurd h hb
    · rw [togV_a ho ha] at h; exact absurd h ha
  · rw [togV_o ho] at h; exact absurd h ho
end


end Go.Proofs.YtgldfnkbpopanaaGreatDoor


namespace Go.Proofs.YtgldfnkbpopanaaGreatDoor
open Go.RowKit
set_option linter.unusedVariables false

/-! Types. -/
namespace TyNH
theorem fo_64_0 : fieldOff Tryz.prog 64 0 = some 0 := by kernel_rfl
theorem fo_64_1 : fieldOff Tryz.prog 64 1 = some 1 := by kernel_rfl
theorem mt_61 : Tryz.prog.underlying 61 = some (.map 3 70) := by kernel_rfl
theorem mt_62 : Tryz.prog.underlying 62 = some (.map 3 75) := by kernel_rfl
theorem sc_61 : Scal Tryz.prog 61 := .of (by kernel_rfl)
theorem sc_62 : Scal Tryz.prog 62 := .of (by kernel_rfl)
end TyNH
open TyNH

set_option maxRecDepth 100000 in
set_option maxHeartbeats 1000000 in
theorem c_copyTB (T X : TL) (hT : NkG T) (hX : NkG X) (kT : KeysOk T) (kX : KeysOk X) : XCallE (ι := TL) Tryz.prog 73 [.own 191, .d (.fm (encT X))] [(191, .map (encT T))] (fun i => [(191, .map (encT i))]) (Ov T X) (fun i => Nat.ble 2000 i) (.tup []) := by
  refine xcallE_of (n := 16) (ds' := []) Tryz.func73 rfl (by kernel_rfl) rfl [] rfl rfl ?_
  intro B w0 F0 fr ρ0
  refine AWP.seq (AWP.region ?_)
  refine AOps.mA ?_
  refine AOps.rangeF 2071 rfl rfl rfl rfl mt_61 rfl rfl (fun M0 hM0 => ?_)
  obtain ⟨X0, hX0, rfl⟩ := perm_map_inv (g := fun p : Int × Option Thg => (kI p.1, ptD p.2)) (l := X) hM0
  have kX0 := keys_perm kX hX0
  refine AOps.nil ?_
  refine AWP.block ?_
  refine AWP.loop (G := List Nat) (fun dn => Env.of [(7, .ptr 2071 0), (0, .own 191)]) (fun dn => [(2071, .iter (encT X0) dn), (191, .map (encT (putAll T (pickL X0 dn))))]) (fun dn => dn.Nodup ∧ ∀ i ∈ dn, i < X0.length) (fun dn => X0.length - dn.length) [] ⟨List.nodup_nil, fun i h => absurd h List.not_mem_nil⟩ (Sub.less ⟨SLe.refl _, SLe.refl _, trivial⟩ (obs_e rfl)) ?_
  intro dn hd
  refine AWP.seq (AWP.region ?_)
  refine AOps.nextL rfl rfl rfl rfl rfl (.head _) (fun hall => ?_) (fun i hi hni => ?_)
  · skip
    have HO := ov_end hT hX kT kX hX0 hd hall
    refine AOps.sA (AOp.extract rfl rfl rfl) (.nil ?_)
    refine AWP.seq ?_
    refine AWP.cond rfl (fun h => nomatch h) (fun _ => ?_)
    refine AWP.exit ?_
    refine ⟨putAll T (pickL X0 dn), HO, trivial, ⟨mem_ob_eq (.tail _ (.head _)) ?_, trivial⟩⟩
    all_goals (rfl)
  have hsn := nd_snoc hd hi hni
  have hnl := nd_len hsn.1 hsn.2
  rw [List.length_append, List.length_singleton] at hnl
  have HN := pick_put (T := T) (dn := dn) hi
  refine AOps.sA (AOp.extract rfl rfl rfl) (.nil ?_)
  refine AWP.seq ?_
  refine AWP.cond rfl (fun _ => ?_) (fun h => nomatch h)
  refine AWP.skip ?_
  refine AWP.block ?_
  refine AWP.seq (AWP.region ?_)
  refine AOps.sA (AOp.entryL rfl rfl (.head _) hi) ?_
  refine AOps.sA (AOp.extract rfl rfl rfl) ?_
  refine AOps.sA (AOp.extract rfl rfl rfl) ?_
  refine AOps.aA ?_
  refine AOps.aA (.nil ?_)
  refine AWP.region ?_
  refine AOps.sA (AOp.moveO rfl rfl) ?_
  refine AOps.mA ?_
  refine AOps.mA ?_
  refine AOps.eff rfl rfl (EOp.mapUpdateX (key := kI X0[i].1) (d := ptD X0[i].2) rfl rfl mt_T kd_int rfl (.tail _ (.head _)) rfl (DExact.v _) rfl (kI_ok (kX0 _ (List.getElem_mem hi))) (enc_keys (putAll_keys kT (keys_pick kX0 dn))) (mput_T (putAll_nk hT) _ _)) (.nil ?_)
  refine ⟨dn ++ [i], hsn, (by dsimp only; rw [List.length_append, List.length_singleton]; omega), Sub.less ⟨SLe.refl _, SLe.refl _, trivial⟩ (obs_e (by rw [← HN]; rfl))⟩

set_option maxRecDepth 100000 in
set_option maxHeartbeats 1000000 in
theorem c_copyMB (T X : ML) (hT : NkG T) (hX : NkG X) (kT : KeysOk T) (kX : KeysOk X) : XCallE (ι := ML) Tryz.prog 74 [.own 192, .d (.fm (encM X))] [(192, .map (encM T))] (fun i => [(192, .map (encM i))]) (Ov T X) (fun i => Nat.ble 2000 i) (.tup []) := by
  refine xcallE_of (n := 16) (ds' := []) Tryz.func74 rfl (by kernel_rfl) rfl [] rfl rfl ?_
  intro B w0 F0 fr ρ0
  refine AWP.seq (AWP.region ?_)
  refine AOps.mA ?_
  refine AOps.rangeF 2071 rfl rfl rfl rfl mt_62 rfl rfl (fun M0 hM0 => ?_)
  obtain ⟨X0, hX0, rfl⟩ := perm_map_inv (g := fun p : Int × Option Int => (kI p.1, pmD p.2)) (l := X) hM0
  have kX0 := keys_perm kX hX0
  refine AOps.nil ?_
  refine AWP.block ?_
  refine AWP.loop (G := List Nat) (fun dn => Env.of [(7, .ptr 2071 0), (0, .own 192)]) (fun dn => [(2071, .iter (encM X0) dn), (192, .map (encM (putAll T (pickL X0 dn))))]) (fun dn => dn.Nodup ∧ ∀ i ∈ dn, i < X0.length) (fun dn => X0.length - dn.length) [] ⟨List.nodup_nil, fun i h => absurd h List.not_mem_nil⟩ (Sub.less ⟨SLe.refl _, SLe.refl _, trivial⟩ (obs_e rfl)) ?_
  intro dn hd
  refine AWP.seq (AWP.region ?_)
  refine AOps.nextL rfl rfl rfl rfl rfl (.head _) (fun hall => ?_) (fun i hi hni => ?_)
  · skip
    have HO := ov_end hT hX kT kX hX0 hd hall
    refine AOps.sA (AOp.extract rfl rfl rfl) (.nil ?_)
    refine AWP.seq ?_
    refine AWP.cond rfl (fun h => nomatch h) (fun _ => ?_)
    refine AWP.exit ?_
    refine ⟨putAll T (pickL X0 dn), HO, trivial, ⟨mem_ob_eq (.tail _ (.head _)) ?_, trivial⟩⟩
    all_goals (rfl)
  have hsn := nd_snoc hd hi hni
  have hnl := nd_len hsn.1 hsn.2
  rw [List.length_append, List.length_singleton] at hnl
  have HN := pick_put (T := T) (dn := dn) hi
  refine AOps.sA (AOp.extract rfl rfl rfl) (.nil ?_)
  refine AWP.seq ?_
  refine AWP.cond rfl (fun _ => ?_) (fun h => nomatch h)
  refine AWP.skip ?_
  refine AWP.block ?_
  refine AWP.seq (AWP.region ?_)
  refine AOps.sA (AOp.entryL rfl rfl (.head _) hi) ?_
  refine AOps.sA (AOp.extract rfl rfl rfl) ?_
  refine AOps.sA (AOp.extract rfl rfl rfl) ?_
  refine AOps.aA ?_
  refine AOps.aA (.nil ?_)
  refine AWP.region ?_
  refine AOps.sA (AOp.moveO rfl rfl) ?_
  refine AOps.mA ?_
  refine AOps.mA ?_
  refine AOps.eff rfl rfl (EOp.mapUpdateX (key := kI X0[i].1) (d := pmD X0[i].2) rfl rfl mt_M kd_int rfl (.tail _ (.head _)) rfl (DExact.v _) rfl (kI_ok (kX0 _ (List.getElem_mem hi))) (enc_keys (putAll_keys kT (keys_pick kX0 dn))) (mput_M (putAll_nk hT) _ _)) (.nil ?_)
  refine ⟨dn ++ [i], hsn, (by dsimp only; rw [List.length_append, List.length_singleton]; omega), Sub.less ⟨SLe.refl _, SLe.refl _, trivial⟩ (obs_e (by rw [← HN]; rfl))⟩

set_option maxRecDepth 100000 in
set_option maxHeartbeats 1000000 in
theorem c_overB (T X : TL) (M Y : ML) (hT : NkG T) (hX : NkG X) (hM : NkG M) (hY : NkG Y) (kT : KeysOk T) (kX : KeysOk X) (kM : KeysOk M) (kY : KeysOk Y) : XCallE (ι := TL × ML) Tryz.prog 29 [.own 200, .d (.agg [.fm (encT X), .fm (encM Y)])] [(200, .val [.own 191, .own 192]), (191, .map (encT T)), (192, .map (encM M))] (fun i => [(200, .val [.own 191, .own 192]), (191, .map (encT i.1)), (192, .map (encM i.2))]) (fun i => Ov T X i.1 ∧ Ov M Y i.2) (fun i => Nat.ble 1000 i) (.tup []) := by
  refine xcallE_of (n := 14) (ds' := []) Tryz.func29 rfl (by kernel_rfl) rfl [] rfl rfl ?_
  intro B w0 F0 fr ρ0
  refine AWP.seq (AWP.region ?_)
  refine AOps.boxVal 1001 rfl rfl rfl rfl rfl (.head _) rfl ?_
  refine AOps.sA (AOp.box rfl rfl rfl) (.nil ?_)
  refine AWP.seq (AWP.region ?_)
  refine AOps.sA (AOp.fieldAddrP rfl fo_64_0 rfl) ?_
  refine AOps.sA (AOp.loadP rfl sc_61 rfl (.head _) rfl) ?_
  refine AOps.sA (AOp.fieldAddr rfl fo_64_0 rfl) ?_
  refine AOps.sA (AOp.load rfl sc_61 rfl) ?_
  refine AOps.callXE rfl rfl rfl (ArgsS.cons (SLe.refl _) (ArgsS.cons (SLe.refl _) ArgsS.nil)) (c_copyTB T X hT hX kT kX) ⟨(.tail _ (.tail _ (.head _))), trivial⟩ rfl (fun _ => rfl) (fun i h => by show (!(Nat.ble 1000 i)) = false; rw [show Nat.ble 1000 i = true from Nat.ble_eq_true_of_le (Nat.le_trans (by decide : 1000 ≤ 2000) (Nat.le_of_ble_eq_true h))]; rfl) (fun T2 hT2 => ?_)
  refine AOps.nil ?_
  refine AWP.region ?_
  refine AOps.sA (AOp.fieldAddrP rfl fo_64_1 rfl) ?_
  refine AOps.sA (AOp.loadP rfl sc_62 rfl (.tail _ (.head _)) rfl) ?_
  refine AOps.sA (AOp.fieldAddr rfl fo_64_1 rfl) ?_
  refine AOps.sA (AOp.load rfl sc_62 rfl) ?_
  refine AOps.callXE rfl rfl rfl (ArgsS.cons (SLe.refl _) (ArgsS.cons (SLe.refl _) ArgsS.nil)) (c_copyMB M Y hM hY kM kY) ⟨(.tail _ (.tail _ (.tail _ (.head _)))), trivial⟩ rfl (fun _ => rfl) (fun i h => by show (!(Nat.ble 1000 i)) = false; rw [show Nat.ble 1000 i = true from Nat.ble_eq_true_of_le (Nat.le_trans (by decide : 1000 ≤ 2000) (Nat.le_of_ble_eq_true h))]; rfl) (fun M2 hM2 => ?_)
  refine AOps.nil ?_
  refine ⟨(T2, M2), ⟨hT2, hM2⟩, trivial, ⟨mem_ob_eq (.tail _ (.tail _ (.tail _ (.head _)))) ?_, mem_ob_eq (.tail _ (.head _)) ?_, mem_ob_eq (.head _) ?_, trivial⟩⟩
  all_goals (rfl)

end Go.Proofs.YtgldfnkbpopanaaGreatDoor


namespace Go.Proofs.YtgldfnkbpopanaaGreatDoor
open Go.RowKit
set_option linter.unusedVariables false

/-! Types. -/
namespace TyNI
theorem fo_73_0 : fieldOff Tryz.prog 73 0 = some 0 := by kernel_rfl
theorem sc_3 : Scal Tryz.prog 3 := .of (by kernel_rfl)
end TyNI
open TyNI


def cmpD (x y : Dsp) : Int := if x.id < y.id then -1 else if y.id < x.id then 1 else 0
theorem cmpD_n {x y : Dsp} : cmpD x y < 0 ↔ x.id < y.id := by
  unfold cmpD
  split
  · simp_all
  · split <;> simp_all
theorem cmpD_g {x y : Dsp} : 0 ≤ cmpD x y ↔ y.id ≤ x.id := by
  have := @cmpD_n x y
  omega
theorem pre_cmpD : PreC cmpD := ⟨fun x y h => by rw [cmpD_n] at h; rw [cmpD_g]; omega, fun x y z h1 h2 => by rw [cmpD_g] at *; omega⟩
def tagD (l : List Dsp) : List (Dsp × Nat) := l.zipIdx
theorem tagD_ds (l : List Dsp) : (tagD l).map tds = l.map Dsp.ds := by
  have h : (tagD l).map tds = ((tagD l).map Prod.fst).map Dsp.ds := by rw [List.map_map]; rfl
  rw [h]; unfold tagD; rw [List.zipIdx_map_fst]
theorem tagD_len (l : List Dsp) : (tagD l).length = l.length := by unfold tagD; exact List.length_zipIdx
theorem tagD_inc (l : List Dsp) : (tagD l).Pairwise fun x y => x.2 < y.2 := by
  unfold tagD
  rw [List.pairwise_iff_getElem]
  intro i j hi hj hij
  rw [List.getElem_zipIdx, List.getElem_zipIdx]
  dsimp only; omega
theorem incrD (l : List Dsp) : Incr (tagD l) 0 (tagD l).length := fun i j x y _ hij _ hx hy => by
  obtain ⟨h1, e1⟩ := List.getElem?_eq_some_iff.1 hx
  obtain ⟨h2, e2⟩ := List.getElem?_eq_some_iff.1 hy
  rw [← e1, ← e2]
  exact List.pairwise_iff_getElem.1 (tagD_inc l) i j h1 h2 hij
theorem tagsD (l : List Dsp) : TagsOk (tagD l) := by
  unfold TagsOk
  rw [List.Nodup, List.pairwise_map]
  exact (tagD_inc l).imp fun h => by omega
def srtD (l : List Dsp) : List Dsp := (sortSeg cmpD (tagD l) 0 (tagD l).length).map Prod.fst
theorem srtD_ds (l : List Dsp) : (sortSeg cmpD (tagD l) 0 (tagD l).length).map tds = (srtD l).map Dsp.ds := by unfold srtD; rw [List.map_map]; rfl
theorem srtD_len (l : List Dsp) : (srtD l).length = l.length := by
  unfold srtD
  rw [List.length_map, (sortSeg_perm cmpD (tagD l) (Nat.zero_le _)).length_eq, tagD_len]


set_option maxRecDepth 100000 in
set_option maxHeartbeats 1000000 in
theorem c_isNaN (n : Int) : ACall Tryz.prog 79 [.v (.int .i64 n)] (.v (.bool false)) := by
  refine acall_of (n := 6) (ds' := [.v (.bool false)]) Tryz.func79 rfl (by kernel_rfl) rfl [2] rfl rfl ?_
  intro B w0 F0 fr
  refine AWP.seq (AWP.region ?_)
  refine AOps.aA (.nil ?_)
  refine AWP.seq (AWP.region ?_)
  refine AOps.mA ?_
  refine AOps.mA ?_
  refine AOps.sA (AOp.neq rfl rfl rfl) ?_
  refine AOps.aA (.nil ?_)
  refine AWP.ret ?_
  refine ⟨RetD.eq rfl ?_, trivial⟩
  all_goals (simp)

set_option maxRecDepth 100000 in
set_option maxHeartbeats 1000000 in
theorem c_cmpInt (a b : Int) : ACall Tryz.prog 36 [.v (.int .i64 a), .v (.int .i64 b)] (.v (.int .i64 (if a < b then -1 else if b < a then 1 else 0))) := by
  refine acall_of (n := 20) (ds' := [.v (.int .i64 (if a < b then -1 else if b < a then 1 else 0))]) Tryz.func36 rfl (by kernel_rfl) rfl [4] rfl rfl ?_
  intro B w0 F0 fr
  refine AWP.seq (AWP.region ?_)
  refine AOps.aA (.nil ?_)
  refine AWP.seq (AWP.region ?_)
  refine AOps.mA ?_
  refine AOps.sA (AOp.call rfl (.cons (ArgOk.rfl' rfl) .nil) (c_isNaN _)) ?_
  refine AOps.aA (.nil ?_)
  refine AWP.seq (AWP.region ?_)
  refine AOps.mA ?_
  refine AOps.sA (AOp.call rfl (.cons (ArgOk.rfl' rfl) .nil) (c_isNaN _)) ?_
  refine AOps.aA (.nil ?_)
  refine AWP.seq ?_
  refine AWP.seq (AWP.region ?_)
  refine AOps.mA (.nil ?_)
  refine AWP.cond rfl (fun h => nomatch h) (fun _ => ?_)
  refine AWP.skip ?_
  refine AWP.seq ?_
  refine AWP.seq (AWP.region ?_)
  refine AOps.mA (.nil ?_)
  refine AWP.cond rfl (fun h => nomatch h) (fun _ => ?_)
  refine AWP.skip ?_
  refine AWP.seq ?_
  refine AWP.seq (AWP.region ?_)
  refine AOps.mA ?_
  refine AOps.mA ?_
  refine AOps.sA (AOp.lss rfl rfl rfl) (.nil ?_)
  refine AWP.cond rfl (fun h1 => ?_) (fun h1 => ?_)
  · replace h1 := of_decide_eq_true h1
    rw [if_pos h1]
    refine AWP.seq (AWP.region ?_)
    refine AOps.aA (.nil ?_)
    refine AWP.ret ?_
    refine ⟨RetD.eq rfl ?_, trivial⟩
    all_goals (rfl)
  replace h1 := of_decide_eq_false h1
  rw [if_neg h1]
  refine AWP.skip ?_
  refine AWP.seq ?_
  refine AWP.seq (AWP.region ?_)
  refine AOps.mA ?_
  refine AOps.mA ?_
  refine AOps.sA (AOp.gtr rfl rfl rfl) (.nil ?_)
  refine AWP.cond rfl (fun h2 => ?_) (fun h2 => ?_)
  · replace h2 := of_decide_eq_true h2
    rw [if_pos h2]
    refine AWP.seq (AWP.region ?_)
    refine AOps.aA (.nil ?_)
    refine AWP.ret ?_
    refine ⟨RetD.eq rfl ?_, trivial⟩
    all_goals (rfl)
  replace h2 := of_decide_eq_false h2
  rw [if_neg h2]
  refine AWP.skip ?_
  refine AWP.seq (AWP.region ?_)
  refine AOps.aA (.nil ?_)
  refine AWP.ret ?_
  refine ⟨RetD.eq rfl ?_, trivial⟩
  all_goals (rfl)

set_option maxRecDepth 100000 in
set_option maxHeartbeats 1000000 in
theorem c_togCmp (a b : Dsp) : ACall Tryz.prog 35 [.agg a.ds, .agg b.ds] (.v (.int .i64 (cmpD a b))) := by
  refine acall_of (n := 10) (ds' := [.v (.int .i64 (cmpD a b))]) Tryz.func35 rfl (by kernel_rfl) rfl [4] rfl rfl ?_
  intro B w0 F0 fr
  refine AWP.seq (AWP.region ?_)
  refine AOps.sA (AOp.box rfl rfl rfl) ?_
  refine AOps.sA (AOp.box rfl rfl rfl) ?_
  refine AOps.aA (.nil ?_)
  refine AWP.seq (AWP.region ?_)
  refine AOps.sA (AOp.fieldAddr rfl fo_73_0 rfl) ?_
  refine AOps.sA (AOp.load rfl sc_3 rfl) ?_
  refine AOps.sA (AOp.fieldAddr rfl fo_73_0 rfl) ?_
  refine AOps.sA (AOp.load rfl sc_3 rfl) ?_
  refine AOps.sA (AOp.call rfl (.cons (ArgOk.rfl' rfl) (.cons (ArgOk.rfl' rfl) .nil)) (c_cmpInt _ _)) ?_
  refine AOps.aA (.nil ?_)
  refine AWP.ret ?_
  refine ⟨RetD.eq rfl ?_, trivial⟩
  all_goals (rfl)


theorem c_srtD (l : List Dsp) (hl : l.length ≤ 1000000) : RCall Tryz.prog 34 73 2 (l.map Dsp.ds) ((srtD l).map Dsp.ds) [.clo (.func 35) []] (.tup []) := by
  have h := c_sortStable cmpD pre_cmpD 35 [] (fun x y => c_togCmp x y) (tagD l) (by rw [tagD_len]; omega) (tagsD l) (incrD l)
  rw [tagD_ds, srtD_ds] at h
  exact h


end Go.Proofs.YtgldfnkbpopanaaGreatDoor


namespace Go.Proofs.YtgldfnkbpopanaaGreatDoor
open Go.RowKit
set_option linter.unusedVariables false

/-! Types. -/
namespace TyNJ

end TyNJ
open TyNJ


set_option linter.unusedSectionVars false
theorem in_nil {σ : Obs} : ∀ p ∈ ([] : Obs), p ∈ σ := fun p h => by cases h
theorem in_cons {σ l : Obs} {a : Nat × Ob} (h1 : a ∈ σ) (h2 : ∀ p ∈ l, p ∈ σ) : ∀ p ∈ a :: l, p ∈ σ := fun p h => by
  rcases List.mem_cons.1 h with rfl | h
  · exact h1
  · exact h2 p h
theorem lst_s {α : Type} {f : α → Int} {L : List α} {k : Nat} (hk : k < L.length) (hb : ∀ z ∈ L.take k, f z = 0) (h : f L[k] = 0) : ∀ z ∈ L.take (k + 1), f z = 0 := fun z hz => by
  rw [List.take_add_one, List.getElem?_eq_getElem hk, Option.toList_some, List.mem_append, List.mem_singleton] at hz
  rcases hz with hz | rfl
  · exact hb z hz
  · exact h
theorem thr_e {α : Type} {f : α → Int} {x y z : α} {k : Nat} (hk : 3 ≤ k) (hb : ∀ u ∈ [x, y, z].take k, f u = 0) : f x = 0 ∧ f y = 0 ∧ f z = 0 := by
  rw [List.take_of_length_le (by simpa using hk)] at hb
  exact ⟨hb x (by simp), hb y (by simp), hb z (by simp)⟩
theorem thr_m {α : Type} {p : α → Prop} {x y z : α} (hx : p x) (hy : p y) (hz : p z) {k : Nat} (hk : k < [x, y, z].length) : p [x, y, z][k] := by
  match k, hk with
  | 0, _ => exact hx
  | 1, _ => exact hy
  | 2, _ => exact hz
section
variable {β : Type}
/-- What a shelf holds after the first n of Ls have been put over it. -/
structure OvN (Ls : List (GL β)) (n : Nat) (t : GL β) : Prop where
  nk : NkG t
  keys : KeysOk t
  find : ∀ k, findG t k = findG ((Ls.take n).foldl putAll []) k
  len : t.length ≤ 300 * n
theorem OvN.zero (Ls : List (GL β)) : OvN Ls 0 [] := ⟨List.Pairwise.nil, fun p h => (nomatch h), fun k => rfl, Nat.le_refl 0⟩
theorem OvN.next {Ls : List (GL β)} {n : Nat} {t t2 : GL β} (h : OvN Ls n t) (hn : n < Ls.length) {E : GL β} (he : Ls[n] = E) (hE : NkG E) (hl : E.length ≤ 300) (ho : Ov t E t2) : OvN Ls (n + 1) t2 := by
  subst he
  refine ⟨ho.nk, ho.keys, fun k => ?_, by have := ho.len; have := h.len; omega⟩
  rw [ho.find, List.take_add_one, List.getElem?_eq_getElem hn, Option.toList_some, List.foldl_append, h.find]
  show _ = findG (putAll ((Ls.take n).foldl putAll []) Ls[n]) k
  rw [putAll_find hE]
  first | done | (cases findG Ls[n] k <;> rfl)
end
theorem OvN.perm {β : Type} [DecidableEq β] {o p q t : GL (Option β)} (h : OvN [o, p, q] 3 t) : t.Perm (ov3 o p q) := perm_find h.nk ov3_nk fun k => h.find k
theorem OvN.kok {β : Type} [DecidableEq β] {o p q t : GL (Option β)} (h : OvN [o, p, q] 3 t) : KeysOk (ov3 o p q) := fun x hx => h.keys x (h.perm.mem_iff.2 hx)
theorem OvN.oln {β : Type} [DecidableEq β] {o p q t : GL (Option β)} (h : OvN [o, p, q] 3 t) : (ov3 o p q).length ≤ 900 := by rw [← h.perm.length_eq]; exact h.len
def encP (p : TL × ML) : List D := [.fm (encT p.1), .fm (encM p.2)]
def shL (u v w : Ctl) : List (TL × ML) := [(cT u, cM u), (cT v, cM v), (cT w, cM w)]
theorem shL_at {u v w : Ctl} {k : Nat} (hk : k < (shL u v w).length) : [cT u, cT v, cT w][k]'hk = (shL u v w)[k].1 ∧ [cM u, cM v, cM w][k]'hk = (shL u v w)[k].2 := by
  match k, hk with
  | 0, _ => exact ⟨rfl, rfl⟩
  | 1, _ => exact ⟨rfl, rfl⟩
  | 2, _ => exact ⟨rfl, rfl⟩
structure ShOk (p : TL × ML) : Prop where
  nT : NkG p.1
  nM : NkG p.2
  kT : KeysOk p.1
  kM : KeysOk p.2
  lT : p.1.length ≤ 300
  lM : p.2.length ≤ 300
theorem sh_ok {c : Ctl} (hc : CtlOk c) (h : chkF c = 0) : ShOk (cT c, cM c) := by
  have hi := cIn hc h
  obtain ⟨h1, h2⟩ := (catOk h).lim
  exact ⟨ofE_nk _, ofE_nk _, hi.vT.keys, hi.vM.keys, Nat.le_trans (ofE_len _) (by unfold idxL; rw [List.length_map]; exact h1), Nat.le_trans (ofE_len _) (by unfold mvL; rw [List.length_map]; exact h2)⟩
theorem shL_ok {u v w : Ctl} (hu : ShOk (cT u, cM u)) (hv : ShOk (cT v, cM v)) (hw : ShOk (cT w, cM w)) {k : Nat} (hk : k < (shL u v w).length) : ShOk (shL u v w)[k] := thr_m (p := ShOk) hu hv hw hk


end Go.Proofs.YtgldfnkbpopanaaGreatDoor
