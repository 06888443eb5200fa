/- Walks over abstract values. Printed by tools/gen.py. No statement of the seat. -/
import Derived.Test.YtpihcfpdaoflbaaF1
namespace Go.Proofs.Ytpihcfpdaoflbaa
open Go.RowKit
set_option linter.unusedVariables false

/-! Types. -/
namespace TyF2

end TyF2
open TyF2


theorem sw_get {α : Type} {l : List α} {i j : Nat} (hi : i < l.length) (hj : j < l.length) (p : Nat) : (sw l i j)[p]? = if p = j then l[i]? else if p = i then l[j]? else l[p]? := by
  rw [sw_at hi hj, List.getElem?_set, List.getElem?_set]
  simp only [List.length_set]
  by_cases h1 : p = j
  · subst h1; simp [hi, hj]
  · rw [if_neg (Ne.symm h1), if_neg h1]
    by_cases h2 : p = i
    · subst h2; simp [hi, hj]
    · rw [if_neg (Ne.symm h2), if_neg h2]
theorem swapTo_get {α : Type} {l : List α} {a b : Nat} : ∀ {n : Nat}, a + n ≤ b → b + n ≤ l.length → ∀ p, (swapTo l a b n)[p]? = if a ≤ p ∧ p < a + n then l[p + (b - a)]? else if b ≤ p ∧ p < b + n then l[p - (b - a)]? else l[p]?
  | 0, _, _, p => by
    unfold swapTo
    rw [if_neg (by omega), if_neg (by omega)]
  | n + 1, h1, h2, p => by
    unfold swapTo
    rw [sw_get (by rw [swapTo_len]; omega) (by rw [swapTo_len]; omega)]
    have ih := fun p => swapTo_get (l := l) (a := a) (b := b) (n := n) (by omega) (by omega) p
    by_cases e1 : p = b + n
    · rw [if_pos e1, ih, if_neg (by omega), if_neg (by omega), if_neg (by omega), if_pos (by omega)]
      congr 1; omega
    · rw [if_neg e1]
      by_cases e2 : p = a + n
      · rw [if_pos e2, ih, if_neg (by omega), if_neg (by omega), if_pos (by omega)]
        congr 1; omega
      · rw [if_neg e2, ih]
        by_cases c1 : a ≤ p ∧ p < a + n
        · rw [if_pos c1, if_pos (by omega)]
        · rw [if_neg c1, if_neg (by omega : ¬ (a ≤ p ∧ p < a + (n + 1)))]
          by_cases c2 : b ≤ p ∧ p < b + n
          · rw [if_pos c2, if_pos (by omega)]
          · rw [if_neg c2, if_neg (by omega : ¬ (b ≤ p ∧ p < b + (n + 1)))]
/-- The pieces from a to m and from m to b change places. -/
def rotl {α : Type} (l : List α) (a m b : Nat) : List α := l.take a ++ ((l.drop m).take (b - m) ++ ((l.drop a).take (m - a) ++ l.drop b))
theorem rotl_get {α : Type} {l : List α} {a m b : Nat} (h1 : a ≤ m) (h2 : m ≤ b) (h3 : b ≤ l.length) (p : Nat) : (rotl l a m b)[p]? = if p < a then l[p]? else if p < a + (b - m) then l[p + (m - a)]? else if p < b then l[p - (b - m)]? else l[p]? := by
  unfold rotl
  have e1 : (l.take a).length = a := by rw [List.length_take]; omega
  have e2 : ((l.drop m).take (b - m)).length = b - m := by rw [List.length_take, List.length_drop]; omega
  have e3 : ((l.drop a).take (m - a)).length = m - a := by rw [List.length_take, List.length_drop]; omega
  by_cases c1 : p < a
  · rw [if_pos c1, List.getElem?_append_left (by omega), List.getElem?_take, if_pos c1]
  · rw [if_neg c1, List.getElem?_append_right (by omega), e1]
    by_cases c2 : p < a + (b - m)
    · rw [if_pos c2, List.getElem?_append_left (by omega), List.getElem?_take, if_pos (by omega), List.getElem?_drop]
      congr 1; omega
    · rw [if_neg c2, List.getElem?_append_right (by omega), e2]
      by_cases c3 : p < b
      · rw [if_pos c3, List.getElem?_append_left (by omega), List.getElem?_take, if_pos (by omega), List.getElem?_drop]
        congr 1; omega
      · rw [if_neg c3, List.getElem?_append_right (by omega), e3, List.getElem?_drop]
        congr 1; omega
theorem rotl_len {α : Type} {l : List α} {a m b : Nat} (h1 : a ≤ m) (h2 : m ≤ b) (h3 : b ≤ l.length) : (rotl l a m b).length = l.length := by
  unfold rotl
  simp only [List.length_append, List.length_take, List.length_drop]
  omega
theorem rot_more {α : Type} {c : List α} {m i j : Nat} (hij : j < i) (hj : 0 < j) (hi : i ≤ m) (hl : m + j ≤ c.length) : rotl (swapTo c (m - i) m j) (m - (i - j)) m (m + j) = rotl c (m - i) m (m + j) := by
  apply List.ext_getElem?
  intro p
  rw [rotl_get (by omega) (by omega) (by rw [swapTo_len]; omega), rotl_get (by omega) (by omega) (by omega)]
  simp only [swapTo_get (l := c) (a := m - i) (b := m) (n := j) (by omega) (by omega)]
  by_cases c1 : p < m - i
  · rw [if_pos (by omega), if_neg (by omega), if_neg (by omega), if_pos c1]
  · rw [if_neg c1]
    by_cases c2 : p < m - i + j
    · rw [if_pos (by omega), if_pos (by omega), if_pos (by omega)]
    · rw [if_neg (by omega)]
      by_cases c3 : p < m - (i - j) + (m + j - m)
      · rw [if_pos c3, if_neg (by omega), if_pos (by omega), if_neg (by omega), if_pos (by omega)]
        congr 1; omega
      · rw [if_neg c3]
        by_cases c4 : p < m + j
        · rw [if_pos c4, if_neg (by omega), if_neg (by omega), if_neg (by omega), if_pos c4]
        · rw [if_neg c4, if_neg (by omega), if_neg (by omega), if_neg (by omega), if_neg c4]
theorem rot_less {α : Type} {c : List α} {m i j : Nat} (hij : i < j) (hj : 0 < i) (hi : i ≤ m) (hl : m + j ≤ c.length) : rotl (swapTo c (m - i) (m + j - i) i) (m - i) m (m + (j - i)) = rotl c (m - i) m (m + j) := by
  apply List.ext_getElem?
  intro p
  rw [rotl_get (by omega) (by omega) (by rw [swapTo_len]; omega), rotl_get (by omega) (by omega) (by omega)]
  simp only [swapTo_get (l := c) (a := m - i) (b := m + j - i) (n := i) (by omega) (by omega)]
  by_cases c1 : p < m - i
  · rw [if_pos (by omega), if_neg (by omega), if_neg (by omega), if_pos c1]
  · rw [if_neg c1, if_neg c1]
    by_cases c2 : p < m - i + (m + (j - i) - m)
    · rw [if_pos c2, if_neg (by omega), if_neg (by omega), if_pos (by omega)]
    · rw [if_neg c2]
      by_cases c3 : p < m + (j - i)
      · rw [if_pos c3, if_pos (by omega), if_pos (by omega)]
        congr 1; omega
      · rw [if_neg c3]
        by_cases c4 : p < m + j
        · rw [if_neg (by omega), if_pos (by omega), if_neg (by omega), if_pos c4]
          congr 1; omega
        · rw [if_neg (by omega), if_neg (by omega), if_neg (by omega), if_neg c4]
theorem rot_last {α : Type} {c : List α} {m i : Nat} (hi : i ≤ m) (hl : m + i ≤ c.length) : swapTo c (m - i) m i = rotl c (m - i) m (m + i) := by
  apply List.ext_getElem?
  intro p
  rw [rotl_get (by omega) (by omega) (by omega), swapTo_get (by omega) (by omega)]
  by_cases c1 : p < m - i
  · rw [if_pos c1, if_neg (by omega), if_neg (by omega)]
  · rw [if_neg c1]
    by_cases c2 : p < m - i + (m + i - m)
    · rw [if_pos c2, if_pos (by omega)]
    · rw [if_neg c2, if_neg (by omega)]
      by_cases c3 : p < m + i
      · rw [if_pos c3, if_pos (by omega)]
        congr 1; omega
      · rw [if_neg c3, if_neg (by omega)]


set_option maxRecDepth 100000 in
set_option maxHeartbeats 1000000 in
theorem c_rotate {N0 : Nat} (l : List (Fin N0 × Nat)) (a m b : Nat) (c : D) (h1 : a < m) (h2 : m < b) (h3 : b ≤ l.length) (hl : l.length ≤ 4611686018427387904) : RCall Try.prog 27 3 1 (l.map fds) ((rotl l a m b).map fds) [.v (.int .i64 a), .v (.int .i64 m), .v (.int .i64 b), c] (.tup []) := by
  refine RCall.of1 (chg := fun i => Nat.ble 1000 i) (xcall_of (n := 58) (ds' := []) Try.func27 rfl (by kernel_rfl) rfl [] rfl rfl ?_) rfl
  intro B w0 F0 fr ρ0
  refine AWP.seq ?_
  refine AWP.region ?_
  refine AOps.step rfl rfl rfl (AOp.moveD rfl rfl) ?_
  refine AOps.step rfl rfl rfl (AOp.moveD rfl rfl) ?_
  refine AOps.step rfl rfl rfl (AOp.sub64 rfl rfl rfl (by omega) (by omega)) ?_
  refine AOps.step rfl rfl rfl (AOp.assignD rfl rfl) ?_
  refine AOps.nil ?_
  refine AWP.seq ?_
  refine AWP.region ?_
  refine AOps.step rfl rfl rfl (AOp.moveD rfl rfl) ?_
  refine AOps.step rfl rfl rfl (AOp.moveD rfl rfl) ?_
  refine AOps.step rfl rfl rfl (AOp.sub64 rfl rfl rfl (by omega) (by omega)) ?_
  refine AOps.step rfl rfl rfl (AOp.assignD rfl rfl) ?_
  refine AOps.nil ?_
  refine AWP.seq ?_
  refine AWP.block ?_
  refine AWP.loop (G := List (Fin N0 × Nat) × Nat × Nat) (fun g => Env.of [(10, .d (.v (.int .i64 (g.2.1 : Int)))), (11, .d (.v (.int .i64 (g.2.2 : Int)))), (0, .own 1), (2, .d (.v (.int .i64 m))), (4, .d c)]) (fun g => [(1, .row 3 1 (g.1.map fds))]) (fun g => 0 < g.2.1 ∧ 0 < g.2.2 ∧ g.2.1 ≤ m ∧ m + g.2.2 ≤ l.length ∧ g.1.length = l.length ∧ rotl g.1 (m - g.2.1) m (m + g.2.2) = rotl l a m b) (fun g => g.2.1 + g.2.2) (l, m - a, b - m) ⟨by dsimp only; omega, by dsimp only; omega, by dsimp only; omega, by dsimp only; omega, rfl, by dsimp only; rw [show m - (m - a) = a by omega, show m + (b - m) = b by omega]⟩ (Sub.less ⟨(SLe.i64 (by dsimp only; omega)), (SLe.i64 (by dsimp only; omega)), SLe.refl _, SLe.refl _, SLe.refl _, trivial⟩ (row_same rfl)) ?_
  rintro ⟨x, i, j⟩ ⟨q1, q2, q3, q4, q5, q6⟩
  dsimp only at q1 q2 q3 q4 q5 q6 ⊢
  refine AWP.seq ?_
  refine AWP.seq ?_
  refine AWP.region ?_
  refine AOps.step rfl rfl rfl (AOp.moveD rfl rfl) ?_
  refine AOps.step rfl rfl rfl (AOp.moveD rfl rfl) ?_
  refine AOps.step rfl rfl rfl (AOp.neq rfl rfl rfl) ?_
  refine AOps.nil ?_
  refine AWP.cond rfl (fun h1 => ?_) (fun h1 => ?_)
  · replace h1 := of_decide_eq_true h1
    refine AWP.skip ?_
    refine AWP.block ?_
    refine AWP.seq ?_
    refine AWP.region ?_
    refine AOps.step rfl rfl rfl (AOp.moveD rfl rfl) ?_
    refine AOps.step rfl rfl rfl (AOp.moveD rfl rfl) ?_
    refine AOps.step rfl rfl rfl (AOp.gtr rfl rfl rfl) ?_
    refine AOps.nil ?_
    refine AWP.cond rfl (fun h2 => ?_) (fun h2 => ?_)
    · replace h2 := of_decide_eq_true h2
      have hij : j < i := by omega
      refine AWP.seq ?_
      refine AWP.region ?_
      refine AOps.step rfl rfl rfl (AOp.moveO rfl rfl) ?_
      refine AOps.step rfl rfl rfl (AOp.moveD rfl rfl) ?_
      refine AOps.step rfl rfl rfl (AOp.moveD rfl rfl) ?_
      refine AOps.step rfl rfl rfl (AOp.sub64 rfl rfl rfl (by omega) (by omega)) ?_
      refine AOps.step rfl rfl rfl (AOp.moveD rfl rfl) ?_
      refine AOps.step rfl rfl rfl (AOp.moveD rfl rfl) ?_
      refine AOps.step rfl rfl rfl (AOp.moveD rfl rfl) ?_
      -- turns 1
      refine AOps.callX rfl rfl rfl (.cons (SLe.refl _) (.cons (SLe.i64 (by omega)) (.cons (SLe.refl _) (.cons (SLe.refl _) (.cons (SLe.refl _) .nil))))) ((c_swapRange x (m - i) m j _ (by omega) (by omega) (by omega)) 1) ⟨(.head _), trivial⟩ rfl rfl (fun _ h => nomatch h) ?_
      refine AOps.nil ?_
      refine AWP.region ?_
      refine AOps.step rfl rfl rfl (AOp.moveD rfl rfl) ?_
      refine AOps.step rfl rfl rfl (AOp.moveD rfl rfl) ?_
      refine AOps.step rfl rfl rfl (AOp.sub64 rfl rfl rfl (by omega) (by omega)) ?_
      refine AOps.step rfl rfl rfl (AOp.assignD rfl rfl) ?_
      refine AOps.nil ?_
      refine ⟨(swapTo x (m - i) m j, i - j, j), ⟨by dsimp only; omega, q2, by dsimp only; omega, q4, by dsimp only; rw [swapTo_len, q5], by dsimp only; rw [rot_more hij q2 q3 (by omega), q6]⟩, (by dsimp only; omega), Sub.less ⟨(SLe.i64 (by dsimp only; omega)), (SLe.refl _), SLe.refl _, SLe.refl _, SLe.refl _, trivial⟩ (row_same rfl)⟩
    · replace h2 := of_decide_eq_false h2
      have hij : i < j := by omega
      refine AWP.seq ?_
      refine AWP.region ?_
      refine AOps.step rfl rfl rfl (AOp.moveO rfl rfl) ?_
      refine AOps.step rfl rfl rfl (AOp.moveD rfl rfl) ?_
      refine AOps.step rfl rfl rfl (AOp.moveD rfl rfl) ?_
      refine AOps.step rfl rfl rfl (AOp.sub64 rfl rfl rfl (by omega) (by omega)) ?_
      refine AOps.step rfl rfl rfl (AOp.moveD rfl rfl) ?_
      refine AOps.step rfl rfl rfl (AOp.moveD rfl rfl) ?_
      refine AOps.step rfl rfl rfl (AOp.add64 rfl rfl rfl (by omega) (by omega)) ?_
      refine AOps.step rfl rfl rfl (AOp.moveD rfl rfl) ?_
      refine AOps.step rfl rfl rfl (AOp.sub64 rfl rfl rfl (by omega) (by omega)) ?_
      refine AOps.step rfl rfl rfl (AOp.moveD rfl rfl) ?_
      refine AOps.step rfl rfl rfl (AOp.moveD rfl rfl) ?_
      -- turns 1
      refine AOps.callX rfl rfl rfl (.cons (SLe.refl _) (.cons (SLe.i64 (by omega)) (.cons (SLe.i64 (by omega)) (.cons (SLe.refl _) (.cons (SLe.refl _) .nil))))) ((c_swapRange x (m - i) (m + j - i) i _ (by omega) (by omega) (by omega)) 1) ⟨(.head _), trivial⟩ rfl rfl (fun _ h => nomatch h) ?_
      refine AOps.nil ?_
      refine AWP.region ?_
      refine AOps.step rfl rfl rfl (AOp.moveD rfl rfl) ?_
      refine AOps.step rfl rfl rfl (AOp.moveD rfl rfl) ?_
      refine AOps.step rfl rfl rfl (AOp.sub64 rfl rfl rfl (by omega) (by omega)) ?_
      refine AOps.step rfl rfl rfl (AOp.assignD rfl rfl) ?_
      refine AOps.nil ?_
      refine ⟨(swapTo x (m - i) (m + j - i) i, i, j - i), ⟨q1, by dsimp only; omega, q3, by dsimp only; omega, by dsimp only; rw [swapTo_len, q5], by dsimp only; rw [rot_less hij q1 q3 (by omega), q6]⟩, (by dsimp only; omega), Sub.less ⟨(SLe.refl _), (SLe.i64 (by dsimp only; omega)), SLe.refl _, SLe.refl _, SLe.refl _, trivial⟩ (row_same rfl)⟩
  · replace h1 := of_decide_eq_false h1
    have hij : i = j := by omega
    refine AWP.exit ?_
    refine AWP.region ?_
    refine AOps.step rfl rfl rfl (AOp.moveO rfl rfl) ?_
    refine AOps.step rfl rfl rfl (AOp.moveD rfl rfl) ?_
    refine AOps.step rfl rfl rfl (AOp.moveD rfl rfl) ?_
    refine AOps.step rfl rfl rfl (AOp.sub64 rfl rfl rfl (by omega) (by omega)) ?_
    refine AOps.step rfl rfl rfl (AOp.moveD rfl rfl) ?_
    refine AOps.step rfl rfl rfl (AOp.moveD rfl rfl) ?_
    refine AOps.step rfl rfl rfl (AOp.moveD rfl rfl) ?_
    -- turns 1
    refine AOps.callX rfl rfl rfl (.cons (SLe.refl _) (.cons (SLe.i64 (by omega)) (.cons (SLe.refl _) (.cons (SLe.refl _) (.cons (SLe.refl _) .nil))))) ((c_swapRange x (m - i) m i _ (by omega) (by omega) (by omega)) 1) ⟨(.head _), trivial⟩ rfl rfl (fun _ h => nomatch h) ?_
    refine AOps.nil ?_
    refine ⟨trivial, ⟨mem_row_eq (.head _) ?_, trivial⟩⟩
    all_goals (subst hij; rw [rot_last q3 (by omega), q6])

end Go.Proofs.Ytpihcfpdaoflbaa
