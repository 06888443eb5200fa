/- Walks over abstract values. Printed by tools/gen.py. No statement of the seat. -/
import Derived.Test.YtpihcfpdaoflbaaF10
namespace Go.Proofs.Ytpihcfpdaoflbaa
open Go.RowKit
set_option linter.unusedVariables false

/-! Types. -/
namespace TyF11
theorem et_22 : ElemTy Try.prog 22 3 1 8 (.int .i64 0) := ⟨by kernel_rfl, by kernel_rfl, by kernel_rfl, by decide⟩
end TyF11
open TyF11


theorem c_symMerge {N0 : Nat} (cmp : Fin N0 → Fin N0 → Int) (hc : Pre cmp) (f : Nat) (caps : List D) (hf : ∀ x y : Fin N0, ACall Try.prog f (.v (.int .i64 (x.val : Int)) :: .v (.int .i64 (y.val : Int)) :: caps) (.v (.int .i64 (cmp x y)))) : ∀ (N : Nat) (l : List (Fin N0 × Nat)) (a m b : Nat), b - a ≤ N → a < m → m < b → b ≤ l.length → l.length ≤ 4611686018427387904 → TagsOk l → SortedOn cmp l a m → SortedOn cmp l m b → Cross l a m b →
    RCall Try.prog 26 3 1 (l.map fds) ((sortSeg cmp l a b).map fds) [.v (.int .i64 a), .v (.int .i64 m), .v (.int .i64 b), .clo (.func f) caps] (.tup [])
  | 0, _, _, _, _, hN, h1, h2, _, _, _, _, _, _ => by omega
  | N + 1, l, a, m, b, hN, h1, h2, h3, hl, ht, s1, s2, hx => c_symStep cmp hc f caps hf (N + 1) (fun l a m b q1 q2 q3 q4 q5 q6 q7 q8 q9 => c_symMerge cmp hc f caps hf N l a m b (by omega) q2 q3 q4 q5 q6 q7 q8 q9) l a m b hN h1 h2 h3 hl ht s1 s2 hx
section
variable {α : Type} {cmp : α → α → Int}
theorem dvd_gap {s a m : Nat} (h1 : s ∣ a) (h2 : s ∣ m) (h : a < m) : a + s ≤ m := by
  obtain ⟨k, rfl⟩ := h1
  obtain ⟨j, rfl⟩ := h2
  have : k < j := Nat.lt_of_mul_lt_mul_left h
  have := Nat.mul_le_mul_left s this
  rw [Nat.mul_succ] at this
  exact this
/-- Pieces in order, cut at B; who lies before a cut came before. -/
def Runs (cmp : α → α → Int) (n : Nat) (B : Nat → Prop) (c : List (α × Nat)) : Prop := (∀ m, B m → Cross c 0 m n) ∧ ∀ i j x y, i < j → j < n → (∀ m, i < m → m ≤ j → ¬ B m) → c[i]? = some x → c[j]? = some y → tlt cmp x y
theorem Runs.congr {n : Nat} {B B' : Nat → Prop} {c : List (α × Nat)} (h : Runs cmp n B c) (hb : ∀ m, 0 < m → m < n → (B m ↔ B' m)) : Runs cmp n B' c := by
  refine ⟨fun m hm i j x y h1 h2 h3 h4 hx hy => ?_, fun i j x y h1 h2 h3 hx hy => h.2 i j x y h1 h2 (fun m q1 q2 q3 => h3 m q1 q2 ((hb m (by omega) (by omega)).1 q3)) hx hy⟩
  exact h.1 m ((hb m (by omega) (by omega)).2 hm) i j x y h1 h2 h3 h4 hx hy
theorem Runs.sorted {n : Nat} {B : Nat → Prop} {c : List (α × Nat)} (h : Runs cmp n B c) {a b : Nat} (hb : b ≤ n) (hn : ∀ m, a < m → m < b → ¬ B m) : SortedOn cmp c a b :=
  fun i j x y h1 h2 h3 hx hy => h.2 i j x y h2 (by omega) (fun m q1 q2 => hn m (by omega) (by omega)) hx hy
theorem Runs.cross {n : Nat} {B : Nat → Prop} {c : List (α × Nat)} (h : Runs cmp n B c) {a m b : Nat} (hm : B m) (hb : b ≤ n) : Cross c a m b := fun i j x y _ h2 h3 h4 hx hy => h.1 m hm i j x y (Nat.zero_le _) h2 h3 (by omega) hx hy
theorem seg_from {l : List (α × Nat)} {a b : Nat} (hab : a ≤ b) (hb : b ≤ l.length) {p : Nat} {x : α × Nat} (h : (sortSeg cmp l a b)[p]? = some x) : ∃ q, l[q]? = some x ∧ (p < a → q = p) ∧ (b ≤ p → q = p) ∧ (a ≤ p → p < b → a ≤ q ∧ q < b) := by
  by_cases h1 : p < a
  · exact ⟨p, by rw [← sortSeg_out cmp l hab hb p (.inl h1)]; exact h, fun _ => rfl, fun _ => rfl, fun _ _ => by omega⟩
  · by_cases h2 : b ≤ p
    · exact ⟨p, by rw [← sortSeg_out cmp l hab hb p (.inr h2)]; exact h, fun _ => rfl, fun _ => rfl, fun _ _ => by omega⟩
    · obtain ⟨q, q1, q2, q3⟩ := sortSeg_mem hab hb (by omega) (by omega) h
      exact ⟨q, q3, fun _ => by omega, fun _ => by omega, fun _ _ => ⟨q1, q2⟩⟩
theorem Runs.step (hc : Pre cmp) {n : Nat} {B : Nat → Prop} {c : List (α × Nat)} (h : Runs cmp n B c) (ht : TagsOk c) {a b : Nat} (hab : a ≤ b) (hbn : b ≤ n) (hn : n ≤ c.length) (hBa : B a) (hBb : B b ∨ b = n) : Runs cmp n (fun m => B m ∧ ¬ (a < m ∧ m < b)) (sortSeg cmp c a b) := by
  refine ⟨fun m hm i j x y h1 h2 h3 h4 hx hy => ?_, fun i j x y h1 h2 h3 hx hy => ?_⟩
  · obtain ⟨p, p1, p2, p3, p4⟩ := seg_from hab (by omega) hx
    obtain ⟨q, q1, q2, q3, q4⟩ := seg_from hab (by omega) hy
    refine h.1 m hm.1 p q x y (Nat.zero_le _) ?_ ?_ ?_ p1 q1 <;> have := hm.2 <;> by_cases c1 : i < a <;> by_cases c2 : b ≤ i <;> by_cases c3 : j < a <;> by_cases c4 : b ≤ j <;> omega
  · by_cases c1 : a ≤ i ∧ j < b
    · exact sortSeg_sorted hc hab (by omega) ht i j x y c1.1 h1 c1.2 hx hy
    · by_cases c2 : i < a ∧ a ≤ j
      · exact absurd ⟨hBa, by omega⟩ (h3 a c2.1 c2.2)
      · by_cases c3 : i < b ∧ b ≤ j
        · rcases hBb with hBb | hBb
          · exact absurd ⟨hBb, by omega⟩ (h3 b c3.1 c3.2)
          · omega
        · rw [sortSeg_out cmp c hab (by omega) i (by omega)] at hx
          rw [sortSeg_out cmp c hab (by omega) j (by omega)] at hy
          exact h.2 i j x y h1 h2 (fun m q1 q2 q3 => h3 m q1 q2 ⟨q3, by omega⟩) hx hy
def Bk (s a s2 m : Nat) : Prop := (s ∣ m ∧ m ≤ a) ∨ (s2 ∣ m ∧ a ≤ m)
theorem Bk.start {l : List (α × Nat)} {n s : Nat} (h : Incr l 0 n) : Runs cmp n (Bk s 0 1) l :=
  ⟨fun m hm i j x y h1 h2 h3 h4 hx hy => h i j x y h1 (by omega) h4 hx hy, fun i j x y h1 h2 h3 => absurd (.inr ⟨Nat.one_dvd _, Nat.zero_le _⟩) (h3 j h1 (Nat.le_refl _))⟩
theorem Bk.incr {c : List (α × Nat)} {n s a b : Nat} (h : Runs cmp n (Bk s a 1) c) (hb : b ≤ n) : Incr c a b := fun i j x y h1 h2 h3 hx hy => h.1 j (.inr ⟨Nat.one_dvd _, by omega⟩) i j x y (Nat.zero_le _) h2 (Nat.le_refl _) (by omega) hx hy
theorem Bk.at {s a s2 : Nat} (h : s ∣ a) : Bk s a s2 a := .inl ⟨h, Nat.le_refl _⟩
theorem Bk.next {s a s2 : Nat} (h : s2 ∣ s) (ha : s ∣ a) (hs : 0 < s) (m : Nat) : (Bk s a s2 m ∧ ¬ (a < m ∧ m < a + s)) ↔ Bk s (a + s) s2 m := by
  constructor
  · rintro ⟨⟨h1, h2⟩ | ⟨h1, h2⟩, h3⟩
    · exact .inl ⟨h1, by omega⟩
    · by_cases e : m = a
      · subst e; exact .inl ⟨ha, by omega⟩
      · exact .inr ⟨h1, by omega⟩
  · rintro (⟨h1, h2⟩ | ⟨h1, h2⟩)
    · by_cases e : m ≤ a
      · exact ⟨.inl ⟨h1, e⟩, by omega⟩
      · have := dvd_gap ha h1 (by omega)
        exact ⟨.inr ⟨Nat.dvd_trans h h1, by omega⟩, by omega⟩
    · exact ⟨.inr ⟨h1, by omega⟩, by omega⟩
theorem Bk.last {s a s2 n : Nat} (ha : s ∣ a) (hn : n ≤ a + s) (m : Nat) (hm : m < n) : (Bk s a s2 m ∧ ¬ (a < m ∧ m < n)) ↔ s ∣ m := by
  constructor
  · rintro ⟨⟨h1, h2⟩ | ⟨h1, h2⟩, h3⟩
    · exact h1
    · have : m = a := by omega
      subst this; exact ha
  · intro h1
    have h2 : m ≤ a := Nat.le_of_not_lt fun hh => by have := dvd_gap ha h1 hh; omega
    exact ⟨.inl ⟨h1, h2⟩, by omega⟩
theorem Bk.skip {s a s2 n : Nat} (ha : s ∣ a) (ha2 : s2 ∣ a) (h2 : s2 ≤ s) (hn : n ≤ a + s2) (m : Nat) (hm : m < n) : Bk s a s2 m ↔ s ∣ m := by
  constructor
  · rintro (⟨h1, h2⟩ | ⟨h1, h2⟩)
    · exact h1
    · have h3 : m ≤ a := Nat.le_of_not_lt fun hh => by have := dvd_gap ha2 h1 hh; omega
      have : m = a := by omega
      subst this; exact ha
  · intro h1
    exact .inl ⟨h1, Nat.le_of_not_lt fun hh => by have := dvd_gap ha h1 hh; omega⟩
theorem Bk.open {s : Nat} (m : Nat) : s ∣ m ↔ Bk (2 * s) 0 s m :=
  ⟨fun h => .inr ⟨h, Nat.zero_le _⟩, fun h => h.elim (fun h => Nat.dvd_trans ⟨2, Nat.mul_comm _ _⟩ h.1) (fun h => h.1)⟩
theorem Bk.run1 {c : List (α × Nat)} {n s a : Nat} (h : Runs cmp n (Bk (2 * s) a s) c) (ha : s ∣ a) (hb : a + s ≤ n) : SortedOn cmp c a (a + s) := h.sorted hb fun m h1 h2 h3 => by
  rcases h3 with ⟨_, h3⟩ | ⟨h3, _⟩
  · omega
  · have := dvd_gap ha h3 h1; omega
theorem Bk.run2 {c : List (α × Nat)} {n s a b : Nat} (h : Runs cmp n (Bk (2 * s) a s) c) (ha : s ∣ a) (hb : b ≤ n) (hb2 : b ≤ a + 2 * s) : SortedOn cmp c (a + s) b := h.sorted hb fun m h1 h2 h3 => by
  rcases h3 with ⟨_, h3⟩ | ⟨h3, _⟩
  · omega
  · have := dvd_gap (Nat.dvd_add ha (Nat.dvd_refl s)) h3 h1; omega
theorem Bk.mid {s a : Nat} (ha : s ∣ a) : Bk (2 * s) a s (a + s) := .inr ⟨Nat.dvd_add ha (Nat.dvd_refl s), by omega⟩
theorem runs_end (hc : Pre cmp) {l c : List (α × Nat)} {s : Nat} (ht : TagsOk l) (hp : c.Perm l) (h : Runs cmp l.length (fun m => s ∣ m) c) (hs : l.length ≤ s) : c = sortSeg cmp l 0 l.length :=
  sortSeg_eq hc (Nat.zero_le _) ht hp (fun p h1 => by rw [List.getElem?_eq_none (by rw [hp.length_eq]; omega), List.getElem?_eq_none (by omega)])
    (h.sorted (Nat.le_refl _) fun m h1 h2 h3 => by have := Nat.le_of_dvd h1 h3; omega)
end


set_option maxRecDepth 100000 in
set_option maxHeartbeats 1000000 in
theorem c_stable {N0 : Nat} (cmp : Fin N0 → Fin N0 → Int) (hc : Pre cmp) (f : Nat) (caps : List D) (hf : ∀ x y : Fin N0, ACall Try.prog f (.v (.int .i64 (x.val : Int)) :: .v (.int .i64 (y.val : Int)) :: caps) (.v (.int .i64 (cmp x y)))) (l : List (Fin N0 × Nat)) (hl : l.length ≤ 1152921504606846976) (ht : TagsOk l) (hin : Incr l 0 l.length) : RCall Try.prog 23 3 1 (l.map fds) ((sortSeg cmp l 0 l.length).map fds) [.v (.int .i64 l.length), .clo (.func f) caps] (.tup []) := by
  refine RCall.of1 (chg := fun i => Nat.ble 1000 i) (xcall_of (n := 63) (ds' := []) Try.func23 rfl (by kernel_rfl) rfl [] rfl rfl ?_) rfl
  intro B w0 F0 fr ρ0
  refine AWP.seq ?_
  refine AWP.region ?_
  refine AOps.step rfl rfl rfl (AOp.assignD rfl rfl) ?_
  refine AOps.nil ?_
  refine AWP.seq ?_
  refine AWP.region ?_
  refine AOps.step rfl rfl rfl (AOp.moveD rfl rfl) ?_
  refine AOps.step rfl rfl rfl (AOp.assignD rfl rfl) ?_
  refine AOps.step rfl rfl rfl (AOp.assignD rfl rfl) ?_
  refine AOps.nil ?_
  refine AWP.seq ?_
  refine AWP.block ?_
  refine AWP.loop (G := List (Fin N0 × Nat) × Nat) (fun g => Env.of [(6, .d (.v (.int .i64 20))), (7, .d (.v (.int .i64 (g.2 : Int)))), (8, .d (.v (.int .i64 ((g.2 + 20 : Nat) : Int)))), (0, .own 1), (1, .d (.v (.int .i64 (l.length : Int)))), (2, .d (.clo (.func f) caps))]) (fun g => [(1, .row 3 1 (g.1.map fds))]) (fun g => 20 ∣ g.2 ∧ g.2 ≤ l.length ∧ Runs cmp l.length (Bk 20 g.2 1) g.1 ∧ g.1.Perm l) (fun g => l.length - g.2) (l, 0) ⟨Nat.dvd_zero _, Nat.zero_le _, Bk.start hin, List.Perm.refl _⟩ (Sub.less ⟨SLe.refl _, (SLe.i64 rfl), (SLe.i64 rfl), SLe.refl _, SLe.refl _, SLe.refl _, trivial⟩ (row_same rfl)) ?_
  rintro ⟨c, a⟩ ⟨hg1, hg2, hg3, hg4⟩
  dsimp only at hg1 hg2 hg3 hg4 ⊢
  have hcl := hg4.length_eq
  have htc : TagsOk c := ht.perm hg4
  refine AWP.seq ?_
  refine AWP.seq ?_
  refine AWP.region ?_
  refine AOps.step rfl rfl rfl (AOp.moveD rfl rfl) ?_
  refine AOps.step rfl rfl rfl (AOp.moveD rfl rfl) ?_
  refine AOps.step rfl rfl rfl (AOp.leq rfl rfl rfl) ?_
  refine AOps.nil ?_
  refine AWP.cond rfl (fun h1 => ?_) (fun h1 => ?_)
  · replace h1 := of_decide_eq_true h1
    refine AWP.skip ?_
    refine AWP.block ?_
    refine AWP.seq ?_
    refine AWP.region ?_
    refine AOps.step rfl rfl rfl (AOp.moveO rfl rfl) ?_
    refine AOps.step rfl rfl rfl (AOp.moveD rfl rfl) ?_
    refine AOps.step rfl rfl rfl (AOp.moveD rfl rfl) ?_
    refine AOps.step rfl rfl rfl (AOp.moveD rfl rfl) ?_
    -- turns 1
    refine AOps.callX rfl rfl rfl (.cons (SLe.refl _) (.cons (SLe.refl _) (.cons (SLe.i64 (by omega)) (.cons (SLe.refl _) .nil)))) ((c_insSort c a (a + 20) cmp hc f caps hf htc (Bk.incr hg3 (by omega)) (by omega) (by omega) (by omega)) 1) ⟨(.head _), trivial⟩ rfl rfl (fun _ h => nomatch h) ?_
    refine AOps.nil ?_
    refine AWP.seq ?_
    refine AWP.region ?_
    refine AOps.step rfl rfl rfl (AOp.moveD rfl rfl) ?_
    refine AOps.step rfl rfl rfl (AOp.assignD rfl rfl) ?_
    refine AOps.nil ?_
    refine AWP.region ?_
    refine AOps.step rfl rfl rfl (AOp.moveD rfl rfl) ?_
    refine AOps.step rfl rfl rfl (AOp.moveD rfl rfl) ?_
    refine AOps.step rfl rfl rfl (AOp.add64 rfl rfl rfl (by omega) (by omega)) ?_
    refine AOps.step rfl rfl rfl (AOp.assignD rfl rfl) ?_
    refine AOps.nil ?_
    refine ⟨(sortSeg cmp c a (a + 20), a + 20), ⟨Nat.dvd_add hg1 (Nat.dvd_refl _), by dsimp only; omega, (hg3.step hc htc (a := a) (b := a + 20) (by omega) (by omega) (by omega) (Bk.at hg1) (.inl (.inr ⟨Nat.one_dvd _, by omega⟩))).congr (fun m _ _ => Bk.next (s := 20) (s2 := 1) (Nat.one_dvd _) hg1 (by decide) m), (sortSeg_perm cmp c (Nat.le_add_right _ _)).trans hg4⟩, (by dsimp only; omega), Sub.less ⟨SLe.refl _, (SLe.i64 (by first | rfl | omega | (dsimp only; omega))), (SLe.i64 (by first | rfl | omega | (dsimp only; omega))), SLe.refl _, SLe.refl _, SLe.refl _, trivial⟩ (row_same rfl)⟩
  · replace h1 := of_decide_eq_false h1
    have hr1 := hg3.step hc htc (a := a) (b := l.length) (by omega) (Nat.le_refl _) (by omega) (Bk.at hg1) (.inr rfl)
    have hr2 : Runs cmp l.length (fun m => 20 ∣ m) (sortSeg cmp c a l.length) := hr1.congr fun m _ q2 => Bk.last hg1 (by omega) m q2
    have hp2 : (sortSeg cmp c a l.length).Perm l := (sortSeg_perm cmp c hg2).trans hg4
    refine AWP.exit ?_
    refine AWP.seq ?_
    refine AWP.region ?_
    refine AOps.step rfl rfl rfl (AOp.moveO rfl rfl) ?_
    refine AOps.step rfl rfl rfl (AOp.moveD rfl rfl) ?_
    refine AOps.step rfl rfl rfl (AOp.moveD rfl rfl) ?_
    refine AOps.step rfl rfl rfl (AOp.moveD rfl rfl) ?_
    -- turns 1
    refine AOps.callX rfl rfl rfl (.cons (SLe.refl _) (.cons (SLe.refl _) (.cons (SLe.refl _) (.cons (SLe.refl _) .nil)))) ((c_insSort c a l.length cmp hc f caps hf htc (Bk.incr hg3 (Nat.le_refl _)) hg2 (by omega) (by omega)) 1) ⟨(.head _), trivial⟩ rfl rfl (fun _ h => nomatch h) ?_
    refine AOps.nil ?_
    refine AWP.block ?_
    refine AWP.loop (G := List (Fin N0 × Nat) × Nat) (fun g => Env.of [(6, .d (.v (.int .i64 (g.2 : Int)))), (0, .own 1), (1, .d (.v (.int .i64 (l.length : Int)))), (2, .d (.clo (.func f) caps))]) (fun g => [(1, .row 3 1 (g.1.map fds))]) (fun g => 20 ≤ g.2 ∧ g.2 ≤ 2305843009213693952 ∧ g.1.Perm l ∧ Runs cmp l.length (fun m => g.2 ∣ m) g.1) (fun g => l.length - g.2) (sortSeg cmp c a l.length, 20) ⟨Nat.le_refl _, by dsimp only; omega, hp2, hr2⟩ (Sub.less ⟨(SLe.i64 rfl), SLe.refl _, SLe.refl _, SLe.refl _, trivial⟩ (row_same rfl)) ?_
    rintro ⟨c0, s⟩ ⟨hs1, hs2, hq2, hq3⟩
    dsimp only at hs1 hs2 hq2 hq3 ⊢
    have hcl0 := hq2.length_eq
    refine AWP.seq ?_
    refine AWP.seq ?_
    refine AWP.region ?_
    refine AOps.step rfl rfl rfl (AOp.moveD rfl rfl) ?_
    refine AOps.step rfl rfl rfl (AOp.moveD rfl rfl) ?_
    refine AOps.step rfl rfl rfl (AOp.lss rfl rfl rfl) ?_
    refine AOps.nil ?_
    refine AWP.cond rfl (fun h2 => ?_) (fun h2 => ?_)
    · replace h2 := of_decide_eq_true h2
      have hsl : s < l.length := by omega
      refine AWP.skip ?_
      refine AWP.block ?_
      refine AWP.seq ?_
      refine AWP.region ?_
      refine AOps.step rfl rfl rfl (AOp.moveD rfl rfl) ?_
      refine AOps.step rfl rfl rfl (AOp.mul64 rfl rfl rfl (by omega) (by omega)) ?_
      refine AOps.step rfl rfl rfl (AOp.assignD rfl rfl) ?_
      refine AOps.step rfl rfl rfl (AOp.assignD rfl rfl) ?_
      refine AOps.nil ?_
      refine AWP.seq ?_
      refine AWP.block ?_
      refine AWP.loop (G := List (Fin N0 × Nat) × Nat) (fun g => Env.of [(6, .d (.v (.int .i64 (s : Int)))), (7, .d (.v (.int .i64 (g.2 : Int)))), (8, .d (.v (.int .i64 ((g.2 + 2 * s : Nat) : Int)))), (0, .own 1), (1, .d (.v (.int .i64 (l.length : Int)))), (2, .d (.clo (.func f) caps))]) (fun g => [(1, .row 3 1 (g.1.map fds))]) (fun g => 2 * s ∣ g.2 ∧ g.2 ≤ l.length ∧ Runs cmp l.length (Bk (2 * s) g.2 s) g.1 ∧ g.1.Perm l) (fun g => l.length - g.2) (c0, 0) ⟨Nat.dvd_zero _, Nat.zero_le _, hq3.congr (fun m _ _ => Bk.open m), hq2⟩ (Sub.less ⟨SLe.refl _, (SLe.i64 rfl), (SLe.i64 (by first | rfl | omega | (dsimp only; omega))), SLe.refl _, SLe.refl _, SLe.refl _, trivial⟩ (row_same rfl)) ?_
      rintro ⟨c, a⟩ ⟨hg1, hg2, hg3, hg4⟩
      dsimp only at hg1 hg2 hg3 hg4 ⊢
      have hcl := hg4.length_eq
      have htc : TagsOk c := ht.perm hg4
      refine AWP.seq ?_
      refine AWP.seq ?_
      refine AWP.region ?_
      refine AOps.step rfl rfl rfl (AOp.moveD rfl rfl) ?_
      refine AOps.step rfl rfl rfl (AOp.moveD rfl rfl) ?_
      refine AOps.step rfl rfl rfl (AOp.leq rfl rfl rfl) ?_
      refine AOps.nil ?_
      refine AWP.cond rfl (fun h3 => ?_) (fun h3 => ?_)
      · replace h3 := of_decide_eq_true h3
        have hb2 : a + 2 * s ≤ l.length := by omega
        have sa : s ∣ a := Nat.dvd_trans ⟨2, Nat.mul_comm _ _⟩ hg1
        refine AWP.skip ?_
        refine AWP.block ?_
        refine AWP.seq ?_
        refine AWP.region ?_
        refine AOps.step rfl rfl rfl (AOp.moveO rfl rfl) ?_
        refine AOps.step rfl rfl rfl (AOp.moveD rfl rfl) ?_
        refine AOps.step rfl rfl rfl (AOp.moveD rfl rfl) ?_
        refine AOps.step rfl rfl rfl (AOp.moveD rfl rfl) ?_
        refine AOps.step rfl rfl rfl (AOp.add64 rfl rfl rfl (by omega) (by omega)) ?_
        refine AOps.step rfl rfl rfl (AOp.moveD rfl rfl) ?_
        refine AOps.step rfl rfl rfl (AOp.moveD rfl rfl) ?_
        -- turns 1
        refine AOps.callX rfl rfl rfl (.cons (SLe.refl _) (.cons (SLe.refl _) (.cons (SLe.i64 (by omega)) (.cons (SLe.i64 (by omega)) (.cons (SLe.refl _) .nil))))) ((c_symMerge cmp hc f caps hf _ c a (a + s) (a + 2 * s) (Nat.le_refl _) (by omega) (by omega) (by omega) (by omega) htc (Bk.run1 hg3 sa (by omega)) (Bk.run2 hg3 sa hb2 (Nat.le_refl _)) (hg3.cross (Bk.mid sa) hb2)) 1) ⟨(.head _), trivial⟩ rfl rfl (fun _ h => nomatch h) ?_
        refine AOps.nil ?_
        refine AWP.seq ?_
        refine AWP.region ?_
        refine AOps.step rfl rfl rfl (AOp.moveD rfl rfl) ?_
        refine AOps.step rfl rfl rfl (AOp.assignD rfl rfl) ?_
        refine AOps.nil ?_
        refine AWP.region ?_
        refine AOps.step rfl rfl rfl (AOp.moveD rfl rfl) ?_
        refine AOps.step rfl rfl rfl (AOp.moveD rfl rfl) ?_
        refine AOps.step rfl rfl rfl (AOp.mul64 rfl rfl rfl (by omega) (by omega)) ?_
        refine AOps.step rfl rfl rfl (AOp.add64 rfl rfl rfl (by omega) (by omega)) ?_
        refine AOps.step rfl rfl rfl (AOp.assignD rfl rfl) ?_
        refine AOps.nil ?_
        refine ⟨(sortSeg cmp c a (a + 2 * s), a + 2 * s), ⟨Nat.dvd_add hg1 (Nat.dvd_refl _), by dsimp only; omega, (hg3.step hc htc (a := a) (b := a + 2 * s) (by omega) (by omega) (by omega) (Bk.at hg1) (.inl (.inr ⟨Nat.dvd_add sa ⟨2, Nat.mul_comm _ _⟩, by omega⟩))).congr (fun m _ _ => Bk.next (s := 2 * s) (s2 := s) ⟨2, Nat.mul_comm _ _⟩ hg1 (by omega) m), (sortSeg_perm cmp c (Nat.le_add_right _ _)).trans hg4⟩, (by dsimp only; omega), Sub.less ⟨SLe.refl _, (SLe.i64 (by first | rfl | omega | (dsimp only; omega))), (SLe.i64 (by first | rfl | omega | (dsimp only; omega))), SLe.refl _, SLe.refl _, SLe.refl _, trivial⟩ (row_same rfl)⟩
      · replace h3 := of_decide_eq_false h3
        have sa : s ∣ a := Nat.dvd_trans ⟨2, Nat.mul_comm _ _⟩ hg1
        refine AWP.exit ?_
        refine AWP.seq ?_
        refine AWP.seq ?_
        refine AWP.region ?_
        refine AOps.step rfl rfl rfl (AOp.moveD rfl rfl) ?_
        refine AOps.step rfl rfl rfl (AOp.moveD rfl rfl) ?_
        refine AOps.step rfl rfl rfl (AOp.add64 rfl rfl rfl (by omega) (by omega)) ?_
        refine AOps.step rfl rfl rfl (AOp.assignD rfl rfl) ?_
        refine AOps.nil ?_
        refine AWP.seq ?_
        refine AWP.region ?_
        refine AOps.step rfl rfl rfl (AOp.moveD rfl rfl) ?_
        refine AOps.step rfl rfl rfl (AOp.moveD rfl rfl) ?_
        refine AOps.step rfl rfl rfl (AOp.lss rfl rfl rfl) ?_
        refine AOps.nil ?_
        refine AWP.cond rfl (fun h4 => ?_) (fun h4 => ?_)
        · replace h4 := of_decide_eq_true h4
          have hr1 := hg3.step hc htc (a := a) (b := l.length) (by omega) (Nat.le_refl _) (by omega) (Bk.at hg1) (.inr rfl)
          have hr2 : Runs cmp l.length (fun m => 2 * s ∣ m) (sortSeg cmp c a l.length) := hr1.congr fun m _ q2 => Bk.last hg1 (by omega) m q2
          have hp2 : (sortSeg cmp c a l.length).Perm l := (sortSeg_perm cmp c hg2).trans hg4
          refine AWP.region ?_
          refine AOps.step rfl rfl rfl (AOp.moveO rfl rfl) ?_
          refine AOps.step rfl rfl rfl (AOp.moveD rfl rfl) ?_
          refine AOps.step rfl rfl rfl (AOp.moveD rfl rfl) ?_
          refine AOps.step rfl rfl rfl (AOp.moveD rfl rfl) ?_
          refine AOps.step rfl rfl rfl (AOp.moveD rfl rfl) ?_
          -- turns 1
          refine AOps.callX rfl rfl rfl (.cons (SLe.refl _) (.cons (SLe.refl _) (.cons (SLe.i64 (by omega)) (.cons (SLe.refl _) (.cons (SLe.refl _) .nil))))) ((c_symMerge cmp hc f caps hf _ c a (a + s) l.length (Nat.le_refl _) (by omega) (by omega) (by omega) (by omega) htc (Bk.run1 hg3 sa (by omega)) (Bk.run2 hg3 sa (Nat.le_refl _) (by omega)) (hg3.cross (Bk.mid sa) (Nat.le_refl _))) 1) ⟨(.head _), trivial⟩ rfl rfl (fun _ h => nomatch h) ?_
          refine AOps.nil ?_
          refine AWP.region ?_
          refine AOps.step rfl rfl rfl (AOp.moveD rfl rfl) ?_
          refine AOps.step rfl rfl rfl (AOp.mul64 rfl rfl rfl (by omega) (by omega)) ?_
          refine AOps.step rfl rfl rfl (AOp.assignD rfl rfl) ?_
          refine AOps.nil ?_
          refine ⟨(sortSeg cmp c a l.length, 2 * s), ⟨by dsimp only; omega, by dsimp only; omega, hp2, hr2⟩, (by dsimp only; omega), Sub.less ⟨(SLe.i64 (by first | rfl | omega | (dsimp only; omega))), SLe.refl _, SLe.refl _, SLe.refl _, trivial⟩ (row_same rfl)⟩
        · replace h4 := of_decide_eq_false h4
          have hr2 : Runs cmp l.length (fun m => 2 * s ∣ m) c := hg3.congr fun m _ q2 => Bk.skip hg1 sa (by omega) (by omega) m q2
          refine AWP.skip ?_
          refine AWP.region ?_
          refine AOps.step rfl rfl rfl (AOp.moveD rfl rfl) ?_
          refine AOps.step rfl rfl rfl (AOp.mul64 rfl rfl rfl (by omega) (by omega)) ?_
          refine AOps.step rfl rfl rfl (AOp.assignD rfl rfl) ?_
          refine AOps.nil ?_
          refine ⟨(c, 2 * s), ⟨by dsimp only; omega, by dsimp only; omega, hg4, hr2⟩, (by dsimp only; omega), Sub.less ⟨(SLe.i64 (by first | rfl | omega | (dsimp only; omega))), SLe.refl _, SLe.refl _, SLe.refl _, trivial⟩ (row_same rfl)⟩
    · replace h2 := of_decide_eq_false h2
      have HF := runs_end hc ht hq2 hq3 (by omega)
      refine AWP.exit ?_
      refine ⟨trivial, ⟨mem_row_eq (.head _) ?_, trivial⟩⟩
      all_goals (rw [HF])

set_option maxRecDepth 100000 in
set_option maxHeartbeats 1000000 in
theorem c_sortStable {N0 : Nat} (cmp : Fin N0 → Fin N0 → Int) (hc : Pre cmp) (f : Nat) (caps : List D) (hf : ∀ x y : Fin N0, ACall Try.prog f (.v (.int .i64 (x.val : Int)) :: .v (.int .i64 (y.val : Int)) :: caps) (.v (.int .i64 (cmp x y)))) (l : List (Fin N0 × Nat)) (hl : l.length ≤ 1152921504606846976) (ht : TagsOk l) (hin : Incr l 0 l.length) : RCall Try.prog 17 3 1 (l.map fds) ((sortSeg cmp l 0 l.length).map fds) [.clo (.func f) caps] (.tup []) := by
  refine RCall.of1 (chg := fun i => Nat.ble 1000 i) (xcall_of (n := 9) (ds' := []) Try.func17 rfl (by kernel_rfl) rfl [] rfl rfl ?_) rfl
  intro B w0 F0 fr ρ0
  refine AWP.region ?_
  refine AOps.step rfl rfl rfl (AOp.moveO rfl rfl) ?_
  refine AOps.step rfl rfl rfl (AOp.moveO rfl rfl) ?_
  refine AOps.step rfl rfl rfl (AOp.lenOwn rfl et_22.ht rfl (.head _)) ?_
  refine AOps.step rfl rfl rfl (AOp.moveD rfl rfl) ?_
  -- turns 1
  refine AOps.callX rfl rfl rfl (.cons (SLe.refl _) (.cons (SLe.i64 (by rw [List.length_map])) (.cons (SLe.refl _) .nil))) ((c_stable cmp hc f caps hf l hl ht hin) 1) ⟨(.head _), trivial⟩ rfl rfl (fun _ h => nomatch h) ?_
  refine AOps.nil ?_
  refine ⟨trivial, ⟨mem_row_eq (.head _) ?_, trivial⟩⟩
  all_goals (rfl)

end Go.Proofs.Ytpihcfpdaoflbaa
