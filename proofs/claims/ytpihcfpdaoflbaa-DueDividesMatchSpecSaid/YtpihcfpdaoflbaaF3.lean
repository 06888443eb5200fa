/- Walks over abstract values. Printed by tools/gen.py. No statement of the seat. -/
import Derived.Test.YtpihcfpdaoflbaaF2
namespace Go.Proofs.Ytpihcfpdaoflbaa
open Go.RowKit
set_option linter.unusedVariables false

/-! Types. -/
namespace TyF3

end TyF3
open TyF3


/-- What a comparing function must do. -/
structure Pre {α : Type} (cmp : α → α → Int) : Prop where
  asym : ∀ x y, cmp x y < 0 → 0 ≤ cmp y x
  trans : ∀ x y z, 0 ≤ cmp y x → 0 ≤ cmp z y → 0 ≤ cmp z x
variable {α : Type}
/-- By the comparison, then by the first place. -/
def tlt (cmp : α → α → Int) (p q : α × Nat) : Prop := cmp p.1 q.1 < 0 ∨ (0 ≤ cmp q.1 p.1 ∧ p.2 < q.2)
instance (cmp : α → α → Int) (p q : α × Nat) : Decidable (tlt cmp p q) := by unfold tlt; infer_instance
theorem tlt_irrefl {cmp : α → α → Int} (h : Pre cmp) (p : α × Nat) : ¬ tlt cmp p p := fun hh => by
  rcases hh with h1 | ⟨_, h1⟩
  · have := h.asym _ _ h1; omega
  · omega
theorem tlt_trans {cmp : α → α → Int} (h : Pre cmp) {p q r : α × Nat} (h1 : tlt cmp p q) (h2 : tlt cmp q r) : tlt cmp p r := by
  have le1 : 0 ≤ cmp q.1 p.1 := by rcases h1 with h1 | h1; exact h.asym _ _ h1; exact h1.1
  have le2 : 0 ≤ cmp r.1 q.1 := by rcases h2 with h2 | h2; exact h.asym _ _ h2; exact h2.1
  have le3 := h.trans _ _ _ le1 le2
  by_cases hc : cmp p.1 r.1 < 0
  · exact .inl hc
  · refine .inr ⟨le3, ?_⟩
    have hle : 0 ≤ cmp p.1 r.1 := by omega
    rcases h1 with h1 | ⟨_, h1⟩
    · have := h.trans _ _ _ le2 hle; omega
    · rcases h2 with h2 | ⟨_, h2⟩
      · have := h.trans _ _ _ hle le1; omega
      · omega
theorem tlt_total {cmp : α → α → Int} {p q : α × Nat} (hne : p.2 ≠ q.2) (hn : ¬ tlt cmp p q) : tlt cmp q p := by
  unfold tlt at *
  by_cases h1 : cmp q.1 p.1 < 0
  · exact .inl h1
  · refine .inr ⟨?_, ?_⟩
    · by_cases h2 : cmp p.1 q.1 < 0
      · exact absurd (.inl h2) hn
      · omega
    · by_cases h2 : p.2 < q.2
      · exact absurd (.inr ⟨by omega, h2⟩) hn
      · omega
/-- Two lists in order of the same elements are the same. -/
theorem sorted_unique {cmp : α → α → Int} (h : Pre cmp) : ∀ {l r : List (α × Nat)}, l.Perm r → l.Pairwise (tlt cmp) → r.Pairwise (tlt cmp) → l = r
  | [], r, hp, _, _ => (List.nil_perm.1 hp).symm
  | x :: l, r, hp, hl, hr => by
    rcases r with _ | ⟨y, r⟩
    · exact absurd hp.length_eq (by simp)
    · rw [List.pairwise_cons] at hl hr
      have hxy : x = y := by
        have hx : x ∈ y :: r := hp.subset List.mem_cons_self
        have hy : y ∈ x :: l := hp.symm.subset List.mem_cons_self
        rcases List.mem_cons.1 hx with h1 | h1
        · exact h1
        · rcases List.mem_cons.1 hy with h2 | h2
          · exact h2.symm
          · exact absurd (tlt_trans h (hl.1 y h2) (hr.1 x h1)) (tlt_irrefl h x)
      subst hxy
      rw [sorted_unique h ((List.perm_cons x).1 hp) hl.2 hr.2]
def tle (cmp : α → α → Int) (p q : α × Nat) : Bool := decide (¬ tlt cmp q p)
/-- The elements from a to b, in order. -/
def sortSeg (cmp : α → α → Int) (l : List (α × Nat)) (a b : Nat) : List (α × Nat) := l.take a ++ (((l.drop a).take (b - a)).mergeSort (tle cmp) ++ l.drop b)
def TagsOk (l : List (α × Nat)) : Prop := (l.map Prod.snd).Nodup
theorem mergeSort_tlt {cmp : α → α → Int} (h : Pre cmp) {l : List (α × Nat)} (ht : TagsOk l) : (l.mergeSort (tle cmp)).Pairwise (tlt cmp) := by
  have hp := List.mergeSort_perm l (tle cmp)
  have h1 : (l.mergeSort (tle cmp)).Pairwise (fun p q => tle cmp p q = true) := List.pairwise_mergeSort (le := tle cmp) (fun a b c hab hbc => by
      unfold tle at *
      simp only [decide_eq_true_eq] at *
      intro hca
      by_cases e : a.2 = b.2
      · by_cases e2 : b.2 = c.2
        · unfold tlt at *
          rcases hca with h5 | ⟨_, h5⟩
          · have x1 : 0 ≤ cmp b.1 a.1 := by
              by_cases hh : cmp b.1 a.1 < 0
              · exact absurd (.inl hh) hab
              · omega
            have x2 : 0 ≤ cmp c.1 b.1 := by
              by_cases hh : cmp c.1 b.1 < 0
              · exact absurd (.inl hh) hbc
              · omega
            have := h.trans _ _ _ x1 x2; omega
          · omega
        · have := tlt_total (cmp := cmp) (Ne.symm e2) hbc
          exact hab (tlt_trans h this hca)
      · have := tlt_total (cmp := cmp) (Ne.symm e) hab
        exact hbc (tlt_trans h hca this)) (fun a b => by
      unfold tle
      by_cases hba : tlt cmp b a
      · have : ¬ tlt cmp a b := fun hab => tlt_irrefl h a (tlt_trans h hab hba)
        simp [this]
      · simp [hba]) l
  have h2 : ((l.mergeSort (tle cmp)).map Prod.snd).Nodup := (hp.map Prod.snd).nodup_iff.2 ht
  rw [List.Nodup, List.pairwise_map] at h2
  refine (h1.and h2).imp fun {p q} ⟨h3, h4⟩ => ?_
  unfold tle at h3
  exact tlt_total (Ne.symm h4) (of_decide_eq_true h3)


end Go.Proofs.Ytpihcfpdaoflbaa
