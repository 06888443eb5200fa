/- Walks over abstract values. Printed by tools/gen.py. No statement of the seat. -/
import Derived.Test.YtieccphckobhjaaDoorE2
import Derived.Test.YtieccphckobhjaaDoorA21
namespace Go.Proofs.YtieccphckobhjaaDoor
open Go.RowKit
set_option linter.unusedVariables false

/-! Types. -/
namespace TyE3
theorem ag_26 : AggT Tryd.prog 26 3 := .of (by kernel_rfl)
theorem ag_28 : AggT Tryd.prog 28 6 := .of (by kernel_rfl)
theorem ag_77 : AggT Tryd.prog 77 7 := .of (by kernel_rfl)
theorem bu_46 : StructT Tryd.prog 46 (fun i => (#[(0, 1), (1, 1), (2, 1)] : Array (Nat × Nat))[i]?) [(.int .i64 0), (.string ⟨#[]⟩), (.string ⟨#[]⟩)] := .of (by kernel_rfl) (by kernel_rfl) (by decide)
theorem et_24 : ElemTy Tryd.prog 24 77 7 96 (.agg #[(.string ⟨#[]⟩), (.string ⟨#[]⟩), (.string ⟨#[]⟩), (.int .i64 0), (.int .i64 0), (.int .i64 0), (.slice none 0 0)]) := ⟨by kernel_rfl, by kernel_rfl, by kernel_rfl, by decide⟩
theorem et_41 : ElemTy Tryd.prog 41 46 3 40 (.agg #[(.int .i64 0), (.string ⟨#[]⟩), (.string ⟨#[]⟩)]) := ⟨by kernel_rfl, by kernel_rfl, by kernel_rfl, by decide⟩
theorem et_75 : ElemTy Tryd.prog 75 3 1 8 (.int .i64 0) := ⟨by kernel_rfl, by kernel_rfl, by kernel_rfl, by decide⟩
theorem fo_26_2 : fieldOff Tryd.prog 26 2 = some 2 := by kernel_rfl
theorem fo_28_3 : fieldOff Tryd.prog 28 3 = some 3 := by kernel_rfl
theorem fo_77_0 : fieldOff Tryd.prog 77 0 = some 0 := by kernel_rfl
theorem fo_77_1 : fieldOff Tryd.prog 77 1 = some 1 := by kernel_rfl
theorem fo_77_4 : fieldOff Tryd.prog 77 4 = some 4 := by kernel_rfl
theorem sc_24 : Scal Tryd.prog 24 := .of (by kernel_rfl)
theorem sc_3 : Scal Tryd.prog 3 := .of (by kernel_rfl)
theorem sc_9 : Scal Tryd.prog 9 := .of (by kernel_rfl)
theorem sz_3 : ∀ w, (sizeOf 3).run Tryd.prog w = .ok 1 w := SizeT.of (by kernel_rfl)
theorem sz_77 : ∀ w, (sizeOf 77).run Tryd.prog w = .ok 7 w := SizeT.of (by kernel_rfl)
theorem zt_77 : (Tryd.prog.info? 77).bind (·.zero) = some (.agg #[(.string ⟨#[]⟩), (.string ⟨#[]⟩), (.string ⟨#[]⟩), (.int .i64 0), (.int .i64 0), (.int .i64 0), (.slice none 0 0)]) := by kernel_rfl
end TyE3
open TyE3


theorem take_snoc_map {α β : Type} (f : α → β) {l : List α} {k : Nat} (hk : k < l.length) : (l.take (k + 1)).map f = (l.take k).map f ++ [f l[k]] := by rw [List.take_add_one, List.getElem?_eq_getElem hk, Option.toList_some, List.map_append]; rfl
theorem at_opt {α : Type} {l : List α} {f : α → List D} {k : Nat} {x : α} (h : l[k]? = some x) : (l.map f)[k]? = some (f x) := by simp [h]
theorem rows_both {i1 e1 s1 i2 e2 s2 : Nat} {a1 b1 a2 b2 : List (List D)} {τ : Obs} (h1 : a1 = b1) (h2 : a2 = b2) : ∀ p ∈ [(i1, Ob.row e1 s1 b1), (i2, Ob.row e2 s2 b2)], p ∈ (i1, Ob.row e1 s1 a1) :: (i2, Ob.row e2 s2 a2) :: τ := fun p hp => by
  subst h1; subst h2
  rcases List.mem_cons.1 hp with rfl | hp
  · exact .head _
  · rw [List.mem_singleton] at hp; subst hp; exact .tail _ (.head _)
section
variable (frm every to : Int)
def nextOf (l : List Cpy) (ns : List Nat) : List Int := List.zipWith (fun c n => dayD frm every c n) l ns
structure Sel (l : List Cpy) (ns : List Nat) (o : List (Tsk × Nat)) : Prop where
  len : ns.length = l.length
  le : ∀ (i : Nat) (c : Cpy) (n : Nat), l[i]? = some c → ns[i]? = some n → n ≤ cntD frm every to c
  mem : ∀ x, x ∈ o ↔ ∃ (i : Nat) (c : Cpy) (n k : Nat), l[i]? = some c ∧ ns[i]? = some n ∧ k < n ∧ x = elD frm every c i k
  sorted : o.Pairwise (tlt cmpT)
  below : ∀ x, x ∈ o → ∀ (i : Nat) (c : Cpy) (n k : Nat), l[i]? = some c → ns[i]? = some n → n ≤ k → k < cntD frm every to c → tlt cmpT x (elD frm every c i k)
  count : o.length = ns.sum
/-- The best one so far. -/
def BestR (L : List Int) (i : Nat) (b : Int) : Prop := (b = -1 ∧ ∀ j y, j < i → L[j]? = some y → ¬ y < to) ∨ ∃ n x, b = ((n : Nat) : Int) ∧ n < i ∧ L[n]? = some x ∧ x < to ∧ ∀ j y, j < i → L[j]? = some y → y < to → x < y ∨ (x = y ∧ n ≤ j)
end
variable {frm every to : Int}
theorem BestR.start (L : List Int) : BestR to L 0 (-1) := .inl ⟨rfl, fun _ _ h => by omega⟩
theorem BestR.skip {L : List Int} {i : Nat} {b x : Int} (h : BestR to L i b) (hx : L[i]? = some x) (hn : ¬ x < to) : BestR to L (i + 1) b := by
  rcases h with ⟨h1, h2⟩ | ⟨n, z, h1, h2, h3, h4, h5⟩
  · refine .inl ⟨h1, fun j y hj hy => ?_⟩
    by_cases e : j = i
    · subst e; rw [hx] at hy; cases hy; exact hn
    · exact h2 j y (by omega) hy
  · refine .inr ⟨n, z, h1, by omega, h3, h4, fun j y hj hy hyt => ?_⟩
    by_cases e : j = i
    · subst e; rw [hx] at hy; cases hy; exact absurd hyt hn
    · exact h5 j y (by omega) hy hyt
theorem BestR.first {L : List Int} {i : Nat} {b x : Int} (h : BestR to L i b) (hx : L[i]? = some x) (ht : x < to) (hb : b < 0) : BestR to L (i + 1) i := by
  rcases h with ⟨h1, h2⟩ | ⟨n, z, h1, h2, h3, h4, h5⟩
  · refine .inr ⟨i, x, rfl, by omega, hx, ht, fun j y hj hy hyt => ?_⟩
    by_cases e : j = i
    · subst e; rw [hx] at hy; cases hy; exact .inr ⟨rfl, Nat.le_refl _⟩
    · exact absurd hyt (h2 j y (by omega) hy)
  · omega
theorem BestR.better {L : List Int} {i n : Nat} {b x z : Int} (h : BestR to L i b) (hx : L[i]? = some x) (ht : x < to) (hb : b = (n : Int)) (hz : L[n]? = some z) (hlt : x < z) : BestR to L (i + 1) i := by
  rcases h with ⟨h1, h2⟩ | ⟨n', z', h1, h2, h3, h4, h5⟩
  · omega
  · have : n' = n := by omega
    subst this
    rw [hz] at h3; cases h3
    refine .inr ⟨i, x, rfl, by omega, hx, ht, fun j y hj hy hyt => ?_⟩
    by_cases e : j = i
    · subst e; rw [hx] at hy; cases hy; exact .inr ⟨rfl, Nat.le_refl _⟩
    · rcases h5 j y (by omega) hy hyt with h6 | h6 <;> exact .inl (by omega)
theorem BestR.worse {L : List Int} {i n : Nat} {b x z : Int} (h : BestR to L i b) (hx : L[i]? = some x) (hb : b = (n : Int)) (hz : L[n]? = some z) (hlt : ¬ x < z) : BestR to L (i + 1) b := by
  rcases h with ⟨h1, h2⟩ | ⟨n', z', h1, h2, h3, h4, h5⟩
  · omega
  · have : n' = n := by omega
    subst this
    rw [hz] at h3; cases h3
    refine .inr ⟨n', z, h1, by omega, hz, h4, fun j y hj hy hyt => ?_⟩
    by_cases e : j = i
    · subst e; rw [hx] at hy; cases hy
      by_cases e2 : z = x
      · exact .inr ⟨e2, by omega⟩
      · exact .inl (by omega)
    · exact h5 j y (by omega) hy hyt
theorem BestR.idx {L : List Int} {i : Nat} {b : Int} (h : BestR to L i b) (hb : ¬ b < 0) : ∃ n z, b = ((n : Nat) : Int) ∧ n < i ∧ L[n]? = some z ∧ n < L.length := by
  rcases h with ⟨h1, h2⟩ | ⟨n, z, h1, h2, h3, h4, h5⟩
  · omega
  · exact ⟨n, z, h1, h2, h3, (List.getElem?_eq_some_iff.1 h3).1⟩
theorem nextOf_at {l : List Cpy} {ns : List Nat} {i : Nat} {c : Cpy} {n : Nat} (h1 : l[i]? = some c) (h2 : ns[i]? = some n) : (nextOf frm every l ns)[i]? = some (dayD frm every c n) := by
  unfold nextOf; rw [List.getElem?_zipWith, h1, h2]
theorem nextOf_inv {l : List Cpy} {ns : List Nat} {i : Nat} {x : Int} (h : (nextOf frm every l ns)[i]? = some x) : ∃ c n, l[i]? = some c ∧ ns[i]? = some n ∧ x = dayD frm every c n := by
  unfold nextOf at h
  rw [List.getElem?_zipWith] at h
  cases h1 : l[i]? with
  | none => rw [h1] at h; simp at h
  | some c =>
    cases h2 : ns[i]? with
    | none => rw [h1, h2] at h; simp at h
    | some n => rw [h1, h2] at h; exact ⟨c, n, rfl, rfl, (Option.some.inj h).symm⟩
theorem nextOf_len {l : List Cpy} {ns : List Nat} (h : ns.length = l.length) : (nextOf frm every l ns).length = l.length := by unfold nextOf; rw [List.length_zipWith]; omega
theorem nextOf_set {l : List Cpy} {ns : List Nat} {b : Nat} {c : Cpy} (hb : l[b]? = some c) (hl : ns.length = l.length) (m : Nat) : nextOf frm every l (ns.set b m) = (nextOf frm every l ns).set b (dayD frm every c m) := by
  apply List.ext_getElem?
  intro i
  have hbl : b < l.length := (List.getElem?_eq_some_iff.1 hb).1
  rw [List.getElem?_set, nextOf_len hl]
  unfold nextOf
  rw [List.getElem?_zipWith, List.getElem?_zipWith, List.getElem?_set]
  by_cases e : b = i
  · subst e; rw [if_pos rfl, if_pos (by omega), hb, if_pos rfl, if_pos hbl]
  · rw [if_neg e, if_neg e]
theorem nextOf_zero (l : List Cpy) : nextOf frm every l (List.replicate l.length 0) = l.map (fstD frm every) := by
  apply List.ext_getElem?
  intro i
  unfold nextOf
  rw [List.getElem?_zipWith, List.getElem?_replicate, List.getElem?_map]
  cases h : l[i]? with
  | none => rfl
  | some c =>
    rw [if_pos (List.getElem?_eq_some_iff.1 h).1]
    simp [dayD]
theorem Sel.start (l : List Cpy) : Sel frm every to l (List.replicate l.length 0) [] := by
  refine ⟨by simp, fun i c n _ hn => ?_, fun x => ⟨fun h => (nomatch h), ?_⟩, .nil, fun x h => (nomatch h), by simp⟩
  · rw [List.getElem?_replicate] at hn
    split at hn
    · cases hn; exact Nat.zero_le _
    · cases hn
  · rintro ⟨i, c, n, k, _, hn, hk, _⟩
    rw [List.getElem?_replicate] at hn
    split at hn
    · cases hn; omega
    · cases hn
theorem sum_set_one : ∀ {l : List Nat} {b n : Nat}, l[b]? = some n → (l.set b (n + 1)).sum = l.sum + 1
  | [], _, _, h => by simp at h
  | x :: l, 0, n, h => by simp at h; subst h; simp; omega
  | x :: l, b + 1, n, h => by
    have := sum_set_one (l := l) (b := b) (n := n) (by simpa using h)
    simp only [List.set_cons_succ, List.sum_cons, this]
    omega
theorem sums_lt : ∀ {l : List Cpy} {ns : List Nat}, ns.length = l.length → (∀ (i : Nat) (c : Cpy) (n : Nat), l[i]? = some c → ns[i]? = some n → n ≤ cntD frm every to c) →
    ns.sum ≤ (l.map (cntD frm every to)).sum ∧ (ns.sum = (l.map (cntD frm every to)).sum → ∀ (i : Nat) (c : Cpy) (n : Nat), l[i]? = some c → ns[i]? = some n → n = cntD frm every to c)
  | [], [], _, _ => ⟨by simp, fun _ i c n h => by simp at h⟩
  | c :: l, n :: ns, hl, h => by
    have h0 := h 0 c n rfl rfl
    obtain ⟨h1, h2⟩ := sums_lt (l := l) (ns := ns) (by simpa using hl) (fun i => h (i + 1))
    simp only [List.map_cons, List.sum_cons]
    refine ⟨by omega, fun he i c' n' hc hn => ?_⟩
    cases i with
    | zero => simp at hc hn; subst hc; subst hn; omega
    | succ i => exact h2 (by omega) i c' n' (by simpa using hc) (by simpa using hn)
  | [], _ :: _, hl, _ => by simp at hl
  | _ :: _, [], hl, _ => by simp at hl
theorem many_sum (l : List Cpy) : manyTo frm every to l l.length = (l.map (cntD frm every to)).sum := by unfold manyTo; rw [List.take_length]
/-- As long as not all were taken, one is found. -/
theorem Sel.found (he : 1 ≤ every) {l : List Cpy} {ns : List Nat} {o : List (Tsk × Nat)} {b : Int} (h : Sel frm every to l ns o) (ho : o.length < manyTo frm every to l l.length) (hb : BestR to (nextOf frm every l ns) l.length b) :
    ∃ i c n, b = ((i : Nat) : Int) ∧ l[i]? = some c ∧ ns[i]? = some n ∧ n < cntD frm every to c ∧ ∀ (j : Nat) (c' : Cpy) (n' : Nat), l[j]? = some c' → ns[j]? = some n' → n' < cntD frm every to c' → dayD frm every c n < dayD frm every c' n' ∨ (dayD frm every c n = dayD frm every c' n' ∧ i ≤ j) := by
  rcases hb with ⟨_, h2⟩ | ⟨i, x, h1, h2, h3, h4, h5⟩
  · exfalso
    obtain ⟨h3, h4⟩ := sums_lt h.len h.le
    have h5 : ns.sum = (l.map (cntD frm every to)).sum := by
      refine Nat.le_antisymm h3 ?_
      clear h4 h3 ho
      have hle : ∀ (i : Nat) (c : Cpy) (n : Nat), l[i]? = some c → ns[i]? = some n → cntD frm every to c ≤ n := fun i c n hc hn => by
        refine Nat.le_of_not_lt fun hh => ?_
        exact h2 i _ (List.getElem?_eq_some_iff.1 hc).1 (nextOf_at hc hn) ((cnt_iff he c n).2 hh)
      have hl := h.len
      clear h h2
      induction l generalizing ns with
      | nil => simp
      | cons c l ih =>
        cases ns with
        | nil => simp at hl
        | cons n ns =>
          have h0 := hle 0 c n rfl rfl
          have := ih (ns := ns) (fun i => hle (i + 1)) (by simpa using hl)
          simp only [List.map_cons, List.sum_cons]
          omega
    rw [many_sum, ← h5, h.count] at ho
    omega
  · obtain ⟨c, n, hc, hn, rfl⟩ := nextOf_inv h3
    refine ⟨i, c, n, h1, hc, hn, (cnt_iff he c n).1 h4, fun j c' n' hc' hn' hlt => ?_⟩
    exact h5 j _ (List.getElem?_eq_some_iff.1 hc').1 (nextOf_at hc' hn') ((cnt_iff he c' n').2 hlt)
theorem tlt_day {p q : Tsk × Nat} (h : p.1.day < q.1.day) : tlt cmpT p q := .inl (by unfold cmpT; rw [if_pos h]; decide)
theorem tlt_tag {p q : Tsk × Nat} (h : p.1.day = q.1.day) (h2 : p.2 < q.2) : tlt cmpT p q := .inr ⟨by unfold cmpT; rw [if_neg (by omega), if_neg (by omega)]; decide, h2⟩
theorem Sel.step (he : 1 ≤ every) {l : List Cpy} {ns : List Nat} {o : List (Tsk × Nat)} {b n : Nat} {c : Cpy} (h : Sel frm every to l ns o) (hc : l[b]? = some c) (hn : ns[b]? = some n) (hlt : n < cntD frm every to c)
    (hmin : ∀ (j : Nat) (c' : Cpy) (n' : Nat), l[j]? = some c' → ns[j]? = some n' → n' < cntD frm every to c' → dayD frm every c n < dayD frm every c' n' ∨ (dayD frm every c n = dayD frm every c' n' ∧ b ≤ j)) : Sel frm every to l (ns.set b (n + 1)) (o ++ [elD frm every c b n]) := by
  have hbl : b < ns.length := (List.getElem?_eq_some_iff.1 hn).1
  have hset : ∀ {i m : Nat}, (ns.set b (n + 1))[i]? = some m → (i = b ∧ m = n + 1) ∨ (i ≠ b ∧ ns[i]? = some m) := fun {i m} hh => by
    rw [List.getElem?_set] at hh
    by_cases e : b = i
    · rw [if_pos e, if_pos (by omega)] at hh
      exact .inl ⟨e.symm, (Option.some.inj hh).symm⟩
    · rw [if_neg e] at hh
      exact .inr ⟨Ne.symm e, hh⟩
  have hset2 : (ns.set b (n + 1))[b]? = some (n + 1) := by rw [List.getElem?_set, if_pos rfl, if_pos hbl]
  have hset3 : ∀ {i m : Nat}, i ≠ b → ns[i]? = some m → (ns.set b (n + 1))[i]? = some m := fun {i m} hne hh => by rw [List.getElem?_set, if_neg (Ne.symm hne)]; exact hh
  refine ⟨by rw [List.length_set]; exact h.len, fun i c' m hc' hm => ?_, fun x => ?_, ?_, fun x hx i c' m k hc' hm hmk hk => ?_, by rw [List.length_append, sum_set_one hn, h.count]; rfl⟩
  · rcases hset hm with ⟨rfl, rfl⟩ | ⟨hne, hm⟩
    · rw [hc] at hc'; cases hc'; exact hlt
    · exact h.le i c' m hc' hm
  · rw [List.mem_append, List.mem_singleton]
    constructor
    · rintro (hx | rfl)
      · obtain ⟨i, c', m, k, h1, h2, h3, h4⟩ := (h.mem x).1 hx
        by_cases e : i = b
        · subst e
          rw [hn] at h2; cases h2
          exact ⟨i, c', n + 1, k, h1, hset2, by omega, h4⟩
        · exact ⟨i, c', m, k, h1, hset3 e h2, h3, h4⟩
      · exact ⟨b, c, n + 1, n, hc, hset2, by omega, rfl⟩
    · rintro ⟨i, c', m, k, h1, h2, h3, rfl⟩
      rcases hset h2 with ⟨rfl, rfl⟩ | ⟨hne, h2⟩
      · rw [hc] at h1; cases h1
        by_cases e : k = n
        · subst e; exact .inr rfl
        · exact .inl ((h.mem _).2 ⟨i, c, n, k, hc, hn, by omega, rfl⟩)
      · exact .inl ((h.mem _).2 ⟨i, c', m, k, h1, h2, h3, rfl⟩)
  · rw [List.pairwise_append]
    refine ⟨h.sorted, List.pairwise_singleton _ _, fun x hx y hy => ?_⟩
    rw [List.mem_singleton] at hy
    subst hy
    exact h.below x hx b c n n hc hn (Nat.le_refl _) hlt
  · rw [List.mem_append, List.mem_singleton] at hx
    rcases hset hm with ⟨rfl, rfl⟩ | ⟨hne, hm⟩
    · rw [hc] at hc'; cases hc'
      rcases hx with hx | rfl
      · exact h.below x hx i c n k hc hn (by omega) hk
      · exact tlt_day (day_lt he (by omega))
    · rcases hx with hx | rfl
      · exact h.below x hx i c' m k hc' hm hmk hk
      · have h1 := hmin i c' m hc' hm (by omega)
        by_cases e : m = k
        · subst e
          rcases h1 with h1 | ⟨h1, h2⟩
          · exact tlt_day h1
          · refine tlt_tag h1 ?_
            unfold elD
            dsimp only
            omega
        · have h2 := day_lt (frm := frm) (c := c') he (show m < k by omega)
          refine tlt_day ?_
          unfold elD
          dsimp only
          rcases h1 with h1 | ⟨h1, _⟩ <;> omega
theorem Sel.done {v : Vlt} {p : Pol} {ns : List Nat} {o : List (Tsk × Nat)} (he : 1 ≤ p.every) (hf : 0 ≤ frm) (ht : to ≤ 200001) (h : Sel frm p.every to v.copies ns o) (ho : o.length = manyTo frm p.every to v.copies v.copies.length) : o = dueL v p frm to := by
  have hinc := tag_incr he hf ht (l := v.copies) v.copies.length
  have hfull : ∀ (i : Nat) (c : Cpy) (n : Nat), v.copies[i]? = some c → ns[i]? = some n → n = cntD frm p.every to c := (sums_lt h.len h.le).2 (by rw [← many_sum, ← ho, h.count])
  have hnd1 : o.Nodup := h.sorted.imp fun {a b} hab he => by subst he; exact tlt_irrefl pre_cmpT a hab
  have hnd2 : (dueAll v p frm to).Nodup := hinc.imp fun {a b} hab he => by subst he; omega
  have hperm : o.Perm (dueAll v p frm to) := (List.perm_ext_iff_of_nodup hnd1 hnd2).2 fun x => by
    rw [h.mem]
    unfold dueAll
    rw [mem_tagTo]
    constructor
    · rintro ⟨i, c, n, k, h1, h2, h3, h4⟩
      exact ⟨i, c, k, (List.getElem?_eq_some_iff.1 h1).1, h1, by have := h.le i c n h1 h2; omega, h4⟩
    · rintro ⟨i, c, k, hi, h1, h2, h3⟩
      have hl := h.len
      have hni : ns[i]? = some (ns[i]'(by omega)) := List.getElem?_eq_getElem (by omega)
      exact ⟨i, c, _, k, h1, hni, by rw [hfull i c _ h1 hni]; exact h2, h3⟩
  refine sortSeg_eq pre_cmpT (Nat.zero_le _) (tags_of hinc) hperm (fun q hq => ?_) (fun i j x y _ hij _ hx hy => ?_)
  · rw [List.getElem?_eq_none (by rw [hperm.length_eq]; omega), List.getElem?_eq_none (by omega)]
  · obtain ⟨h1, e1⟩ := List.getElem?_eq_some_iff.1 hx
    obtain ⟨h2, e2⟩ := List.getElem?_eq_some_iff.1 hy
    rw [← e1, ← e2]
    exact List.pairwise_iff_getElem.1 h.sorted i j h1 h2 hij


set_option maxRecDepth 100000 in
set_option maxHeartbeats 1000000 in
theorem c_rDue (v : Vlt) (p : Pol) (frm to : Int) (hs : smallV v) : ACall Tryd.prog 18 [.agg v.ds, .agg p.ds, .v (.int .i64 frm), .v (.int .i64 to)] (.tup [.sl ((dueR v p frm to).map Tsk.ds), .v (.int .i64 (dueFault v p frm to))]) := by
  refine acall_of (n := 131) (ds' := [.sl ((dueR v p frm to).map Tsk.ds), .v (.int .i64 (dueFault v p frm to))]) Tryd.func18 rfl (by kernel_rfl) rfl [8, 9] rfl rfl ?_
  intro B w0 F0 fr
  refine AWP.seq ?_
  refine AWP.region ?_
  refine AOps.step rfl rfl rfl (AOp.box rfl rfl rfl) ?_
  refine AOps.step rfl rfl rfl (AOp.box rfl rfl rfl) ?_
  refine AOps.step rfl rfl rfl (AOp.assignD rfl rfl) ?_
  refine AOps.step rfl rfl rfl (AOp.assignD rfl rfl) ?_
  refine AOps.nil ?_
  refine AWP.seq ?_
  refine AWP.seq ?_
  refine AWP.region ?_
  refine AOps.step rfl rfl rfl (AOp.loadAgg rfl ag_26 rfl rfl) ?_
  refine AOps.step rfl rfl rfl (AOp.call rfl (.cons (ArgOk.rfl' rfl) .nil) (c_rCheck v hs)) ?_
  refine AOps.step rfl rfl rfl (AOp.assignD rfl rfl) ?_
  refine AOps.nil ?_
  refine AWP.seq ?_
  refine AWP.region ?_
  refine AOps.step rfl rfl rfl (AOp.moveD rfl rfl) ?_
  refine AOps.step rfl rfl rfl (AOp.neq rfl rfl rfl) ?_
  refine AOps.nil ?_
  refine AWP.cond rfl (fun h1 => ?_) (fun h1 => ?_)
  · replace h1 := of_decide_eq_true h1
    have HB := both_v (p := p) h1
    have HF : dueFault v p frm to = checkV v := by unfold dueFault; rw [HB, if_pos h1]
    have HR : dueR v p frm to = [] := by unfold dueR; rw [HF, if_neg h1]
    rw [HR, HF]
    refine AWP.seq ?_
    refine AWP.region ?_
    refine AOps.step rfl rfl rfl (AOp.moveD rfl rfl) ?_
    refine AOps.step rfl rfl rfl (AOp.assignD rfl rfl) ?_
    refine AOps.step rfl rfl rfl (AOp.assignD rfl rfl) ?_
    refine AOps.nil ?_
    refine AWP.ret ?_
    refine ⟨RetD.nil rfl, RetD.eq rfl ?_, trivial⟩
    all_goals (rfl)
  · replace h1 := of_decide_eq_false h1
    have HB := both_p (p := p) (Decidable.not_not.1 h1)
    refine AWP.skip ?_
    refine AWP.seq ?_
    refine AWP.seq ?_
    refine AWP.region ?_
    refine AOps.step rfl rfl rfl (AOp.loadAgg rfl ag_28 rfl rfl) ?_
    refine AOps.step rfl rfl rfl (AOp.call rfl (.cons (ArgOk.rfl' rfl) .nil) (c_rPol p)) ?_
    refine AOps.step rfl rfl rfl (AOp.assignD rfl rfl) ?_
    refine AOps.nil ?_
    refine AWP.seq ?_
    refine AWP.region ?_
    refine AOps.step rfl rfl rfl (AOp.moveD rfl rfl) ?_
    refine AOps.step rfl rfl rfl (AOp.neq rfl rfl rfl) ?_
    refine AOps.nil ?_
    refine AWP.cond rfl (fun h2 => ?_) (fun h2 => ?_)
    · replace h2 := of_decide_eq_true h2
      have HF : dueFault v p frm to = polFault p := by unfold dueFault; rw [HB, if_pos h2]
      have HR : dueR v p frm to = [] := by unfold dueR; rw [HF, if_neg h2]
      rw [HR, HF]
      refine AWP.seq ?_
      refine AWP.region ?_
      refine AOps.step rfl rfl rfl (AOp.moveD rfl rfl) ?_
      refine AOps.step rfl rfl rfl (AOp.assignD rfl rfl) ?_
      refine AOps.step rfl rfl rfl (AOp.assignD rfl rfl) ?_
      refine AOps.nil ?_
      refine AWP.ret ?_
      refine ⟨RetD.nil rfl, RetD.eq rfl ?_, trivial⟩
      all_goals (rfl)
    · replace h2 := of_decide_eq_false h2
      have hb0 : bothFault v p = 0 := HB.trans (Decidable.not_not.1 h2)
      obtain ⟨vo, po⟩ := both_ok hb0
      have he := po.every
      have hnp := vo.np
      refine AWP.skip ?_
      refine AWP.seq ?_
      refine AWP.seq ?_
      refine AWP.region ?_
      refine AOps.step rfl rfl rfl (AOp.moveD rfl rfl) ?_
      refine AOps.step rfl rfl rfl (AOp.moveD rfl rfl) ?_
      refine AOps.step rfl rfl rfl (AOp.call rfl (.cons (ArgOk.rfl' rfl) (.cons (ArgOk.rfl' rfl) .nil)) (c_span _ _)) ?_
      refine AOps.step rfl rfl rfl (AOp.assignD rfl rfl) ?_
      refine AOps.nil ?_
      refine AWP.seq ?_
      refine AWP.region ?_
      refine AOps.step rfl rfl rfl (AOp.moveD rfl rfl) ?_
      refine AOps.step rfl rfl rfl (AOp.neq rfl rfl rfl) ?_
      refine AOps.nil ?_
      refine AWP.cond rfl (fun h3 => ?_) (fun h3 => ?_)
      · replace h3 := of_decide_eq_true h3
        have HS : spanFault frm to = 1 := by unfold spanFault at h3 ⊢; split at h3 <;> simp_all
        have HF : dueFault v p frm to = 1 := by unfold dueFault; rw [if_neg (by rw [hb0]; decide), HS]; rfl
        have HR : dueR v p frm to = [] := by unfold dueR; rw [HF]; rfl
        rw [HR, HF, HS]
        refine AWP.seq ?_
        refine AWP.region ?_
        refine AOps.step rfl rfl rfl (AOp.moveD rfl rfl) ?_
        refine AOps.step rfl rfl rfl (AOp.assignD rfl rfl) ?_
        refine AOps.step rfl rfl rfl (AOp.assignD rfl rfl) ?_
        refine AOps.nil ?_
        refine AWP.ret ?_
        refine ⟨RetD.nil rfl, RetD.eq rfl ?_, trivial⟩
        all_goals (rfl)
      · replace h3 := of_decide_eq_false h3
        have HS := Decidable.not_not.1 h3
        have hsp : (0 ≤ frm ∧ frm ≤ 200000) ∧ (frm ≤ to ∧ to ≤ 200001) := by unfold spanFault at HS; split at HS; cases HS; omega
        have hMB := fun {k : Nat} => manyTo_bound he.1 hsp.1.1 hsp.2.2 (l := v.copies) (k := k)
        refine AWP.skip ?_
        refine AWP.seq ?_
        refine AWP.region ?_
        refine AOps.step rfl rfl rfl (AOp.assignD rfl rfl) ?_
        refine AOps.nil ?_
        refine AWP.seq ?_
        refine AWP.region ?_
        refine AOps.step rfl rfl rfl (AOp.assignD rfl rfl) ?_
        refine AOps.nil ?_
        refine AWP.seq ?_
        refine AWP.seq ?_
        refine AWP.region ?_
        refine AOps.step rfl rfl rfl (AOp.fieldAddr rfl fo_26_2 rfl) ?_
        refine AOps.step rfl rfl rfl (AOp.load rfl sc_24 rfl) ?_
        refine AOps.step rfl rfl rfl (AOp.lenSl rfl et_24.ht rfl) ?_
        refine AOps.step rfl rfl rfl (AOp.moveD rfl rfl) ?_
        refine AOps.nil ?_
        refine AWP.block ?_
        refine AWP.adopt 13 1 3 1 rfl rfl ?_
        refine AWP.loop (G := Nat) (fun k => Env.of [(41, .d (.v (.int .i64 (k : Int)))), (39, .d (.sl (v.copies.map Cpy.ds))), (40, .d (.v (.int .i64 ((v.copies.map Cpy.ds).length : Int)))), (14, .d (.v (.int .i64 ((manyTo frm p.every to v.copies k : Nat) : Int)))), (13, .own 1), (2, .d (.v (.int .i64 frm))), (3, .d (.v (.int .i64 to))), (4, .d (.fp v.ds)), (5, .d (.fp p.ds))]) (fun k => [(1, .row 3 1 (((v.copies.take k).map (fstD frm p.every)).map intD))]) (fun k => k ≤ v.copies.length) (fun k => v.copies.length - k) 0 (Nat.zero_le _) (Sub.less ⟨(SLe.of_eq rfl), SLe.refl _, SLe.refl _, (SLe.i64 rfl), SLe.refl _, SLe.refl _, SLe.refl _, SLe.refl _, SLe.refl _, trivial⟩ (row_same rfl)) ?_
        intro k hk
        refine AWP.seq ?_
        refine AWP.region ?_
        refine AOps.step rfl rfl rfl (AOp.lss rfl rfl rfl) ?_
        refine AOps.nil ?_
        refine AWP.seq ?_
        refine AWP.cond rfl (fun h4 => ?_) (fun h4 => ?_)
        · replace h4 := of_decide_eq_true h4
          rw [List.length_map] at h4
          have hlt : k < v.copies.length := by omega
          have hco := (vo.cpy _ (List.getElem_mem hlt))
          have hla := hco.last
          have hda := hco.day
          have hMk := hMB (k := k) (by omega)
          have hMs := manyTo_succ (frm := frm) (every := p.every) (to := to) hlt
          have hM1 := hMB (k := k + 1) (by omega)
          have hfd : fstD frm p.every v.copies[k] = max frm (v.copies[k].last + p.every) := rfl
          have hts : ((v.copies.take (k + 1)).map (fstD frm p.every)).map intD = ((v.copies.take k).map (fstD frm p.every)).map intD ++ [intD (fstD frm p.every v.copies[k])] := by rw [take_snoc_map _ hlt, List.map_append]; rfl
          refine AWP.skip ?_
          refine AWP.seq ?_
          refine AWP.block ?_
          refine AWP.seq ?_
          refine AWP.region ?_
          refine AOps.step rfl rfl rfl (AOp.indexAddr rfl et_24 rfl rfl k rfl (at_list hlt) rfl) ?_
          refine AOps.step rfl rfl rfl (AOp.loadAgg rfl ag_77 rfl rfl) ?_
          refine AOps.alloc 101 rfl rfl rfl rfl zt_77 rfl rfl rfl ?_
          refine AOps.store rfl rfl rfl sz_77 rfl (.head _) rfl rfl rfl (Nat.le_of_ble_eq_true rfl) ?_
          refine AOps.nil ?_
          refine AWP.seq ?_
          refine AWP.region ?_
          refine AOps.step rfl rfl rfl (AOp.moveD rfl rfl) ?_
          refine AOps.step rfl rfl rfl (AOp.fieldAddrP rfl fo_77_4 rfl) ?_
          refine AOps.step rfl rfl rfl (AOp.loadP rfl sc_3 rfl (.head _) rfl) ?_
          refine AOps.step rfl rfl rfl (AOp.fieldAddr rfl fo_28_3 rfl) ?_
          refine AOps.step rfl rfl rfl (AOp.load rfl sc_3 rfl) ?_
          refine AOps.step rfl rfl rfl (AOp.add64 rfl rfl rfl (by omega) (by omega)) ?_
          refine AOps.step rfl rfl rfl (AOp.max rfl rfl rfl) ?_
          refine AOps.step rfl rfl rfl (AOp.assignD rfl rfl) ?_
          refine AOps.nil ?_
          refine AWP.seq ?_
          refine AWP.region ?_
          refine AOps.step rfl rfl rfl (AOp.moveO rfl rfl) ?_
          refine AOps.step rfl rfl rfl (AOp.moveD rfl rfl) ?_
          refine AOps.step rfl rfl rfl (AOp.buildSlice rfl et_75 (.cons rfl rfl rfl .nil) rfl (by decide)) ?_
          -- append 55
          refine AOps.append rfl rfl rfl rfl et_75 rfl (.tail _ (.head _)) rfl (by simp [D.parts]) (by simp; omega) (by simp; omega) ?_
          refine AOps.step rfl rfl rfl (AOp.assignO rfl rfl) ?_
          refine AOps.nil ?_
          refine AWP.seq ?_
          refine AWP.region ?_
          refine AOps.step rfl rfl rfl (AOp.moveD rfl rfl) ?_
          refine AOps.step rfl rfl rfl (AOp.moveD rfl rfl) ?_
          refine AOps.step rfl rfl rfl (AOp.lss rfl rfl rfl) ?_
          refine AOps.nil ?_
          refine AWP.cond rfl (fun h5 => ?_) (fun h5 => ?_)
          · replace h5 := of_decide_eq_true h5
            rw [max_fst] at h5
            have hca := cnt_alt he.1 v.copies[k] h5
            rw [max_fst]
            refine AWP.region ?_
            refine AOps.step rfl rfl rfl (AOp.moveD rfl rfl) ?_
            refine AOps.step rfl rfl rfl (AOp.moveD rfl rfl) ?_
            refine AOps.step rfl rfl rfl (AOp.moveD rfl rfl) ?_
            refine AOps.step rfl rfl rfl (AOp.sub64 rfl rfl rfl (by omega) (by omega)) ?_
            refine AOps.step rfl rfl rfl (AOp.fieldAddr rfl fo_28_3 rfl) ?_
            refine AOps.step rfl rfl rfl (AOp.load rfl sc_3 rfl) ?_
            refine AOps.step rfl rfl rfl (AOp.add64 rfl rfl rfl (by omega) (by omega)) ?_
            refine AOps.step rfl rfl rfl (AOp.sub64 rfl rfl rfl (by omega) (by omega)) ?_
            refine AOps.step rfl rfl rfl (AOp.fieldAddr rfl fo_28_3 rfl) ?_
            refine AOps.step rfl rfl rfl (AOp.load rfl sc_3 rfl) ?_
            refine AOps.step rfl rfl rfl (AOp.quo64 rfl rfl rfl (by omega) (by omega) (by omega)) ?_
            refine AOps.step rfl rfl rfl (AOp.add64 rfl rfl rfl (by omega) (by omega)) ?_
            refine AOps.step rfl rfl rfl (AOp.assignD rfl rfl) ?_
            refine AOps.nil ?_
            refine AWP.region ?_
            refine AOps.step rfl rfl rfl (AOp.add64 rfl rfl rfl (by omega) (by omega)) ?_
            refine AOps.step rfl rfl rfl (AOp.moveD rfl rfl) ?_
            refine AOps.nil ?_
            refine ⟨k + 1, (by omega), (by dsimp only; omega), Sub.less ⟨(SLe.of_eq rfl), SLe.refl _, SLe.refl _, (SLe.i64 (by rw [hMs]; omega)), SLe.refl _, SLe.refl _, SLe.refl _, SLe.refl _, SLe.refl _, trivial⟩ (row_same2 (by rw [hts]; rfl))⟩
          · replace h5 := of_decide_eq_false h5
            rw [max_fst] at h5
            have hcn := cnt_none (every := p.every) v.copies[k] h5
            refine AWP.skip ?_
            refine AWP.region ?_
            refine AOps.step rfl rfl rfl (AOp.add64 rfl rfl rfl (by omega) (by omega)) ?_
            refine AOps.step rfl rfl rfl (AOp.moveD rfl rfl) ?_
            refine AOps.nil ?_
            refine ⟨k + 1, (by omega), (by dsimp only; omega), Sub.less ⟨(SLe.of_eq rfl), SLe.refl _, SLe.refl _, (SLe.i64 (by rw [hMs, hcn]; rfl)), SLe.refl _, SLe.refl _, SLe.refl _, SLe.refl _, SLe.refl _, trivial⟩ (row_same2 (by rw [hts]; rfl))⟩
        · replace h4 := of_decide_eq_false h4
          rw [List.length_map] at h4
          obtain rfl : k = v.copies.length := by omega
          refine AWP.exit ?_
          refine AWP.seq ?_
          refine AWP.seq ?_
          refine AWP.region ?_
          refine AOps.step rfl rfl rfl (AOp.moveD rfl rfl) ?_
          refine AOps.step rfl rfl rfl (AOp.gtr rfl rfl rfl) ?_
          refine AOps.nil ?_
          refine AWP.cond rfl (fun h6 => ?_) (fun h6 => ?_)
          · replace h6 := of_decide_eq_true h6
            have HF : dueFault v p frm to = 2 := by unfold dueFault; rw [if_neg (by rw [hb0]; decide), HS, if_neg (by decide), if_pos h6]
            have HR : dueR v p frm to = [] := by unfold dueR; rw [HF]; rfl
            rw [HR, HF]
            refine AWP.seq ?_
            refine AWP.region ?_
            refine AOps.step rfl rfl rfl (AOp.assignD rfl rfl) ?_
            refine AOps.step rfl rfl rfl (AOp.assignD rfl rfl) ?_
            refine AOps.nil ?_
            refine AWP.ret ?_
            refine ⟨RetD.nil rfl, RetD.eq rfl ?_, trivial⟩
            all_goals (rfl)
          · replace h6 := of_decide_eq_false h6
            have HF : dueFault v p frm to = 0 := by unfold dueFault; rw [if_neg (by rw [hb0]; decide), HS, if_neg (by decide), if_neg h6]
            have hmx : manyTo frm p.every to v.copies v.copies.length ≤ 20000 := by omega
            rw [HF, dueR_tds _ _ _ _ HF]
            refine AWP.skip ?_
            refine AWP.seq ?_
            refine AWP.region ?_
            refine AOps.step rfl rfl rfl (AOp.assignD rfl rfl) ?_
            refine AOps.nil ?_
            refine AWP.seq ?_
            refine AWP.seq ?_
            refine AWP.region ?_
            refine AOps.step rfl rfl rfl (AOp.moveD rfl rfl) ?_
            refine AOps.step rfl rfl rfl (AOp.moveD rfl rfl) ?_
            refine AOps.nil ?_
            refine AWP.block ?_
            refine AWP.adopt 18 2 46 3 rfl rfl ?_
            refine AWP.loop (G := Nat × List Nat × List (Tsk × Nat)) (fun g => Env.of [(75, .d (.v (.int .i64 (g.1 : Int)))), (74, .d (.v (.int .i64 ((manyTo frm p.every to v.copies v.copies.length : Nat) : Int)))), (13, .own 1), (18, .own 2), (2, .d (.v (.int .i64 frm))), (3, .d (.v (.int .i64 to))), (4, .d (.fp v.ds)), (5, .d (.fp p.ds))]) (fun g => [(2, .row 46 3 ((g.2.2).map tds)), (1, .row 3 1 ((nextOf frm p.every v.copies g.2.1).map intD))]) (fun g => g.1 ≤ manyTo frm p.every to v.copies v.copies.length ∧ Sel frm p.every to v.copies g.2.1 g.2.2 ∧ g.2.2.length = g.1) (fun g => manyTo frm p.every to v.copies v.copies.length - g.1) (0, List.replicate v.copies.length 0, []) ⟨Nat.zero_le _, Sel.start _, rfl⟩ (Sub.less ⟨(SLe.i64 rfl), SLe.refl _, SLe.refl _, SLe.refl _, SLe.refl _, SLe.refl _, SLe.refl _, SLe.refl _, trivial⟩ (rows_both rfl (by rw [nextOf_zero, List.take_length]))) ?_
            rintro ⟨k, ns, o⟩ ⟨hk, hsel, hol⟩
            dsimp only at hk hsel hol ⊢
            refine AWP.seq ?_
            refine AWP.region ?_
            refine AOps.step rfl rfl rfl (AOp.lss rfl rfl rfl) ?_
            refine AOps.nil ?_
            refine AWP.seq ?_
            refine AWP.cond rfl (fun h7 => ?_) (fun h7 => ?_)
            · replace h7 := of_decide_eq_true h7
              have hkt : k < manyTo frm p.every to v.copies v.copies.length := by omega
              refine AWP.skip ?_
              refine AWP.seq ?_
              refine AWP.block ?_
              refine AWP.seq ?_
              refine AWP.region ?_
              refine AOps.step rfl rfl rfl (AOp.assignD rfl rfl) ?_
              refine AOps.nil ?_
              refine AWP.seq ?_
              refine AWP.seq ?_
              refine AWP.region ?_
              refine AOps.step rfl rfl rfl (AOp.moveO rfl rfl) ?_
              refine AOps.step rfl rfl rfl (AOp.lenOwn rfl et_75.ht rfl (.tail _ (.head _))) ?_
              refine AOps.step rfl rfl rfl (AOp.moveD rfl rfl) ?_
              refine AOps.nil ?_
              refine AWP.block ?_
              refine AWP.loop (G := Nat × Int) (fun g => Env.of [(79, .d (.v (.int .i64 (g.1 : Int)))), (19, .d (.v (.int .i64 g.2))), (77, .own 1), (78, .d (.v (.int .i64 ((((nextOf frm p.every v.copies ns).map intD).length : Nat) : Int)))), (75, .d (.v (.int .i64 (k : Int)))), (74, .d (.v (.int .i64 ((manyTo frm p.every to v.copies v.copies.length : Nat) : Int)))), (13, .own 1), (18, .own 2), (2, .d (.v (.int .i64 frm))), (3, .d (.v (.int .i64 to))), (4, .d (.fp v.ds)), (5, .d (.fp p.ds))]) (fun g => [(2, .row 46 3 ((o).map tds)), (1, .row 3 1 ((nextOf frm p.every v.copies ns).map intD))]) (fun g => g.1 ≤ v.copies.length ∧ BestR to (nextOf frm p.every v.copies ns) g.1 g.2) (fun g => v.copies.length - g.1) (0, -1) ⟨Nat.zero_le _, BestR.start _⟩ (Sub.less ⟨(SLe.i64 rfl), SLe.refl _, SLe.refl _, SLe.refl _, SLe.refl _, SLe.refl _, SLe.refl _, SLe.refl _, SLe.refl _, SLe.refl _, SLe.refl _, SLe.refl _, trivial⟩ (rows_both rfl rfl)) ?_
              rintro ⟨j, best⟩ ⟨hj, hbest⟩
              dsimp only at hj hbest ⊢
              refine AWP.seq ?_
              refine AWP.region ?_
              refine AOps.step rfl rfl rfl (AOp.lss rfl rfl rfl) ?_
              refine AOps.nil ?_
              refine AWP.seq ?_
              refine AWP.cond rfl (fun h8 => ?_) (fun h8 => ?_)
              · replace h8 := of_decide_eq_true h8
                rw [List.length_map, nextOf_len hsel.len] at h8
                have hjl : j < v.copies.length := by omega
                obtain ⟨x, hx⟩ : ∃ x, (nextOf frm p.every v.copies ns)[j]? = some x := ⟨_, List.getElem?_eq_getElem (by rw [nextOf_len hsel.len]; exact hjl)⟩
                refine AWP.skip ?_
                refine AWP.seq ?_
                refine AWP.block ?_
                refine AWP.seq ?_
                refine AWP.region ?_
                refine AOps.step rfl rfl rfl (AOp.moveD rfl rfl) ?_
                refine AOps.step rfl rfl rfl (AOp.indexOwn rfl et_75 rfl rfl (.tail _ (.head _)) j rfl (by rw [List.length_map, nextOf_len hsel.len]; omega)) ?_
                refine AOps.step rfl rfl rfl (AOp.loadRow rfl sc_3 rfl (.tail _ (.head _)) j 0 rfl (at_opt hx) rfl) ?_
                refine AOps.step rfl rfl rfl (AOp.assignD rfl rfl) ?_
                refine AOps.step rfl rfl rfl (AOp.assignD rfl rfl) ?_
                refine AOps.nil ?_
                refine AWP.seq ?_
                refine AWP.region ?_
                refine AOps.step rfl rfl rfl (AOp.moveD rfl rfl) ?_
                refine AOps.step rfl rfl rfl (AOp.moveD rfl rfl) ?_
                refine AOps.step rfl rfl rfl (AOp.lss rfl rfl rfl) ?_
                refine AOps.step rfl rfl rfl (AOp.moveD rfl rfl) ?_
                refine AOps.split 87 rfl (fun g9 => ?_) (fun g9 => ?_)
                · replace g9 := of_decide_eq_true g9
                  have hxt := g9
                  refine AOps.step ⟨87, rfl, .inl ⟨_, rfl, rfl⟩⟩ rfl rfl (AOp.moveD rfl rfl) ?_
                  refine AOps.step ⟨87, rfl, .inl ⟨_, rfl, rfl⟩⟩ rfl rfl (AOp.lss rfl rfl rfl) ?_
                  refine AOps.step ⟨87, rfl, .inl ⟨_, rfl, rfl⟩⟩ rfl rfl (AOp.moveD rfl rfl) ?_
                  refine AOps.split 90 rfl (fun g10 => ?_) (fun g10 => ?_)
                  · replace g10 := of_decide_eq_true g10
                    have HN := hbest.first hx hxt g10
                    refine AOps.pass ⟨90, rfl, .inl ⟨_, rfl, rfl⟩⟩ rfl rfl ?_
                    refine AOps.pass ⟨90, rfl, .inl ⟨_, rfl, rfl⟩⟩ rfl rfl ?_
                    refine AOps.pass ⟨90, rfl, .inl ⟨_, rfl, rfl⟩⟩ rfl rfl ?_
                    refine AOps.pass ⟨90, rfl, .inl ⟨_, rfl, rfl⟩⟩ rfl rfl ?_
                    refine AOps.pass ⟨90, rfl, .inl ⟨_, rfl, rfl⟩⟩ rfl rfl ?_
                    refine AOps.pass ⟨90, rfl, .inl ⟨_, rfl, rfl⟩⟩ rfl rfl ?_
                    refine AOps.step ⟨87, rfl, .inl ⟨_, rfl, rfl⟩⟩ rfl rfl (AOp.pickT rfl rfl rfl) ?_
                    refine AOps.step rfl rfl rfl (AOp.pickT rfl rfl rfl) ?_
                    refine AOps.nil ?_
                    refine AWP.cond rfl (fun _ => ?_) (fun h => nomatch h)
                    refine AWP.region ?_
                    refine AOps.step rfl rfl rfl (AOp.moveD rfl rfl) ?_
                    refine AOps.step rfl rfl rfl (AOp.assignD rfl rfl) ?_
                    refine AOps.nil ?_
                    refine AWP.region ?_
                    refine AOps.step rfl rfl rfl (AOp.add64 rfl rfl rfl (by omega) (by omega)) ?_
                    refine AOps.step rfl rfl rfl (AOp.moveD rfl rfl) ?_
                    refine AOps.nil ?_
                    refine ⟨(j + 1, (j : Int)), ⟨by dsimp only; omega, HN⟩, (by dsimp only; omega), Sub.less ⟨(SLe.i64 rfl), SLe.refl _, SLe.refl _, SLe.refl _, SLe.refl _, SLe.refl _, SLe.refl _, SLe.refl _, SLe.refl _, SLe.refl _, SLe.refl _, SLe.refl _, trivial⟩ (rows_both rfl rfl)⟩
                  · replace g10 := of_decide_eq_false g10
                    obtain ⟨n, z, hbn, hnj, hz, hnl⟩ := hbest.idx g10
                    refine AOps.step ⟨90, rfl, .inl ⟨_, rfl, rfl⟩⟩ rfl rfl (AOp.moveD rfl rfl) ?_
                    refine AOps.step ⟨90, rfl, .inl ⟨_, rfl, rfl⟩⟩ rfl rfl (AOp.moveO rfl rfl) ?_
                    refine AOps.step ⟨90, rfl, .inl ⟨_, rfl, rfl⟩⟩ rfl rfl (AOp.moveD rfl rfl) ?_
                    refine AOps.step ⟨90, rfl, .inl ⟨_, rfl, rfl⟩⟩ rfl rfl (AOp.indexOwn rfl et_75 rfl rfl (.tail _ (.head _)) n hbn (by rw [List.length_map]; exact hnl)) ?_
                    refine AOps.step ⟨90, rfl, .inl ⟨_, rfl, rfl⟩⟩ rfl rfl (AOp.loadRow rfl sc_3 rfl (.tail _ (.head _)) n 0 rfl (at_opt hz) rfl) ?_
                    refine AOps.step ⟨90, rfl, .inl ⟨_, rfl, rfl⟩⟩ rfl rfl (AOp.lss rfl rfl rfl) ?_
                    refine AOps.step ⟨87, rfl, .inl ⟨_, rfl, rfl⟩⟩ rfl rfl (AOp.pickF rfl rfl rfl) ?_
                    refine AOps.step rfl rfl rfl (AOp.pickT rfl rfl rfl) ?_
                    refine AOps.nil ?_
                    refine AWP.cond rfl (fun h11 => ?_) (fun h11 => ?_)
                    · replace h11 := of_decide_eq_true h11
                      have HN := hbest.better hx hxt hbn hz h11
                      refine AWP.region ?_
                      refine AOps.step rfl rfl rfl (AOp.moveD rfl rfl) ?_
                      refine AOps.step rfl rfl rfl (AOp.assignD rfl rfl) ?_
                      refine AOps.nil ?_
                      refine AWP.region ?_
                      refine AOps.step rfl rfl rfl (AOp.add64 rfl rfl rfl (by omega) (by omega)) ?_
                      refine AOps.step rfl rfl rfl (AOp.moveD rfl rfl) ?_
                      refine AOps.nil ?_
                      refine ⟨(j + 1, (j : Int)), ⟨by dsimp only; omega, HN⟩, (by dsimp only; omega), Sub.less ⟨(SLe.i64 rfl), SLe.refl _, SLe.refl _, SLe.refl _, SLe.refl _, SLe.refl _, SLe.refl _, SLe.refl _, SLe.refl _, SLe.refl _, SLe.refl _, SLe.refl _, trivial⟩ (rows_both rfl rfl)⟩
                    · replace h11 := of_decide_eq_false h11
                      have HN := hbest.worse hx hbn hz h11
                      refine AWP.skip ?_
                      refine AWP.region ?_
                      refine AOps.step rfl rfl rfl (AOp.add64 rfl rfl rfl (by omega) (by omega)) ?_
                      refine AOps.step rfl rfl rfl (AOp.moveD rfl rfl) ?_
                      refine AOps.nil ?_
                      refine ⟨(j + 1, best), ⟨by dsimp only; omega, HN⟩, (by dsimp only; omega), Sub.less ⟨(SLe.i64 rfl), SLe.refl _, SLe.refl _, SLe.refl _, SLe.refl _, SLe.refl _, SLe.refl _, SLe.refl _, SLe.refl _, SLe.refl _, SLe.refl _, SLe.refl _, trivial⟩ (rows_both rfl rfl)⟩
                · replace g9 := of_decide_eq_false g9
                  have HN := hbest.skip hx g9
                  refine AOps.pass ⟨87, rfl, .inl ⟨_, rfl, rfl⟩⟩ rfl rfl ?_
                  refine AOps.pass ⟨87, rfl, .inl ⟨_, rfl, rfl⟩⟩ rfl rfl ?_
                  refine AOps.pass ⟨87, rfl, .inl ⟨_, rfl, rfl⟩⟩ rfl rfl ?_
                  refine AOps.pass ⟨90, rfl, .inr ⟨rfl, rfl⟩⟩ rfl rfl ?_
                  refine AOps.pass ⟨90, rfl, .inr ⟨rfl, rfl⟩⟩ rfl rfl ?_
                  refine AOps.pass ⟨90, rfl, .inr ⟨rfl, rfl⟩⟩ rfl rfl ?_
                  refine AOps.pass ⟨90, rfl, .inr ⟨rfl, rfl⟩⟩ rfl rfl ?_
                  refine AOps.pass ⟨90, rfl, .inr ⟨rfl, rfl⟩⟩ rfl rfl ?_
                  refine AOps.pass ⟨90, rfl, .inr ⟨rfl, rfl⟩⟩ rfl rfl ?_
                  refine AOps.pass ⟨87, rfl, .inl ⟨_, rfl, rfl⟩⟩ rfl rfl ?_
                  refine AOps.step rfl rfl rfl (AOp.pickF rfl rfl rfl) ?_
                  refine AOps.nil ?_
                  refine AWP.cond rfl (fun h => nomatch h) (fun _ => ?_)
                  refine AWP.skip ?_
                  refine AWP.region ?_
                  refine AOps.step rfl rfl rfl (AOp.add64 rfl rfl rfl (by omega) (by omega)) ?_
                  refine AOps.step rfl rfl rfl (AOp.moveD rfl rfl) ?_
                  refine AOps.nil ?_
                  refine ⟨(j + 1, best), ⟨by dsimp only; omega, HN⟩, (by dsimp only; omega), Sub.less ⟨(SLe.i64 rfl), SLe.refl _, SLe.refl _, SLe.refl _, SLe.refl _, SLe.refl _, SLe.refl _, SLe.refl _, SLe.refl _, SLe.refl _, SLe.refl _, SLe.refl _, trivial⟩ (rows_both rfl rfl)⟩
              · replace h8 := of_decide_eq_false h8
                rw [List.length_map, nextOf_len hsel.len] at h8
                obtain rfl : j = v.copies.length := by omega
                obtain ⟨b, c, n, rfl, hc, hn, hnc, hmin⟩ := hsel.found he.1 (by omega) hbest
                have hST := hsel.step he.1 hc hn hnc hmin
                have hNS := nextOf_set (frm := frm) (every := p.every) hc hsel.len (n + 1)
                have hdn : dayD frm p.every c (n + 1) = dayD frm p.every c n + p.every := by unfold dayD; rw [show ((n + 1 : Nat) : Int) = (n : Int) + 1 from rfl, Int.add_mul, Int.one_mul]; omega
                have hdb := day_bound he.1 hsp.1.1 hsp.2.2 hnc
                have hbl : b < v.copies.length := (List.getElem?_eq_some_iff.1 hc).1
                have hcc : v.copies.map Cpy.ds = v.copies.map Cpy.ds := rfl
                refine AWP.exit ?_
                refine AWP.seq ?_
                refine AWP.drawTail 19 (by kernel_rfl) (by kernel_rfl) (by kernel_rfl) ?_
                refine DRun.step rfl rfl rfl (AOp.moveO rfl rfl) ?_
                refine DRun.step rfl rfl rfl (AOp.moveO rfl rfl) ?_
                refine DRun.step rfl rfl rfl (AOp.moveD rfl rfl) ?_
                refine DRun.step rfl rfl rfl (AOp.indexOwn rfl et_75 rfl rfl (.tail _ (.head _)) b rfl (by rw [List.length_map, nextOf_len hsel.len]; omega)) ?_
                refine DRun.step rfl rfl rfl (AOp.loadRow rfl sc_3 rfl (.tail _ (.head _)) b 0 rfl (at_opt (nextOf_at hc hn)) rfl) ?_
                refine DRun.step rfl rfl rfl (AOp.fieldAddr rfl fo_26_2 rfl) ?_
                refine DRun.step rfl rfl rfl (AOp.load rfl sc_24 rfl) ?_
                refine DRun.step rfl rfl rfl (AOp.moveD rfl rfl) ?_
                refine DRun.step rfl rfl rfl (AOp.indexAddr rfl et_24 rfl rfl b rfl (at_opt hc) rfl) ?_
                refine DRun.step rfl rfl rfl (AOp.fieldAddr rfl fo_77_0 rfl) ?_
                refine DRun.step rfl rfl rfl (AOp.load rfl sc_9 rfl) ?_
                refine DRun.step rfl rfl rfl (AOp.fieldAddr rfl fo_26_2 rfl) ?_
                refine DRun.step rfl rfl rfl (AOp.load rfl sc_24 rfl) ?_
                refine DRun.step rfl rfl rfl (AOp.moveD rfl rfl) ?_
                refine DRun.step rfl rfl rfl (AOp.indexAddr rfl et_24 rfl rfl b rfl (at_opt hc) rfl) ?_
                refine DRun.step rfl rfl rfl (AOp.fieldAddr rfl fo_77_1 rfl) ?_
                refine DRun.step rfl rfl rfl (AOp.load rfl sc_9 rfl) ?_
                refine DRun.step rfl rfl rfl (AOp.build rfl bu_46 (.cons rfl rfl (.cons rfl rfl (.cons rfl rfl .nil))) rfl) ?_
                refine DRun.step rfl rfl rfl (AOp.buildSlice rfl et_41 (.cons rfl rfl rfl .nil) rfl (by decide)) ?_
                refine DRun.nil ?_
                -- append 120
                refine AOps.append rfl rfl rfl rfl et_41 rfl (.head _) rfl (by simp [D.parts]) (by simp; omega) (by simp; omega) ?_
                refine AOps.step rfl rfl rfl (AOp.assignO rfl rfl) ?_
                refine AOps.nil ?_
                refine AWP.drawG (fun k => (Nat.beq k 8) || (Nat.beq k 2 || Nat.beq k 3 || Nat.beq k 7)) (fun k => Nat.beq k 8) (fun k h => Bool.or_eq_true_iff.2 (.inl h)) (by kernel_rfl) (by kernel_rfl) (by kernel_rfl) ?_
                refine GRun.step rfl rfl rfl (fun _ => AOp.moveO rfl rfl) ?_
                refine GRun.step rfl rfl rfl (fun _ => AOp.moveD rfl rfl) ?_
                refine GRun.stepS rfl rfl rfl rfl (AOp.indexOwn rfl et_75 rfl rfl (.tail _ (.head _)) b rfl (by rw [List.length_map, nextOf_len hsel.len]; omega)) ?_
                refine GRun.stepS rfl rfl rfl rfl (AOp.loadRow rfl sc_3 rfl (.tail _ (.head _)) b 0 rfl (at_opt (nextOf_at hc hn)) rfl) ?_
                refine GRun.step rfl rfl rfl (fun _ => AOp.fieldAddr rfl fo_28_3 rfl) ?_
                refine GRun.step rfl rfl rfl (fun _ => AOp.load rfl sc_3 rfl) ?_
                refine GRun.step rfl rfl rfl (fun _ => AOp.add64 rfl rfl rfl (by omega) (by omega)) ?_
                refine GRun.stepS rfl rfl rfl rfl (AOp.indexOwn rfl et_75 rfl rfl (.tail _ (.head _)) b rfl (by rw [List.length_map, nextOf_len hsel.len]; omega)) ?_
                refine GRun.eff rfl rfl rfl (EOp.storeRow rfl rfl sz_3 rfl (.tail _ (.head _)) rfl rfl rfl b 0 rfl (at_opt (nextOf_at hc hn)) (Nat.le_of_ble_eq_true rfl)) ?_
                refine GRun.nil ?_
                refine AWP.region ?_
                refine AOps.step rfl rfl rfl (AOp.add64 rfl rfl rfl (by omega) (by omega)) ?_
                refine AOps.step rfl rfl rfl (AOp.moveD rfl rfl) ?_
                refine AOps.nil ?_
                refine ⟨(k + 1, ns.set b (n + 1), o ++ [elD frm p.every c b n]), ⟨by dsimp only; omega, hST, by dsimp only; rw [List.length_append, hol]; rfl⟩, (by dsimp only; omega), Sub.less ⟨(SLe.i64 rfl), SLe.refl _, SLe.refl _, SLe.refl _, SLe.refl _, SLe.refl _, SLe.refl _, SLe.refl _, trivial⟩ (rows_both (by rw [List.map_append]; rfl) (by rw [hNS, List.map_set, hdn]; rfl))⟩
            · replace h7 := of_decide_eq_false h7
              have HD := hsel.done he.1 hsp.1.1 hsp.2.2 (by omega)
              rw [← HD]
              refine AWP.exit ?_
              refine AWP.seq ?_
              refine AWP.region ?_
              refine AOps.step rfl rfl rfl (AOp.moveO rfl rfl) ?_
              refine AOps.step rfl rfl rfl (AOp.assignO rfl rfl) ?_
              refine AOps.step rfl rfl rfl (AOp.assignD rfl rfl) ?_
              refine AOps.nil ?_
              refine AWP.ret ?_
              refine ⟨RetD.own rfl (.head _) ?_, RetD.eq rfl ?_, trivial⟩
              all_goals (rfl)

end Go.Proofs.YtieccphckobhjaaDoor
