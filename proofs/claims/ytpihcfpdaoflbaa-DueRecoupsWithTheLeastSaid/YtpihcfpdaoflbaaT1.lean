/- CheckTiers, earned, Earned and Recouped, of the program and of the reference: alike in text. Printed by tools/tiers.py. -/
import Derived.Test.YtpihcfpdaoflbaaD4
namespace Go.Proofs.Ytpihcfpdaoflbaa
open Go.RowKit
attribute [local go_sem ↓] run_min_kept run_max_kept

theorem et_tiers : ElemTy Try.prog 29 42 2 16 (.agg #[.int .i64 0, .int .i64 0]) := ⟨by kernel_rfl, by kernel_rfl, by kernel_rfl, by decide⟩

/-- Tiers as cells. -/
def tcells (ts : List (Int × Int)) : List Value := ts.flatMap fun t => [.int .i64 t.1, .int .i64 t.2]
theorem tcells_length : ∀ ts : List (Int × Int), (tcells ts).length = ts.length * 2
  | [] => rfl
  | t :: ts => by
    have := tcells_length ts
    unfold tcells at *
    simp only [List.flatMap_cons, List.length_append, List.length_cons, List.length_nil, this, Nat.succ_mul]; omega
theorem tcells_at : ∀ (ts : List (Int × Int)) (k : Nat) (h : k < ts.length), ((tcells ts).drop (k * 2)).take 2 = [.int .i64 ts[k].1, .int .i64 ts[k].2]
  | [], k, h => by simp at h
  | t :: ts, 0, h => by simp [tcells]
  | t :: ts, k + 1, h => by
    have := tcells_at ts k (by simpa using h)
    unfold tcells at *
    rw [List.flatMap_cons, Nat.succ_mul, show k * 2 + 2 = 2 + k * 2 by omega, ← List.drop_drop]
    simpa using this

theorem Cells.two {w : World} {ad : Addr} {x y : Value} (h : Cells w ad [x, y]) : w.cell? ad = some x ∧ w.cell? ⟨ad.block, ad.off + 1, none⟩ = some y := by
  refine ⟨?_, ?_⟩
  · have := h 0 (by simp); rwa [addr_zero] at this
  · have := h 1 (by simp); rwa [addr_one] at this
theorem Cells.two_later {w : World} {ad : Addr} {x y : Value} (h : Cells w ad [x, y]) (n : Later w) : n.u.cell? ad = some x := Later.cell h.two.1 n

/-- The end of tier k's money. -/
def tEnd (ts : List (Int × Int)) (m : Int) (k : Nat) : Int := if k + 1 < ts.length then min m (ts.getD (k + 1) (0, 0)).1 else m
def tTerm (ts : List (Int × Int)) (m : Int) (k : Nat) : Int := max 0 (tEnd ts m k - (ts.getD k (0, 0)).1) * (ts.getD k (0, 0)).2
def tSum (ts : List (Int × Int)) (m : Int) : Nat → Int
  | 0 => 0
  | k + 1 => tSum ts m k + tTerm ts m k
def earnedT (ts : List (Int × Int)) (m : Int) : Int := tSum ts m ts.length / 10000

/-- A tier in its bounds. -/
def TierIn (t : Int × Int) : Prop := 0 ≤ t.1 ∧ t.1 ≤ 1000000000000 ∧ 0 ≤ t.2 ∧ t.2 ≤ 10000
theorem getD_at (ts : List (Int × Int)) (k : Nat) (h : k < ts.length) : ts.getD k (0, 0) = ts[k] := by rw [List.getD_eq_getElem?_getD, List.getElem?_eq_getElem h, Option.getD_some]
theorem prod_in {x r : Int} (h0 : 0 ≤ x) (h1 : x ≤ 1000000000000) (h2 : 0 ≤ r) (h3 : r ≤ 10000) : 0 ≤ x * r ∧ x * r ≤ 10000000000000000 := by
  refine ⟨Int.mul_nonneg h0 h2, ?_⟩
  exact Int.le_trans (Int.mul_le_mul h1 h3 h2 (by omega)) (by omega)
theorem tEnd_in (ts : List (Int × Int)) (hv : ∀ t ∈ ts, TierIn t) (m : Int) (h0 : 0 ≤ m) (h1 : m ≤ 1000000000000) (k : Nat) : 0 ≤ tEnd ts m k ∧ tEnd ts m k ≤ 1000000000000 := by
  unfold tEnd
  split
  · rename_i h
    have := hv ts[k + 1] (List.getElem_mem h)
    unfold TierIn at this
    rw [getD_at ts _ h]
    omega
  · omega
theorem tTerm_in (ts : List (Int × Int)) (hv : ∀ t ∈ ts, TierIn t) (m : Int) (h0 : 0 ≤ m) (h1 : m ≤ 1000000000000) (k : Nat) (h : k < ts.length) : 0 ≤ tTerm ts m k ∧ tTerm ts m k ≤ 10000000000000000 := by
  have he := tEnd_in ts hv m h0 h1 k
  have ht := hv ts[k] (List.getElem_mem h)
  unfold TierIn at ht
  unfold tTerm
  rw [getD_at ts k h]
  exact prod_in (by omega) (by omega) (by omega) (by omega)
theorem tSum_in (ts : List (Int × Int)) (hv : ∀ t ∈ ts, TierIn t) (m : Int) (h0 : 0 ≤ m) (h1 : m ≤ 1000000000000) : ∀ k, k ≤ ts.length → 0 ≤ tSum ts m k ∧ tSum ts m k ≤ k * 10000000000000000
  | 0, _ => by simp [tSum]
  | k + 1, h => by
    have h2 := tSum_in ts hv m h0 h1 k (by omega)
    have h3 := tTerm_in ts hv m h0 h1 k (by omega)
    rw [tSum]
    omega

/-- What is wrong with tier k. -/
def tFault (ts : List (Int × Int)) (k : Nat) : Int :=
  if inB (ts.getD k (0, 0)).1 0 1000000000000 = false ∨ inB (ts.getD k (0, 0)).2 0 10000 = false then 1
  else if k = 0 ∧ (ts.getD k (0, 0)).1 ≠ 0 ∨ 0 < k ∧ (ts.getD k (0, 0)).1 ≤ (ts.getD (k - 1) (0, 0)).1 then 8 else 0
def tFaults (ts : List (Int × Int)) : Int := if ts.length = 0 then 9 else if 10 < ts.length then 2 else ((List.range ts.length).find? fun k => tFault ts k != 0).elim 0 (tFault ts)

theorem tFaults_ok (ts : List (Int × Int)) (h0 : ¬ ts.length = 0) (h1 : ¬ 10 < ts.length) (h : ∀ i, i < ts.length → tFault ts i = 0) : tFaults ts = 0 := by
  unfold tFaults
  rw [if_neg h0, if_neg h1]
  have : ((List.range ts.length).find? fun k => tFault ts k != 0) = none := by
    rw [List.find?_eq_none]
    intro x hx
    simp [h x (List.mem_range.1 hx)]
  rw [this]
  rfl
theorem find_first (f : Nat → Bool) : ∀ (n k : Nat), k < n → f k = true → (∀ i, i < k → f i = false) → (List.range n).find? f = some k
  | 0, k, h, _, _ => by omega
  | n + 1, k, h, hk, hb => by
    rw [List.range_succ, List.find?_append]
    by_cases he : k < n
    · rw [find_first f n k he hk hb]; rfl
    · have e : k = n := by omega
      subst e
      have : (List.range k).find? f = none := by
        rw [List.find?_eq_none]
        intro x hx
        rw [hb x (List.mem_range.1 hx)]; simp
      rw [this]
      simp [hk]
theorem tFaults_bad (ts : List (Int × Int)) (h1 : ¬ 10 < ts.length) (k : Nat) (hk : k < ts.length) (h : ∀ i, i < k → tFault ts i = 0) (hb : tFault ts k ≠ 0) : tFaults ts = tFault ts k := by
  unfold tFaults
  rw [if_neg (by omega), if_neg h1, find_first (fun k => tFault ts k != 0) ts.length k hk (by simpa using hb) (fun i hi => by simp [h i hi])]
  rfl
theorem tFaults_in (ts : List (Int × Int)) (h : tFaults ts = 0) : ts.length ≤ 10 ∧ ts.length ≠ 0 ∧ ∀ k, k < ts.length → tFault ts k = 0 := by
  have h0 : ¬ ts.length = 0 := by intro e; unfold tFaults at h; rw [if_pos e] at h; exact absurd h (by decide)
  have h1 : ¬ 10 < ts.length := by intro e; unfold tFaults at h; rw [if_neg h0, if_pos e] at h; exact absurd h (by decide)
  refine ⟨by omega, h0, ?_⟩
  intro k
  induction k using Nat.strongRecOn with
  | ind k ih =>
    intro hk
    by_cases hb : tFault ts k = 0
    · exact hb
    · rw [tFaults_bad ts h1 k hk (fun i hi => ih i hi (by omega)) hb] at h
      exact absurd h hb
theorem tFault_in {ts : List (Int × Int)} {k : Nat} (hk : k < ts.length) (h : tFault ts k = 0) : TierIn ts[k] := by
  unfold tFault at h
  rw [getD_at ts k hk] at h
  by_cases h1 : inB ts[k].1 0 1000000000000 = false ∨ inB ts[k].2 0 10000 = false
  · rw [if_pos h1] at h; exact absurd h (by decide)
  · have h2 : inB ts[k].1 0 1000000000000 = true := by cases hh : inB ts[k].1 0 1000000000000 <;> simp_all
    have h3 : inB ts[k].2 0 10000 = true := by cases hh : inB ts[k].2 0 10000 <;> simp_all
    unfold inB at h2 h3
    have h2 := of_decide_eq_true h2
    have h3 := of_decide_eq_true h3
    exact ⟨h2.1, h2.2, h3.1, h3.2⟩
theorem tiers_in (ts : List (Int × Int)) (h : tFaults ts = 0) : ∀ t ∈ ts, TierIn t := by
  intro t ht
  obtain ⟨k, hk, rfl⟩ := List.getElem_of_mem ht
  exact tFault_in hk ((tFaults_in ts h).2.2 k hk)

set_option maxHeartbeats 800000 in
theorem pEarned_in (v : Value) (ts : List (Int × Int)) (m : Int) (w : World) (h : Sl w 2 v ts.length (tcells ts)) (hn : ts.length ≤ 10) (hv : ∀ t ∈ ts, TierIn t) (h0 : 0 ≤ m) (h1 : m ≤ 1000000000000) :
    Calls Try.prog 21 #[v, .int .i64 m] w fun e w' => e = .returned (.int .i64 (earnedT ts m)) ∧ Below w.heap.size w w' := by
  have hlen := h.len et_tiers.ht 3
  have HH := Lib.hid h
  have HV := Lib.hid hv
  have HS := Lib.hid (tSum_in ts hv m h0 h1)
  have HE := Lib.hid (tEnd_in ts hv m h0 h1)
  have HP := Lib.hid (tTerm_in ts hv m h0 h1)
  clear h hv
  go_enter Try.func21, Try.ntmps21
  go_wp2_with fail
  go_loopw [5, 11] (fun s i wr => ∃ k : Nat, k ≤ ts.length ∧ i = .int .i64 k ∧ s = .int .i64 (tSum ts m k) ∧ Below w.heap.size w wr) (fun _ i _ => ts.length - (intOf i).toNat)
  case atStart => exact ⟨0, Nat.zero_le _, rfl, rfl, Below.refl _ _⟩
  case round =>
    obtain ⟨k, hk, rfl, rfl, hbel⟩ := hrel
    have hs := HS.out k hk
    by_cases hlt : k < ts.length
    · have hsl := HH.out.below hbel (Nat.le_refl _)
      obtain ⟨ad, hix, hcells⟩ := hsl.idx et_tiers k (by omega) (by omega)
      rw [Int.toNat_natCast, tcells_at ts k hlt] at hcells
      have hc := Lib.hid hcells
      have ht := HV.out ts[k] (List.getElem_mem hlt)
      unfold TierIn at ht
      have hsz := hbel.size
      have HT := Lib.hid (show tSum ts m (k + 1) = tSum ts m k + tTerm ts m k from rfl)
      have hp := HP.out k hlt
      have he := HE.out k
      have hs' := HS.out (k + 1) (by omega)
      rw [HT.out] at hs'
      have hTerm : max 0 (tEnd ts m k - ts[k].1) * ts[k].2 = tTerm ts m k := by rw [tTerm, getD_at ts k hlt]
      have HB := Lib.hid hbel
      clear hcells hbel
      by_cases hk1 : k + 1 < ts.length
      · obtain ⟨ad2, hix2, hcells2⟩ := hsl.idx et_tiers ((k + 1 : Nat) : Int) (by omega) (by omega)
        rw [Int.toNat_natCast, tcells_at ts (k + 1) hk1] at hcells2
        have hc2 := Lib.hid hcells2
        have hmin : min m ts[k + 1].1 = tEnd ts m k := by rw [tEnd, if_pos hk1, getD_at ts _ hk1]
        have hk1' : (k : Int) + 1 < (ts.length : Int) := by omega
        rw [Int.natCast_add, Int.natCast_one] at hix2
        clear hsl hcells2
        generalize ts[k + 1].1 = nf at *
        generalize ts[k].1 = f at *
        generalize ts[k].2 = r at *
        generalize tEnd ts m k = en at *
        generalize tTerm ts m k = te at *
        generalize tSum ts m k = su at *
        go_upto_region 5 with (refine wpList_loadAgg (cs := [.int .i64 f, .int .i64 r]) _ rfl rfl rfl (by kernel_rfl) (by kernel_rfl) hc.out ?_)
        have hq := fun j (x : Value) (hx : (#[.int .i64 f, .int .i64 r] : Array Value)[j]? = some x) => cell_of_row (wr.alloc (.cells #[.int .i64 f, .int .i64 r] 42)) wr.heap.size j #[.int .i64 f, .int .i64 r] 42 (0, 0) (heap_alloc_new wr _)
        have hq0 := hq 0 _ rfl
        have hq1 := hq 1 _ rfl
        have hbw := Lib.hid (HB.out.alloc hsz (.cells #[.int .i64 f, .int .i64 r] 42))
        have hnx := cell_behind ((Below.refl wr.heap.size wr).alloc (Nat.le_refl _) (.cells #[.int .i64 f, .int .i64 r] 42)) hc2.out.two.1
        clear hq
        simp only [List.getElem?_toArray, List.getElem?_cons_zero, List.getElem?_cons_succ] at hq0 hq1
        generalize wr.alloc (.cells #[.int .i64 f, .int .i64 r] 42) = w5 at *
        go_wp2_with fail
        go_roundw
        case rel => exact ⟨k + 1, by omega, by go_num, by rw [HT.out], hbw.out⟩
        case measure => simp [intOf]; omega
      · have hmin : m = tEnd ts m k := by rw [tEnd, if_neg hk1]
        have hk1' : ¬ (k : Int) + 1 < (ts.length : Int) := by omega
        rw [← hmin] at hTerm
        clear hsl hmin he
        generalize ts[k].1 = f at *
        generalize ts[k].2 = r at *
        generalize tTerm ts m k = te at *
        generalize tSum ts m k = su at *
        go_upto_region 5 with (refine wpList_loadAgg (cs := [.int .i64 f, .int .i64 r]) _ rfl rfl rfl (by kernel_rfl) (by kernel_rfl) hc.out ?_)
        have hq := fun j (x : Value) (hx : (#[.int .i64 f, .int .i64 r] : Array Value)[j]? = some x) => cell_of_row (wr.alloc (.cells #[.int .i64 f, .int .i64 r] 42)) wr.heap.size j #[.int .i64 f, .int .i64 r] 42 (0, 0) (heap_alloc_new wr _)
        have hq0 := hq 0 _ rfl
        have hq1 := hq 1 _ rfl
        have hbw := Lib.hid (HB.out.alloc hsz (.cells #[.int .i64 f, .int .i64 r] 42))
        clear hq
        simp only [List.getElem?_toArray, List.getElem?_cons_zero, List.getElem?_cons_succ] at hq0 hq1
        generalize wr.alloc (.cells #[.int .i64 f, .int .i64 r] 42) = w5 at *
        go_wp2_with fail
        go_roundw
        case rel => exact ⟨k + 1, by omega, by go_num, by rw [HT.out], hbw.out⟩
        case measure => simp [intOf]; omega
    · have e : k = ts.length := by omega
      subst e
      have HBe := Lib.hid hbel
      have HR := Lib.hid (show earnedT ts m = tSum ts m ts.length / 10000 from rfl)
      generalize tSum ts m ts.length = su at *
      clear hbel
      go_wp2_with fail
      go_ret
      exact ⟨by rw [HR.out]; rfl, HBe.out⟩

set_option maxHeartbeats 800000 in
theorem rEarned_in (v : Value) (ts : List (Int × Int)) (m : Int) (w : World) (h : Sl w 2 v ts.length (tcells ts)) (hn : ts.length ≤ 10) (hv : ∀ t ∈ ts, TierIn t) (h0 : 0 ≤ m) (h1 : m ≤ 1000000000000) :
    Calls Try.prog 22 #[v, .int .i64 m] w fun e w' => e = .returned (.int .i64 (earnedT ts m)) ∧ Below w.heap.size w w' := by
  have hlen := h.len et_tiers.ht 3
  have HH := Lib.hid h
  have HV := Lib.hid hv
  have HS := Lib.hid (tSum_in ts hv m h0 h1)
  have HE := Lib.hid (tEnd_in ts hv m h0 h1)
  have HP := Lib.hid (tTerm_in ts hv m h0 h1)
  clear h hv
  go_enter Try.func22, Try.ntmps22
  go_wp2_with fail
  go_loopw [5, 11] (fun s i wr => ∃ k : Nat, k ≤ ts.length ∧ i = .int .i64 k ∧ s = .int .i64 (tSum ts m k) ∧ Below w.heap.size w wr) (fun _ i _ => ts.length - (intOf i).toNat)
  case atStart => exact ⟨0, Nat.zero_le _, rfl, rfl, Below.refl _ _⟩
  case round =>
    obtain ⟨k, hk, rfl, rfl, hbel⟩ := hrel
    have hs := HS.out k hk
    by_cases hlt : k < ts.length
    · have hsl := HH.out.below hbel (Nat.le_refl _)
      obtain ⟨ad, hix, hcells⟩ := hsl.idx et_tiers k (by omega) (by omega)
      rw [Int.toNat_natCast, tcells_at ts k hlt] at hcells
      have hc := Lib.hid hcells
      have ht := HV.out ts[k] (List.getElem_mem hlt)
      unfold TierIn at ht
      have hsz := hbel.size
      have HT := Lib.hid (show tSum ts m (k + 1) = tSum ts m k + tTerm ts m k from rfl)
      have hp := HP.out k hlt
      have he := HE.out k
      have hs' := HS.out (k + 1) (by omega)
      rw [HT.out] at hs'
      have hTerm : max 0 (tEnd ts m k - ts[k].1) * ts[k].2 = tTerm ts m k := by rw [tTerm, getD_at ts k hlt]
      have HB := Lib.hid hbel
      clear hcells hbel
      by_cases hk1 : k + 1 < ts.length
      · obtain ⟨ad2, hix2, hcells2⟩ := hsl.idx et_tiers ((k + 1 : Nat) : Int) (by omega) (by omega)
        rw [Int.toNat_natCast, tcells_at ts (k + 1) hk1] at hcells2
        have hc2 := Lib.hid hcells2
        have hmin : min m ts[k + 1].1 = tEnd ts m k := by rw [tEnd, if_pos hk1, getD_at ts _ hk1]
        have hk1' : (k : Int) + 1 < (ts.length : Int) := by omega
        rw [Int.natCast_add, Int.natCast_one] at hix2
        clear hsl hcells2
        generalize ts[k + 1].1 = nf at *
        generalize ts[k].1 = f at *
        generalize ts[k].2 = r at *
        generalize tEnd ts m k = en at *
        generalize tTerm ts m k = te at *
        generalize tSum ts m k = su at *
        go_upto_region 5 with (refine wpList_loadAgg (cs := [.int .i64 f, .int .i64 r]) _ rfl rfl rfl (by kernel_rfl) (by kernel_rfl) hc.out ?_)
        have hq := fun j (x : Value) (hx : (#[.int .i64 f, .int .i64 r] : Array Value)[j]? = some x) => cell_of_row (wr.alloc (.cells #[.int .i64 f, .int .i64 r] 42)) wr.heap.size j #[.int .i64 f, .int .i64 r] 42 (0, 0) (heap_alloc_new wr _)
        have hq0 := hq 0 _ rfl
        have hq1 := hq 1 _ rfl
        have hbw := Lib.hid (HB.out.alloc hsz (.cells #[.int .i64 f, .int .i64 r] 42))
        have hnx := cell_behind ((Below.refl wr.heap.size wr).alloc (Nat.le_refl _) (.cells #[.int .i64 f, .int .i64 r] 42)) hc2.out.two.1
        clear hq
        simp only [List.getElem?_toArray, List.getElem?_cons_zero, List.getElem?_cons_succ] at hq0 hq1
        generalize wr.alloc (.cells #[.int .i64 f, .int .i64 r] 42) = w5 at *
        go_wp2_with fail
        go_roundw
        case rel => exact ⟨k + 1, by omega, by go_num, by rw [HT.out], hbw.out⟩
        case measure => simp [intOf]; omega
      · have hmin : m = tEnd ts m k := by rw [tEnd, if_neg hk1]
        have hk1' : ¬ (k : Int) + 1 < (ts.length : Int) := by omega
        rw [← hmin] at hTerm
        clear hsl hmin he
        generalize ts[k].1 = f at *
        generalize ts[k].2 = r at *
        generalize tTerm ts m k = te at *
        generalize tSum ts m k = su at *
        go_upto_region 5 with (refine wpList_loadAgg (cs := [.int .i64 f, .int .i64 r]) _ rfl rfl rfl (by kernel_rfl) (by kernel_rfl) hc.out ?_)
        have hq := fun j (x : Value) (hx : (#[.int .i64 f, .int .i64 r] : Array Value)[j]? = some x) => cell_of_row (wr.alloc (.cells #[.int .i64 f, .int .i64 r] 42)) wr.heap.size j #[.int .i64 f, .int .i64 r] 42 (0, 0) (heap_alloc_new wr _)
        have hq0 := hq 0 _ rfl
        have hq1 := hq 1 _ rfl
        have hbw := Lib.hid (HB.out.alloc hsz (.cells #[.int .i64 f, .int .i64 r] 42))
        clear hq
        simp only [List.getElem?_toArray, List.getElem?_cons_zero, List.getElem?_cons_succ] at hq0 hq1
        generalize wr.alloc (.cells #[.int .i64 f, .int .i64 r] 42) = w5 at *
        go_wp2_with fail
        go_roundw
        case rel => exact ⟨k + 1, by omega, by go_num, by rw [HT.out], hbw.out⟩
        case measure => simp [intOf]; omega
    · have e : k = ts.length := by omega
      subst e
      have HBe := Lib.hid hbel
      have HR := Lib.hid (show earnedT ts m = tSum ts m ts.length / 10000 from rfl)
      generalize tSum ts m ts.length = su at *
      clear hbel
      go_wp2_with fail
      go_ret
      exact ⟨by rw [HR.out]; rfl, HBe.out⟩
end Go.Proofs.Ytpihcfpdaoflbaa
