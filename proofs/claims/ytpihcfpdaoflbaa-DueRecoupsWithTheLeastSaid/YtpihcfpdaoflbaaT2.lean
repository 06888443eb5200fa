/- CheckTiers of the program and of the reference. Printed by tools/tiers.py. -/
import Derived.Test.YtpihcfpdaoflbaaT1
namespace Go.Proofs.Ytpihcfpdaoflbaa
open Go.RowKit
attribute [local go_sem ↓] run_min_kept run_max_kept

theorem tFault_p {ts : List (Int × Int)} {k : Nat} (hk : k < ts.length) : tFault ts k = if inB ts[k].1 0 1000000000000 = false ∨ inB ts[k].2 0 10000 = false then 1 else if k = 0 ∧ ts[k].1 ≠ 0 ∨ 0 < k ∧ ts[k].1 ≤ (ts.getD (k - 1) (0, 0)).1 then 8 else 0 := by
  unfold tFault; rw [getD_at ts k hk]
theorem tFault_1 {ts : List (Int × Int)} {k : Nat} (hk : k < ts.length) (h : inB ts[k].1 0 1000000000000 = false) : tFault ts k = 1 := by rw [tFault_p hk, if_pos (Or.inl h)]
theorem tFault_2 {ts : List (Int × Int)} {k : Nat} (hk : k < ts.length) (h : inB ts[k].2 0 10000 = false) : tFault ts k = 1 := by rw [tFault_p hk, if_pos (Or.inr h)]
theorem tFault_8 {ts : List (Int × Int)} {k : Nat} (hk : k < ts.length) (h1 : inB ts[k].1 0 1000000000000 = true) (h2 : inB ts[k].2 0 10000 = true) (h : k = 0 ∧ ts[k].1 ≠ 0 ∨ 0 < k ∧ ts[k].1 ≤ (ts.getD (k - 1) (0, 0)).1) : tFault ts k = 8 := by
  rw [tFault_p hk, if_neg (by rw [h1, h2]; decide), if_pos h]
theorem tFault_0 {ts : List (Int × Int)} {k : Nat} (hk : k < ts.length) (h1 : inB ts[k].1 0 1000000000000 = true) (h2 : inB ts[k].2 0 10000 = true) (h : ¬ (k = 0 ∧ ts[k].1 ≠ 0 ∨ 0 < k ∧ ts[k].1 ≤ (ts.getD (k - 1) (0, 0)).1)) : tFault ts k = 0 := by
  rw [tFault_p hk, if_neg (by rw [h1, h2]; decide), if_neg h]

set_option maxHeartbeats 1600000 in
theorem pCheck_any (v : Value) (ts : List (Int × Int)) (w : World) (h : Sl w 2 v ts.length (tcells ts)) :
    Calls Try.prog 12 #[v] w fun e w' => e = .returned (.int .i64 (tFaults ts)) ∧ Below w.heap.size w w' := by
  have hlen := h.len et_tiers.ht 3
  have hbd := h.bound
  have HH := Lib.hid h
  clear h
  by_cases h0 : ts.length = 0
  · have HR := Lib.hid (show tFaults ts = 9 by unfold tFaults; rw [if_pos h0])
    go_enter Try.func12, Try.ntmps12
    go_wp2_with fail
    go_ret
    exact ⟨by rw [HR.out]; rfl, Below.refl _ _⟩
  by_cases h1 : 10 < ts.length
  · have HR := Lib.hid (show tFaults ts = 2 by unfold tFaults; rw [if_neg h0, if_pos h1])
    go_enter Try.func12, Try.ntmps12
    go_wp2_with fail
    go_ret
    exact ⟨by rw [HR.out]; rfl, Below.refl _ _⟩
  have H0 := Lib.hid h0
  have hne : ((ts.length : Int) == 0) = false := by rw [beq_eq_false_iff_ne]; omega
  have h1' : ts.length ≤ 10 := by omega
  have H1 := Lib.hid h1
  clear h0 h1
  go_enter Try.func12, Try.ntmps12
  go_wp2_with fail
  go_loopw [13] (fun i wr => ∃ k : Nat, k ≤ ts.length ∧ i = .int .i64 k ∧ (∀ j, j < k → tFault ts j = 0) ∧ Below w.heap.size w wr) (fun i _ => ts.length - (intOf i).toNat)
  case atStart => exact ⟨0, Nat.zero_le _, rfl, fun j hj => by omega, Below.refl _ _⟩
  case round =>
    obtain ⟨k, hk, rfl, hzero, hbel⟩ := hrel
    by_cases hlt : k < ts.length
    · have hsl := HH.out.below hbel (Nat.le_refl _)
      obtain ⟨ad, hix, hcells⟩ := hsl.idx et_tiers k (by omega) (by omega)
      rw [Int.toNat_natCast, tcells_at ts k hlt] at hcells
      have hc := Lib.hid hcells
      have hsz := hbel.size
      have HB := Lib.hid hbel
      have HZ0 := Lib.hid hzero
      have HBAD0 := Lib.hid (fun hb => tFaults_bad ts H1.out k hlt hzero hb)
      have HZ1 := Lib.hid (show tFault ts k = 0 → ∀ j, j < k + 1 → tFault ts j = 0 from fun h j hj => by
        by_cases e : j = k
        · rw [e]; exact h
        · exact hzero j (by omega))
      clear hcells hbel hzero
      by_cases hb1 : inB ts[k].1 0 1000000000000 = false
      · have HBAD := Lib.hid (show tFaults ts = 1 by rw [HBAD0.out (by rw [tFault_1 hlt hb1]; decide), tFault_1 hlt hb1])
        have HI1 := Lib.hid hb1
        clear hb1 hsl
        generalize ts[k].1 = f at *
        generalize ts[k].2 = r at *
        go_upto_region 8 with (refine wpList_loadAgg (cs := [.int .i64 f, .int .i64 r]) _ rfl rfl rfl (by kernel_rfl) (by kernel_rfl) hc.out ?_)
        have hq := fun j (x : Value) (hx : (#[.int .i64 f, .int .i64 r] : Array Value)[j]? = some x) => cell_of_row (wr.alloc (.cells #[.int .i64 f, .int .i64 r] 42)) wr.heap.size j #[.int .i64 f, .int .i64 r] 42 (0, 0) (heap_alloc_new wr _)
        have hq0 := hq 0 _ rfl
        have hq1 := hq 1 _ rfl
        have hbw := Lib.hid (HB.out.alloc hsz (.cells #[.int .i64 f, .int .i64 r] 42))
        clear hq
        simp only [List.getElem?_toArray, List.getElem?_cons_zero, List.getElem?_cons_succ] at hq0 hq1
        generalize wr.alloc (.cells #[.int .i64 f, .int .i64 r] 42) = w5 at *
        go_wp2_with fail
        refine (within_any _ _ _ _).mono ?_
        rintro e w' ⟨rfl, rfl⟩
        rw [HI1.out]
        go_wp2_with fail
        go_ret
        exact ⟨by rw [HBAD.out]; rfl, hbw.out⟩
      have hb1' : inB ts[k].1 0 1000000000000 = true := by cases hh : inB ts[k].1 0 1000000000000 <;> simp_all
      clear hb1
      by_cases hb2 : inB ts[k].2 0 10000 = false
      · have HBAD := Lib.hid (show tFaults ts = 1 by rw [HBAD0.out (by rw [tFault_2 hlt hb2]; decide), tFault_2 hlt hb2])
        have HI1 := Lib.hid hb1'
        have HI2 := Lib.hid hb2
        clear hb1' hb2 hsl
        generalize ts[k].1 = f at *
        generalize ts[k].2 = r at *
        go_upto_region 8 with (refine wpList_loadAgg (cs := [.int .i64 f, .int .i64 r]) _ rfl rfl rfl (by kernel_rfl) (by kernel_rfl) hc.out ?_)
        have hq := fun j (x : Value) (hx : (#[.int .i64 f, .int .i64 r] : Array Value)[j]? = some x) => cell_of_row (wr.alloc (.cells #[.int .i64 f, .int .i64 r] 42)) wr.heap.size j #[.int .i64 f, .int .i64 r] 42 (0, 0) (heap_alloc_new wr _)
        have hq0 := hq 0 _ rfl
        have hq1 := hq 1 _ rfl
        have hbw := Lib.hid (HB.out.alloc hsz (.cells #[.int .i64 f, .int .i64 r] 42))
        clear hq
        simp only [List.getElem?_toArray, List.getElem?_cons_zero, List.getElem?_cons_succ] at hq0 hq1
        generalize wr.alloc (.cells #[.int .i64 f, .int .i64 r] 42) = w5 at *
        go_wp2_with fail
        refine (within_any _ _ _ _).mono ?_
        rintro e w' ⟨rfl, rfl⟩
        rw [HI1.out]
        go_wp2_with fail
        refine (within_any _ _ _ _).mono ?_
        rintro e w' ⟨rfl, rfl⟩
        rw [HI2.out]
        go_wp2_with fail
        go_ret
        exact ⟨by rw [HBAD.out]; rfl, hbw.out⟩
      have hb2' : inB ts[k].2 0 10000 = true := by cases hh : inB ts[k].2 0 10000 <;> simp_all
      clear hb2
      rcases Nat.eq_zero_or_pos k with hk0 | hpos
      · have hkz : ((k : Int) == 0) = true := by simp [hk0]
        have hkd : decide (0 < k) = false := by simp [hk0]
        by_cases hf : ts[k].1 = 0
        · have HZ := Lib.hid (HZ1.out (tFault_0 hlt hb1' hb2' (by rintro (⟨_, h⟩ | ⟨h, _⟩); exact h hf; omega)))
          have HI1 := Lib.hid hb1'
          have HI2 := Lib.hid hb2'
          have hfn : (ts[k].1 != 0) = false := by simp [hf]
          clear hb1' hb2' hsl hf hk0
          generalize ts[k].1 = f at *
          generalize ts[k].2 = r at *
          go_upto_region 8 with (refine wpList_loadAgg (cs := [.int .i64 f, .int .i64 r]) _ rfl rfl rfl (by kernel_rfl) (by kernel_rfl) hc.out ?_)
          have hq := fun j (x : Value) (hx : (#[.int .i64 f, .int .i64 r] : Array Value)[j]? = some x) => cell_of_row (wr.alloc (.cells #[.int .i64 f, .int .i64 r] 42)) wr.heap.size j #[.int .i64 f, .int .i64 r] 42 (0, 0) (heap_alloc_new wr _)
          have hq0 := hq 0 _ rfl
          have hq1 := hq 1 _ rfl
          have hbw := Lib.hid (HB.out.alloc hsz (.cells #[.int .i64 f, .int .i64 r] 42))
          clear hq
          simp only [List.getElem?_toArray, List.getElem?_cons_zero, List.getElem?_cons_succ] at hq0 hq1
          generalize wr.alloc (.cells #[.int .i64 f, .int .i64 r] 42) = w5 at *
          go_wp2_with fail
          refine (within_any _ _ _ _).mono ?_
          rintro e w' ⟨rfl, rfl⟩
          rw [HI1.out]
          go_wp2_with fail
          refine (within_any _ _ _ _).mono ?_
          rintro e w' ⟨rfl, rfl⟩
          rw [HI2.out]
          go_wp2_with fail
          go_quiet (fail)
          go_wp2_with fail
          go_roundw
          case rel => exact ⟨k + 1, by omega, by go_num, HZ.out, hbw.out.drewN _⟩
          case measure => simp [intOf]; omega
        · have HBAD := Lib.hid (show tFaults ts = 8 by
            have h8 := tFault_8 hlt hb1' hb2' (Or.inl ⟨hk0, hf⟩)
            rw [HBAD0.out (by rw [h8]; decide), h8])
          have HI1 := Lib.hid hb1'
          have HI2 := Lib.hid hb2'
          have hfn : (ts[k].1 != 0) = true := by simp [hf]
          clear hb1' hb2' hsl hf hk0
          generalize ts[k].1 = f at *
          generalize ts[k].2 = r at *
          go_upto_region 8 with (refine wpList_loadAgg (cs := [.int .i64 f, .int .i64 r]) _ rfl rfl rfl (by kernel_rfl) (by kernel_rfl) hc.out ?_)
          have hq := fun j (x : Value) (hx : (#[.int .i64 f, .int .i64 r] : Array Value)[j]? = some x) => cell_of_row (wr.alloc (.cells #[.int .i64 f, .int .i64 r] 42)) wr.heap.size j #[.int .i64 f, .int .i64 r] 42 (0, 0) (heap_alloc_new wr _)
          have hq0 := hq 0 _ rfl
          have hq1 := hq 1 _ rfl
          have hbw := Lib.hid (HB.out.alloc hsz (.cells #[.int .i64 f, .int .i64 r] 42))
          clear hq
          simp only [List.getElem?_toArray, List.getElem?_cons_zero, List.getElem?_cons_succ] at hq0 hq1
          generalize wr.alloc (.cells #[.int .i64 f, .int .i64 r] 42) = w5 at *
          go_wp2_with fail
          refine (within_any _ _ _ _).mono ?_
          rintro e w' ⟨rfl, rfl⟩
          rw [HI1.out]
          go_wp2_with fail
          refine (within_any _ _ _ _).mono ?_
          rintro e w' ⟨rfl, rfl⟩
          rw [HI2.out]
          go_wp2_with fail
          go_quiet (fail)
          go_wp2_with fail
          go_ret
          exact ⟨by rw [HBAD.out]; rfl, hbw.out.drewN _⟩
      · obtain ⟨ad2, hix2, hcells2⟩ := hsl.idx et_tiers ((k - 1 : Nat) : Int) (by omega) (by omega)
        have hk1 : k - 1 < ts.length := by omega
        rw [Int.toNat_natCast, tcells_at ts (k - 1) hk1] at hcells2
        have hc2 := Lib.hid hcells2
        have hks : ((k - 1 : Nat) : Int) = (k : Int) - 1 := by omega
        rw [hks] at hix2
        have hkz : ((k : Int) == 0) = false := by rw [beq_eq_false_iff_ne]; omega
        have hkp : (0 : Int) < (k : Int) := by omega
        have hgd := getD_at ts (k - 1) hk1
        by_cases hf : ts[k].1 ≤ ts[k - 1].1
        · have HBAD := Lib.hid (show tFaults ts = 8 by
            have h8 := tFault_8 hlt hb1' hb2' (Or.inr ⟨hpos, by rw [hgd]; exact hf⟩)
            rw [HBAD0.out (by rw [h8]; decide), h8])
          have HI1 := Lib.hid hb1'
          have HI2 := Lib.hid hb2'
          clear hb1' hb2' hsl hcells2 hgd hks
          generalize ts[k - 1].1 = pf at *
          generalize ts[k].1 = f at *
          generalize ts[k].2 = r at *
          go_upto_region 8 with (refine wpList_loadAgg (cs := [.int .i64 f, .int .i64 r]) _ rfl rfl rfl (by kernel_rfl) (by kernel_rfl) hc.out ?_)
          have hq := fun j (x : Value) (hx : (#[.int .i64 f, .int .i64 r] : Array Value)[j]? = some x) => cell_of_row (wr.alloc (.cells #[.int .i64 f, .int .i64 r] 42)) wr.heap.size j #[.int .i64 f, .int .i64 r] 42 (0, 0) (heap_alloc_new wr _)
          have hq0 := hq 0 _ rfl
          have hq1 := hq 1 _ rfl
          have hbw := Lib.hid (HB.out.alloc hsz (.cells #[.int .i64 f, .int .i64 r] 42))
          clear hq
          simp only [List.getElem?_toArray, List.getElem?_cons_zero, List.getElem?_cons_succ] at hq0 hq1
          have hnx := cell_behind ((Below.refl wr.heap.size wr).alloc (Nat.le_refl _) (.cells #[.int .i64 f, .int .i64 r] 42)) hc2.out.two.1
          generalize wr.alloc (.cells #[.int .i64 f, .int .i64 r] 42) = w5 at *
          go_wp2_with fail
          refine (within_any _ _ _ _).mono ?_
          rintro e w' ⟨rfl, rfl⟩
          rw [HI1.out]
          go_wp2_with fail
          refine (within_any _ _ _ _).mono ?_
          rintro e w' ⟨rfl, rfl⟩
          rw [HI2.out]
          go_wp2_with fail
          go_quiet (fail)
          go_wp2_with fail
          go_ret
          exact ⟨by rw [HBAD.out]; rfl, hbw.out.drewN _⟩
        · have HZ := Lib.hid (HZ1.out (tFault_0 hlt hb1' hb2' (by rintro (⟨h, _⟩ | ⟨_, h⟩); omega; rw [hgd] at h; exact hf h)))
          have HI1 := Lib.hid hb1'
          have HI2 := Lib.hid hb2'
          clear hb1' hb2' hsl hcells2 hgd hks
          generalize ts[k - 1].1 = pf at *
          generalize ts[k].1 = f at *
          generalize ts[k].2 = r at *
          go_upto_region 8 with (refine wpList_loadAgg (cs := [.int .i64 f, .int .i64 r]) _ rfl rfl rfl (by kernel_rfl) (by kernel_rfl) hc.out ?_)
          have hq := fun j (x : Value) (hx : (#[.int .i64 f, .int .i64 r] : Array Value)[j]? = some x) => cell_of_row (wr.alloc (.cells #[.int .i64 f, .int .i64 r] 42)) wr.heap.size j #[.int .i64 f, .int .i64 r] 42 (0, 0) (heap_alloc_new wr _)
          have hq0 := hq 0 _ rfl
          have hq1 := hq 1 _ rfl
          have hbw := Lib.hid (HB.out.alloc hsz (.cells #[.int .i64 f, .int .i64 r] 42))
          clear hq
          simp only [List.getElem?_toArray, List.getElem?_cons_zero, List.getElem?_cons_succ] at hq0 hq1
          have hnx := cell_behind ((Below.refl wr.heap.size wr).alloc (Nat.le_refl _) (.cells #[.int .i64 f, .int .i64 r] 42)) hc2.out.two.1
          generalize wr.alloc (.cells #[.int .i64 f, .int .i64 r] 42) = w5 at *
          go_wp2_with fail
          refine (within_any _ _ _ _).mono ?_
          rintro e w' ⟨rfl, rfl⟩
          rw [HI1.out]
          go_wp2_with fail
          refine (within_any _ _ _ _).mono ?_
          rintro e w' ⟨rfl, rfl⟩
          rw [HI2.out]
          go_wp2_with fail
          go_quiet (fail)
          go_wp2_with fail
          go_roundw
          case rel => exact ⟨k + 1, by omega, by go_num, HZ.out, hbw.out.drewN _⟩
          case measure => simp [intOf]; omega
    · have e : k = ts.length := by omega
      subst e
      have HBe := Lib.hid hbel
      have HR := Lib.hid (tFaults_ok ts H0.out H1.out hzero)
      clear hbel hzero
      go_wp2_with fail
      go_ret
      exact ⟨by rw [HR.out]; rfl, HBe.out⟩

set_option maxHeartbeats 1600000 in
theorem rCheck_any (v : Value) (ts : List (Int × Int)) (w : World) (h : Sl w 2 v ts.length (tcells ts)) :
    Calls Try.prog 13 #[v] w fun e w' => e = .returned (.int .i64 (tFaults ts)) ∧ Below w.heap.size w w' := by
  have hlen := h.len et_tiers.ht 3
  have hbd := h.bound
  have HH := Lib.hid h
  clear h
  by_cases h0 : ts.length = 0
  · have HR := Lib.hid (show tFaults ts = 9 by unfold tFaults; rw [if_pos h0])
    go_enter Try.func13, Try.ntmps13
    go_wp2_with fail
    go_ret
    exact ⟨by rw [HR.out]; rfl, Below.refl _ _⟩
  by_cases h1 : 10 < ts.length
  · have HR := Lib.hid (show tFaults ts = 2 by unfold tFaults; rw [if_neg h0, if_pos h1])
    go_enter Try.func13, Try.ntmps13
    go_wp2_with fail
    go_ret
    exact ⟨by rw [HR.out]; rfl, Below.refl _ _⟩
  have H0 := Lib.hid h0
  have hne : ((ts.length : Int) == 0) = false := by rw [beq_eq_false_iff_ne]; omega
  have h1' : ts.length ≤ 10 := by omega
  have H1 := Lib.hid h1
  clear h0 h1
  go_enter Try.func13, Try.ntmps13
  go_wp2_with fail
  go_loopw [13] (fun i wr => ∃ k : Nat, k ≤ ts.length ∧ i = .int .i64 k ∧ (∀ j, j < k → tFault ts j = 0) ∧ Below w.heap.size w wr) (fun i _ => ts.length - (intOf i).toNat)
  case atStart => exact ⟨0, Nat.zero_le _, rfl, fun j hj => by omega, Below.refl _ _⟩
  case round =>
    obtain ⟨k, hk, rfl, hzero, hbel⟩ := hrel
    by_cases hlt : k < ts.length
    · have hsl := HH.out.below hbel (Nat.le_refl _)
      obtain ⟨ad, hix, hcells⟩ := hsl.idx et_tiers k (by omega) (by omega)
      rw [Int.toNat_natCast, tcells_at ts k hlt] at hcells
      have hc := Lib.hid hcells
      have hsz := hbel.size
      have HB := Lib.hid hbel
      have HZ0 := Lib.hid hzero
      have HBAD0 := Lib.hid (fun hb => tFaults_bad ts H1.out k hlt hzero hb)
      have HZ1 := Lib.hid (show tFault ts k = 0 → ∀ j, j < k + 1 → tFault ts j = 0 from fun h j hj => by
        by_cases e : j = k
        · rw [e]; exact h
        · exact hzero j (by omega))
      clear hcells hbel hzero
      by_cases hb1 : inB ts[k].1 0 1000000000000 = false
      · have HBAD := Lib.hid (show tFaults ts = 1 by rw [HBAD0.out (by rw [tFault_1 hlt hb1]; decide), tFault_1 hlt hb1])
        have HI1 := Lib.hid hb1
        clear hb1 hsl
        generalize ts[k].1 = f at *
        generalize ts[k].2 = r at *
        go_upto_region 8 with (refine wpList_loadAgg (cs := [.int .i64 f, .int .i64 r]) _ rfl rfl rfl (by kernel_rfl) (by kernel_rfl) hc.out ?_)
        have hq := fun j (x : Value) (hx : (#[.int .i64 f, .int .i64 r] : Array Value)[j]? = some x) => cell_of_row (wr.alloc (.cells #[.int .i64 f, .int .i64 r] 42)) wr.heap.size j #[.int .i64 f, .int .i64 r] 42 (0, 0) (heap_alloc_new wr _)
        have hq0 := hq 0 _ rfl
        have hq1 := hq 1 _ rfl
        have hbw := Lib.hid (HB.out.alloc hsz (.cells #[.int .i64 f, .int .i64 r] 42))
        clear hq
        simp only [List.getElem?_toArray, List.getElem?_cons_zero, List.getElem?_cons_succ] at hq0 hq1
        generalize wr.alloc (.cells #[.int .i64 f, .int .i64 r] 42) = w5 at *
        go_wp2_with fail
        refine (rwithin_any _ _ _ _).mono ?_
        rintro e w' ⟨rfl, rfl⟩
        rw [HI1.out]
        go_wp2_with fail
        go_ret
        exact ⟨by rw [HBAD.out]; rfl, hbw.out⟩
      have hb1' : inB ts[k].1 0 1000000000000 = true := by cases hh : inB ts[k].1 0 1000000000000 <;> simp_all
      clear hb1
      by_cases hb2 : inB ts[k].2 0 10000 = false
      · have HBAD := Lib.hid (show tFaults ts = 1 by rw [HBAD0.out (by rw [tFault_2 hlt hb2]; decide), tFault_2 hlt hb2])
        have HI1 := Lib.hid hb1'
        have HI2 := Lib.hid hb2
        clear hb1' hb2 hsl
        generalize ts[k].1 = f at *
        generalize ts[k].2 = r at *
        go_upto_region 8 with (refine wpList_loadAgg (cs := [.int .i64 f, .int .i64 r]) _ rfl rfl rfl (by kernel_rfl) (by kernel_rfl) hc.out ?_)
        have hq := fun j (x : Value) (hx : (#[.int .i64 f, .int .i64 r] : Array Value)[j]? = some x) => cell_of_row (wr.alloc (.cells #[.int .i64 f, .int .i64 r] 42)) wr.heap.size j #[.int .i64 f, .int .i64 r] 42 (0, 0) (heap_alloc_new wr _)
        have hq0 := hq 0 _ rfl
        have hq1 := hq 1 _ rfl
        have hbw := Lib.hid (HB.out.alloc hsz (.cells #[.int .i64 f, .int .i64 r] 42))
        clear hq
        simp only [List.getElem?_toArray, List.getElem?_cons_zero, List.getElem?_cons_succ] at hq0 hq1
        generalize wr.alloc (.cells #[.int .i64 f, .int .i64 r] 42) = w5 at *
        go_wp2_with fail
        refine (rwithin_any _ _ _ _).mono ?_
        rintro e w' ⟨rfl, rfl⟩
        rw [HI1.out]
        go_wp2_with fail
        refine (rwithin_any _ _ _ _).mono ?_
        rintro e w' ⟨rfl, rfl⟩
        rw [HI2.out]
        go_wp2_with fail
        go_ret
        exact ⟨by rw [HBAD.out]; rfl, hbw.out⟩
      have hb2' : inB ts[k].2 0 10000 = true := by cases hh : inB ts[k].2 0 10000 <;> simp_all
      clear hb2
      rcases Nat.eq_zero_or_pos k with hk0 | hpos
      · have hkz : ((k : Int) == 0) = true := by simp [hk0]
        have hkd : decide (0 < k) = false := by simp [hk0]
        by_cases hf : ts[k].1 = 0
        · have HZ := Lib.hid (HZ1.out (tFault_0 hlt hb1' hb2' (by rintro (⟨_, h⟩ | ⟨h, _⟩); exact h hf; omega)))
          have HI1 := Lib.hid hb1'
          have HI2 := Lib.hid hb2'
          have hfn : (ts[k].1 != 0) = false := by simp [hf]
          clear hb1' hb2' hsl hf hk0
          generalize ts[k].1 = f at *
          generalize ts[k].2 = r at *
          go_upto_region 8 with (refine wpList_loadAgg (cs := [.int .i64 f, .int .i64 r]) _ rfl rfl rfl (by kernel_rfl) (by kernel_rfl) hc.out ?_)
          have hq := fun j (x : Value) (hx : (#[.int .i64 f, .int .i64 r] : Array Value)[j]? = some x) => cell_of_row (wr.alloc (.cells #[.int .i64 f, .int .i64 r] 42)) wr.heap.size j #[.int .i64 f, .int .i64 r] 42 (0, 0) (heap_alloc_new wr _)
          have hq0 := hq 0 _ rfl
          have hq1 := hq 1 _ rfl
          have hbw := Lib.hid (HB.out.alloc hsz (.cells #[.int .i64 f, .int .i64 r] 42))
          clear hq
          simp only [List.getElem?_toArray, List.getElem?_cons_zero, List.getElem?_cons_succ] at hq0 hq1
          generalize wr.alloc (.cells #[.int .i64 f, .int .i64 r] 42) = w5 at *
          go_wp2_with fail
          refine (rwithin_any _ _ _ _).mono ?_
          rintro e w' ⟨rfl, rfl⟩
          rw [HI1.out]
          go_wp2_with fail
          refine (rwithin_any _ _ _ _).mono ?_
          rintro e w' ⟨rfl, rfl⟩
          rw [HI2.out]
          go_wp2_with fail
          go_quiet (fail)
          go_wp2_with fail
          go_roundw
          case rel => exact ⟨k + 1, by omega, by go_num, HZ.out, hbw.out.drewN _⟩
          case measure => simp [intOf]; omega
        · have HBAD := Lib.hid (show tFaults ts = 8 by
            have h8 := tFault_8 hlt hb1' hb2' (Or.inl ⟨hk0, hf⟩)
            rw [HBAD0.out (by rw [h8]; decide), h8])
          have HI1 := Lib.hid hb1'
          have HI2 := Lib.hid hb2'
          have hfn : (ts[k].1 != 0) = true := by simp [hf]
          clear hb1' hb2' hsl hf hk0
          generalize ts[k].1 = f at *
          generalize ts[k].2 = r at *
          go_upto_region 8 with (refine wpList_loadAgg (cs := [.int .i64 f, .int .i64 r]) _ rfl rfl rfl (by kernel_rfl) (by kernel_rfl) hc.out ?_)
          have hq := fun j (x : Value) (hx : (#[.int .i64 f, .int .i64 r] : Array Value)[j]? = some x) => cell_of_row (wr.alloc (.cells #[.int .i64 f, .int .i64 r] 42)) wr.heap.size j #[.int .i64 f, .int .i64 r] 42 (0, 0) (heap_alloc_new wr _)
          have hq0 := hq 0 _ rfl
          have hq1 := hq 1 _ rfl
          have hbw := Lib.hid (HB.out.alloc hsz (.cells #[.int .i64 f, .int .i64 r] 42))
          clear hq
          simp only [List.getElem?_toArray, List.getElem?_cons_zero, List.getElem?_cons_succ] at hq0 hq1
          generalize wr.alloc (.cells #[.int .i64 f, .int .i64 r] 42) = w5 at *
          go_wp2_with fail
          refine (rwithin_any _ _ _ _).mono ?_
          rintro e w' ⟨rfl, rfl⟩
          rw [HI1.out]
          go_wp2_with fail
          refine (rwithin_any _ _ _ _).mono ?_
          rintro e w' ⟨rfl, rfl⟩
          rw [HI2.out]
          go_wp2_with fail
          go_quiet (fail)
          go_wp2_with fail
          go_ret
          exact ⟨by rw [HBAD.out]; rfl, hbw.out.drewN _⟩
      · obtain ⟨ad2, hix2, hcells2⟩ := hsl.idx et_tiers ((k - 1 : Nat) : Int) (by omega) (by omega)
        have hk1 : k - 1 < ts.length := by omega
        rw [Int.toNat_natCast, tcells_at ts (k - 1) hk1] at hcells2
        have hc2 := Lib.hid hcells2
        have hks : ((k - 1 : Nat) : Int) = (k : Int) - 1 := by omega
        rw [hks] at hix2
        have hkz : ((k : Int) == 0) = false := by rw [beq_eq_false_iff_ne]; omega
        have hkp : (0 : Int) < (k : Int) := by omega
        have hgd := getD_at ts (k - 1) hk1
        by_cases hf : ts[k].1 ≤ ts[k - 1].1
        · have HBAD := Lib.hid (show tFaults ts = 8 by
            have h8 := tFault_8 hlt hb1' hb2' (Or.inr ⟨hpos, by rw [hgd]; exact hf⟩)
            rw [HBAD0.out (by rw [h8]; decide), h8])
          have HI1 := Lib.hid hb1'
          have HI2 := Lib.hid hb2'
          clear hb1' hb2' hsl hcells2 hgd hks
          generalize ts[k - 1].1 = pf at *
          generalize ts[k].1 = f at *
          generalize ts[k].2 = r at *
          go_upto_region 8 with (refine wpList_loadAgg (cs := [.int .i64 f, .int .i64 r]) _ rfl rfl rfl (by kernel_rfl) (by kernel_rfl) hc.out ?_)
          have hq := fun j (x : Value) (hx : (#[.int .i64 f, .int .i64 r] : Array Value)[j]? = some x) => cell_of_row (wr.alloc (.cells #[.int .i64 f, .int .i64 r] 42)) wr.heap.size j #[.int .i64 f, .int .i64 r] 42 (0, 0) (heap_alloc_new wr _)
          have hq0 := hq 0 _ rfl
          have hq1 := hq 1 _ rfl
          have hbw := Lib.hid (HB.out.alloc hsz (.cells #[.int .i64 f, .int .i64 r] 42))
          clear hq
          simp only [List.getElem?_toArray, List.getElem?_cons_zero, List.getElem?_cons_succ] at hq0 hq1
          have hnx := cell_behind ((Below.refl wr.heap.size wr).alloc (Nat.le_refl _) (.cells #[.int .i64 f, .int .i64 r] 42)) hc2.out.two.1
          generalize wr.alloc (.cells #[.int .i64 f, .int .i64 r] 42) = w5 at *
          go_wp2_with fail
          refine (rwithin_any _ _ _ _).mono ?_
          rintro e w' ⟨rfl, rfl⟩
          rw [HI1.out]
          go_wp2_with fail
          refine (rwithin_any _ _ _ _).mono ?_
          rintro e w' ⟨rfl, rfl⟩
          rw [HI2.out]
          go_wp2_with fail
          go_quiet (fail)
          go_wp2_with fail
          go_ret
          exact ⟨by rw [HBAD.out]; rfl, hbw.out.drewN _⟩
        · have HZ := Lib.hid (HZ1.out (tFault_0 hlt hb1' hb2' (by rintro (⟨h, _⟩ | ⟨_, h⟩); omega; rw [hgd] at h; exact hf h)))
          have HI1 := Lib.hid hb1'
          have HI2 := Lib.hid hb2'
          clear hb1' hb2' hsl hcells2 hgd hks
          generalize ts[k - 1].1 = pf at *
          generalize ts[k].1 = f at *
          generalize ts[k].2 = r at *
          go_upto_region 8 with (refine wpList_loadAgg (cs := [.int .i64 f, .int .i64 r]) _ rfl rfl rfl (by kernel_rfl) (by kernel_rfl) hc.out ?_)
          have hq := fun j (x : Value) (hx : (#[.int .i64 f, .int .i64 r] : Array Value)[j]? = some x) => cell_of_row (wr.alloc (.cells #[.int .i64 f, .int .i64 r] 42)) wr.heap.size j #[.int .i64 f, .int .i64 r] 42 (0, 0) (heap_alloc_new wr _)
          have hq0 := hq 0 _ rfl
          have hq1 := hq 1 _ rfl
          have hbw := Lib.hid (HB.out.alloc hsz (.cells #[.int .i64 f, .int .i64 r] 42))
          clear hq
          simp only [List.getElem?_toArray, List.getElem?_cons_zero, List.getElem?_cons_succ] at hq0 hq1
          have hnx := cell_behind ((Below.refl wr.heap.size wr).alloc (Nat.le_refl _) (.cells #[.int .i64 f, .int .i64 r] 42)) hc2.out.two.1
          generalize wr.alloc (.cells #[.int .i64 f, .int .i64 r] 42) = w5 at *
          go_wp2_with fail
          refine (rwithin_any _ _ _ _).mono ?_
          rintro e w' ⟨rfl, rfl⟩
          rw [HI1.out]
          go_wp2_with fail
          refine (rwithin_any _ _ _ _).mono ?_
          rintro e w' ⟨rfl, rfl⟩
          rw [HI2.out]
          go_wp2_with fail
          go_quiet (fail)
          go_wp2_with fail
          go_roundw
          case rel => exact ⟨k + 1, by omega, by go_num, HZ.out, hbw.out.drewN _⟩
          case measure => simp [intOf]; omega
    · have e : k = ts.length := by omega
      subst e
      have HBe := Lib.hid hbel
      have HR := Lib.hid (tFaults_ok ts H0.out H1.out hzero)
      clear hbel hzero
      go_wp2_with fail
      go_ret
      exact ⟨by rw [HR.out]; rfl, HBe.out⟩
end Go.Proofs.Ytpihcfpdaoflbaa
