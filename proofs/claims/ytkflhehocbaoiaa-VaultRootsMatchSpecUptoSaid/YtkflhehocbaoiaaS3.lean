/- slices.Equal at []uint32; the errors of Sums (reference); the law VaultSumsMatchSpec, walked. -/
import Derived.Test.YtkflhehocbaoiaaS2
namespace Go.Proofs.Ytkflhehocbaoiaa
open Go.RowKit
attribute [local go_sem ↓] run_min_kept run_max_kept

set_option maxHeartbeats 400000 in
theorem eqU32_any (v1 v2 : Value) (l1 l2 : List Nat) (w : World) (h1 : Sl w 1 v1 l1.length (u32s l1)) (h2 : Sl w 1 v2 l2.length (u32s l2)) :
    Calls Try.prog 10 #[v1, v2] w fun e w' => e = .returned (.bool (decide (l1 = l2))) ∧ Below w.heap.size w w' := by
  have hb1 := h1.bound
  have hlen1 := h1.len et_u32s.ht 3
  have hlen2 := h2.len et_u32s.ht 3
  have H1 := Lib.hid h1
  have H2 := Lib.hid h2
  clear h1 h2
  by_cases hn : l1.length = l2.length
  · have HN := Lib.hid hn
    rw [← hn] at hlen2
    clear hn
    go_enter Try.func10, Try.ntmps10
    go_wp2
    go_loopw [13] (fun i wr => ∃ k : Nat, k ≤ l1.length ∧ i = .int .i64 k ∧ l1.take k = l2.take k ∧ Below w.heap.size w wr) (fun i _ => l1.length - (intOf i).toNat)
    case atStart => exact ⟨0, Nat.zero_le _, rfl, rfl, Below.refl _ _⟩
    case round =>
      obtain ⟨k, hk, rfl, htk, hbel⟩ := hrel
      have HE := Lib.hid hbel
      have HT := Lib.hid htk
      clear hbel htk
      by_cases hlt : k < l1.length
      · have hlt2 : k < l2.length := by rw [← HN.out]; exact hlt
        obtain ⟨ad1, hix1, hcell1⟩ := (H1.out.below HE.out (Nat.le_refl _)).idx1 et_u32s k (by omega) (by omega)
        obtain ⟨ad2, hix2, hcell2⟩ := (H2.out.below HE.out (Nat.le_refl _)).idx1 et_u32s k (by omega) (by omega)
        rw [Int.toNat_natCast, u32s_getD l1 k hlt] at hcell1
        rw [Int.toNat_natCast, u32s_getD l2 k hlt2] at hcell2
        by_cases he : l1[k] = l2[k]
        · have hne : (((l1[k] : Nat) : Int) != ((l2[k] : Nat) : Int)) = false := by simp [he]
          have HQ := Lib.hid he
          clear he
          go_wp2
          go_quiet (fail)
          go_wp2
          go_roundw
          case rel => exact ⟨k + 1, by omega, by go_num, by rw [take_snoc l1 k hlt, take_snoc l2 k hlt2, HT.out, HQ.out], HE.out.drewN _⟩
          case measure => simp [intOf]; omega
        · have hne : (((l1[k] : Nat) : Int) != ((l2[k] : Nat) : Int)) = true := by simp; omega
          have HQ := Lib.hid (show decide (l1 = l2) = false by
            simp only [decide_eq_false_iff_not]
            intro h
            subst h
            exact he rfl)
          clear he
          go_wp2
          go_quiet (fail)
          go_wp2
          go_ret
          exact ⟨by rw [HQ.out]; rfl, HE.out.drewN _⟩
      · have e : k = l1.length := by omega
        subst e
        have HQ := Lib.hid (show decide (l1 = l2) = true by
          have := HT.out
          rw [List.take_length, HN.out, List.take_length] at this
          simpa using this)
        go_wp2
        go_ret
        exact ⟨by rw [HQ.out]; rfl, HE.out⟩
  · have hne : (((l1.length : Nat) : Int) != ((l2.length : Nat) : Int)) = true := by simp; omega
    have HQ := Lib.hid (show decide (l1 = l2) = false by
      simp only [decide_eq_false_iff_not]
      intro h
      exact hn (by rw [h]))
    clear hn
    go_enter Try.func10, Try.ntmps10
    go_wp2
    go_ret
    exact ⟨by rw [HQ.out]; rfl, Below.refl _ _⟩

/-- Too many bytes. -/
theorem rSums_large (v : Value) (l : List UInt8) (b : Int) (w : World) (h : Sl w 1 v l.length (u8s l)) (hn : 20000 < l.length) :
    Calls Try.prog 7 #[v, .int .i64 b] w fun e w' => e = .returned (.tuple #[.slice none 0 0, .int .i64 2]) ∧ w = w' := by
  have hlen := h.len et_u8s.ht 3
  have hb := h.bound
  clear h
  go_enter Try.func7, Try.ntmps7
  go_wp2
  go_ret2
  exact ⟨rfl, rfl⟩

/-- A block that is none. -/
theorem rSums_range (v : Value) (l : List UInt8) (b : Int) (w : World) (h : Sl w 1 v l.length (u8s l)) (hn : l.length ≤ 20000) (hr : b < 1 ∨ 20000 < b) :
    Calls Try.prog 7 #[v, .int .i64 b] w fun e w' => e = .returned (.tuple #[.slice none 0 0, .int .i64 1]) ∧ w = w' := by
  have hlen := h.len et_u8s.ht 3
  clear h
  have hin := Lib.hid (show inB b 1 20000 = false by simp [inB]; omega)
  clear hr
  go_enter Try.func7, Try.ntmps7
  go_wp2_with fail
  refine (within_any _ _ _ _).mono ?_
  rintro e w' ⟨rfl, rfl⟩
  rw [hin.out]
  go_wp2
  go_ret2
  exact ⟨rfl, rfl⟩

/-- What both say. -/
structure SumsSay (w w' : World) (e : Ending) (l : List Nat) (f : Int) : Prop where
  ex : ∃ v', e = .returned (.tuple #[v', .int .i64 f]) ∧ Sl w' 1 v' l.length (u32s l)
  below : Below w.heap.size w w'

theorem vSums_any (v : Value) (l : List UInt8) (b : Int) (w : World) (h : Sl w 1 v l.length (u8s l)) :
    ∃ (s : List Nat) (f : Int), Calls Try.prog 6 #[v, .int .i64 b] w (fun e w' => SumsSay w w' e s f) ∧
      ∀ w2, Sl w2 1 v l.length (u8s l) → Calls Try.prog 7 #[v, .int .i64 b] w2 (fun e w' => SumsSay w2 w' e s f) := by
  by_cases hn : 20000 < l.length
  · refine ⟨[], 2, (vSums_large v l b w h hn).mono ?_, fun w2 h2 => (rSums_large v l b w2 h2 hn).mono ?_⟩
    all_goals (rintro e w' ⟨rfl, rfl⟩; exact ⟨⟨_, rfl, Sl.nil _ _⟩, Below.refl _ _⟩)
  · by_cases hr : b < 1 ∨ 20000 < b
    · refine ⟨[], 1, (vSums_range v l b w h (by omega) hr).mono ?_, fun w2 h2 => (rSums_range v l b w2 h2 (by omega) hr).mono ?_⟩
      all_goals (rintro e w' ⟨rfl, rfl⟩; exact ⟨⟨_, rfl, Sl.nil _ _⟩, Below.refl _ _⟩)
    · obtain ⟨B, rfl⟩ := Int.eq_ofNat_of_zero_le (show 0 ≤ b by omega)
      refine ⟨sumsTo l B (nblk l.length B), 0, (vSums_ok v l B w h (by omega) (by omega) (by omega)).mono ?_, fun w2 h2 => (rSums_ok v l B w2 h2 (by omega) (by omega) (by omega)).mono ?_⟩
      all_goals (rintro e w' ⟨v', rfl, ho, hb⟩; exact ⟨⟨_, rfl, by rw [sumsTo_length]; exact .ofOwns ho⟩, hb⟩)

set_option maxHeartbeats 400000 in
theorem lawSums (v : Value) (l : List UInt8) (b : Int) (w : World) (h : Sl w 1 v l.length (u8s l)) :
    Calls Try.prog 3 #[v, .int .i64 b] w fun e w' => e = .returned (.bool true) ∧ Below w.heap.size w w' := by
  obtain ⟨s, f, hv, hr⟩ := vSums_any v l b w h
  have HV := Lib.hid hv
  have HR := Lib.hid hr
  have H := Lib.hid h
  clear hv hr h
  go_enter Try.func3, Try.ntmps3
  go_wp2_with fail
  refine HV.out.mono ?_
  rintro e w1 ⟨⟨v1, rfl, hs1⟩, hb1⟩
  have H1 := Lib.hid (H.out.below hb1 (Nat.le_refl _))
  have HB1 := Lib.hid hb1
  have HS1 := Lib.hid hs1
  clear hb1 hs1
  go_wp2_with fail
  refine (HR.out _ H1.out).mono ?_
  rintro e w2 ⟨⟨v2, rfl, hs2⟩, hb2⟩
  have H2 := Lib.hid (H1.out.below hb2 (Nat.le_refl _))
  have HS12 := Lib.hid (HS1.out.below hb2 (Nat.le_refl _))
  have HB2 := Lib.hid (HB1.out.trans (hb2.mono HB1.out.size))
  have HS2 := Lib.hid hs2
  clear hb2 hs2
  go_wp2_with fail
  refine (vSum_any _ l _ H2.out).mono ?_
  rintro e w' ⟨rfl, rfl⟩
  go_wp2_with fail
  refine (rSum_any _ l _ H2.out).mono ?_
  rintro e w' ⟨rfl, rfl⟩
  go_wp2_with fail
  refine (eqU32_any _ _ s s _ HS12.out HS2.out).mono ?_
  rintro e w3 ⟨rfl, hb3⟩
  have HB3 := Lib.hid (HB2.out.trans (hb3.mono HB2.out.size))
  clear hb3
  go_wp2
  go_ret
  exact ⟨rfl, HB3.out⟩
end Go.Proofs.Ytkflhehocbaoiaa
