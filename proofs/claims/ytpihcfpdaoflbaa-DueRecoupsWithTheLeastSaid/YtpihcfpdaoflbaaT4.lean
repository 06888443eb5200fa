/- The laws DueTiersMatchSpec and DueRecoupsWithTheLeast, walked. -/
import Derived.Test.YtpihcfpdaoflbaaT3
namespace Go.Proofs.Ytpihcfpdaoflbaa
open Go.RowKit
attribute [local go_sem ↓] run_min_kept run_max_kept

theorem EarnedOf.unique {ts : List (Int × Int)} {m n f n' f' : Int} (h : EarnedOf ts m n f) (h' : EarnedOf ts m n' f') : n = n' ∧ f = f' := by
  unfold EarnedOf at h h'
  split at h
  · rename_i hc; rw [if_pos hc] at h'; omega
  · rename_i hc
    rw [if_neg hc] at h'
    split at h
    · rename_i hd; rw [if_pos hd] at h'; omega
    · rename_i hd; rw [if_neg hd] at h'; omega
theorem RecOf.unique {ts : List (Int × Int)} {c n f n' f' : Int} {b b' : Bool} (h : RecOf ts c n b f) (h' : RecOf ts c n' b' f') : n = n' ∧ b = b' ∧ f = f' := by
  unfold RecOf at h h'
  split at h
  · rename_i hc
    rw [if_pos hc] at h'
    exact ⟨by rw [h.1, h'.1], by rw [h.2.1, h'.2.1], by rw [h.2.2, h'.2.2]⟩
  · rename_i hc
    rw [if_neg hc] at h'
    split at h
    · rename_i hd
      rw [if_pos hd] at h'
      exact ⟨by rw [h.1, h'.1], by rw [h.2.1, h'.2.1], by rw [h.2.2, h'.2.2]⟩
    · rename_i hd
      rw [if_neg hd] at h'
      split at h
      · rename_i he
        rw [if_pos he] at h'
        exact ⟨by rw [h.1, h'.1], by rw [h.2.1, h'.2.1], by rw [h.2.2, h'.2.2]⟩
      · rename_i he
        rw [if_neg he] at h'
        exact ⟨h.2.2.unique h'.2.2, by rw [h.1, h'.1], by rw [h.2.1, h'.2.1]⟩

set_option maxHeartbeats 1600000 in
theorem lawTiers (v : Value) (ts : List (Int × Int)) (m c : Int) (w : World) (h : Sl w 2 v ts.length (tcells ts)) :
    Calls Try.prog 4 #[v, .int .i64 m, .int .i64 c] w fun e w' => e = .returned (.bool true) ∧ Below w.heap.size w w' := by
  have HH := Lib.hid h
  clear h
  go_enter Try.func4, Try.ntmps4
  go_wp2_with fail
  refine (pEarned_any v ts m w HH.out).mono ?_
  rintro e w1 ⟨n1, f1, rfl, he1, hb1⟩
  have HB1 := Lib.hid hb1
  have HE1 := Lib.hid he1
  clear hb1 he1
  go_wp2_with fail
  refine (rEarned_any v ts m w1 (HH.out.below HB1.out (Nat.le_refl _))).mono ?_
  rintro e w2 ⟨n2, f2, rfl, he2, hb2⟩
  obtain ⟨e1, e2⟩ := HE1.out.unique he2
  subst e1; subst e2
  have HB2 := Lib.hid (HB1.out.trans (hb2.mono HB1.out.size))
  clear hb2 he2
  go_wp2_with fail
  refine (pCheck_any v ts w2 (HH.out.below HB2.out (Nat.le_refl _))).mono ?_
  rintro e w3 ⟨rfl, hb3⟩
  have HB3 := Lib.hid (HB2.out.trans (hb3.mono HB2.out.size))
  clear hb3
  go_wp2_with fail
  refine (rCheck_any v ts w3 (HH.out.below HB3.out (Nat.le_refl _))).mono ?_
  rintro e w4 ⟨rfl, hb4⟩
  have HB4 := Lib.hid (HB3.out.trans (hb4.mono HB3.out.size))
  clear hb4
  generalize tFaults ts = tf at *
  go_wp2_with fail
  refine (pRecouped_any v ts c w4 (HH.out.below HB4.out (Nat.le_refl _))).mono ?_
  rintro e w5 ⟨⟨n3, b3, f3, rfl, he3⟩, hb5⟩
  have HB5 := Lib.hid (HB4.out.trans (hb5.mono HB4.out.size))
  have HE3 := Lib.hid he3
  clear hb5 he3
  go_wp2_with fail
  refine (rRecouped_any v ts c w5 (HH.out.below HB5.out (Nat.le_refl _))).mono ?_
  rintro e w6 ⟨⟨n4, b4, f4, rfl, he4⟩, hb6⟩
  obtain ⟨e1, e2, e3⟩ := HE3.out.unique he4
  subst e1; subst e2; subst e3
  have HB6 := Lib.hid (HB5.out.trans (hb6.mono HB5.out.size))
  clear hb6 he4
  go_wp2_with fail
  refine (awake_any w6).mono ?_
  rintro e w7 ⟨rfl, hb7⟩
  have HB7 := Lib.hid (HB6.out.trans (hb7.mono HB6.out.size))
  clear hb7
  go_wp2_with fail
  go_ret
  exact ⟨rfl, HB7.out⟩

theorem RecOf.cases {ts : List (Int × Int)} {c n f : Int} {b : Bool} (h : RecOf ts c n b f) : (n = 0 ∧ (f ≠ 0 ∨ b = false)) ∨ (b = true ∧ f = 0 ∧ tFaults ts = 0 ∧ inB c 0 1000000000000 = true ∧ Least ts c n) := by
  unfold RecOf at h
  split at h
  · rename_i hc; exact .inl ⟨h.1, .inr h.2.1⟩
  · rename_i hc
    split at h
    · exact .inl ⟨h.1, .inr h.2.1⟩
    · rename_i hd
      split at h
      · exact .inl ⟨h.1, .inr h.2.1⟩
      · exact .inr ⟨h.1, h.2.1, by simpa using hc, by cases hh : inB c 0 1000000000000 <;> simp_all, h.2.2⟩
theorem EarnedOf.at {ts : List (Int × Int)} {m n f : Int} (h : EarnedOf ts m n f) (ht : tFaults ts = 0) (h0 : 0 ≤ m) (h1 : m ≤ 1000000000000) : n = earnedT ts m ∧ f = 0 := by
  unfold EarnedOf at h
  rw [if_neg (by rw [ht]; decide), if_neg (by simp [inB]; omega)] at h
  exact h

set_option maxHeartbeats 1600000 in
theorem lawRecoups (v : Value) (ts : List (Int × Int)) (c : Int) (w : World) (h : Sl w 2 v ts.length (tcells ts)) :
    Calls Try.prog 5 #[v, .int .i64 c] w fun e w' => e = .returned (.bool true) ∧ Below w.heap.size w w' := by
  have HH := Lib.hid h
  clear h
  go_enter Try.func5, Try.ntmps5
  go_wp2_with fail
  refine (pRecouped_any v ts c w HH.out).mono ?_
  rintro e w1 ⟨⟨n, b, f, rfl, he⟩, hb1⟩
  have HB1 := Lib.hid hb1
  clear hb1
  rcases he.cases with ⟨rfl, hfb⟩ | ⟨rfl, rfl, htf, hin, hl⟩
  · have HF := Lib.hid hfb
    clear hfb he
    by_cases hf : f = 0
    · subst hf
      have hb : b = false := by rcases HF.out with h | h; exact absurd rfl h; exact h
      subst hb
      go_wp2_with fail
      refine (awake_any w1).mono ?_
      rintro e w2 ⟨rfl, hb2⟩
      have HB2 := Lib.hid (HB1.out.trans (hb2.mono HB1.out.size))
      clear hb2
      go_wp2_with fail
      go_ret
      exact ⟨rfl, HB2.out⟩
    · have hne : (f != 0) = true := by simpa using hf
      clear hf
      go_wp2_with fail
      refine (awake_any w1).mono ?_
      rintro e w2 ⟨rfl, hb2⟩
      have HB2 := Lib.hid (HB1.out.trans (hb2.mono HB1.out.size))
      clear hb2
      go_wp2_with fail
      go_ret
      exact ⟨rfl, HB2.out⟩
  · have HT := Lib.hid htf
    have HL := Lib.hid hl
    have hc := of_decide_eq_true hin
    have HZ := Lib.hid (earnedT_zero ts (tiers_in ts htf))
    have hn0 := hl.h0
    have hn1 := hl.h1
    clear he htf hin hl
    go_wp2_with fail
    refine (pEarned_any v ts n w1 (HH.out.below HB1.out (Nat.le_refl _))).mono ?_
    rintro e w2 ⟨n2, f2, rfl, he2, hb2⟩
    obtain ⟨rfl, rfl⟩ := he2.at HT.out hn0 hn1
    have HB2 := Lib.hid (HB1.out.trans (hb2.mono HB1.out.size))
    clear hb2 he2
    have hen : c ≤ earnedT ts n := HL.out.enough
    have HEN := Lib.hid (show n = 0 → c = 0 from fun h => by have := HZ.out; rw [h] at hen; omega)
    go_wp2_with fail
    refine (awake_any w2).mono ?_
    rintro e w3 ⟨rfl, hb3⟩
    have HB3 := Lib.hid (HB2.out.trans (hb3.mono HB2.out.size))
    clear hb3
    by_cases hz : n = 0
    · have hcz := HEN.out hz
      subst hcz; subst hz
      go_wp2_with fail
      go_ret
      exact ⟨rfl, HB3.out⟩
    · have hzb : (n == 0) = false := by rw [beq_eq_false_iff_ne]; exact hz
      go_wp2_with fail
      refine (pEarned_any v ts (n - 1) w3 (HH.out.below HB3.out (Nat.le_refl _))).mono ?_
      rintro e w4 ⟨n4, f4, rfl, he4, hb4⟩
      obtain ⟨rfl, rfl⟩ := he4.at HT.out (by omega) (by omega)
      have HB4 := Lib.hid (HB3.out.trans (hb4.mono HB3.out.size))
      clear hb4 he4
      have hless : earnedT ts (n - 1) < c := HL.out.least (n - 1) (by omega) (by omega)
      go_wp2_with fail
      go_ret
      exact ⟨rfl, HB4.out⟩
end Go.Proofs.Ytpihcfpdaoflbaa
