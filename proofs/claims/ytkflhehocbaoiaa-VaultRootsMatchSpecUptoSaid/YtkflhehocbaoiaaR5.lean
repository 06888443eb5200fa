/- From each sum its proof leads to the root: the plain law, and the law VaultProofsLeadToRoots, walked. -/
import Derived.Test.YtkflhehocbaoiaaR4
namespace Go.Proofs.Ytkflhehocbaoiaa
open Go.RowKit
attribute [local go_sem ↓] run_min_kept run_max_kept

theorem aboveL_getD (row : List Nat) (k : Nat) (h : k < (row.length + 1) / 2) : (aboveL row).getD k 0 = aboveAt row k := by
  simp [aboveL, List.getD_eq_getElem?_getD, h]
theorem climbL_one (x : Nat) (p : Bool × Nat) : climbL x [p] = climbStep x p := rfl
theorem climbL_append (x : Nat) (l r : List (Bool × Nat)) : climbL x (l ++ r) = climbL (climbL x l) r := by unfold climbL; rw [List.foldl_append]
theorem climb_row (row : List Nat) (q : Nat) (hq : q < row.length) : climbL (row.getD q 0) (pstep q row) = (aboveL row).getD (q / 2) 0 := by
  rw [aboveL_getD row (q / 2) (by omega)]
  unfold aboveAt
  by_cases ho : q % 2 = 1
  · rw [pstep_odd q row ho, climbL_one, if_pos (by omega), show 2 * (q / 2) = q - 1 by omega, show q - 1 + 1 = q by omega]
    rfl
  · by_cases hn : q + 1 < row.length
    · rw [pstep_even q row (by omega) hn, climbL_one, if_pos (by omega), show 2 * (q / 2) = q by omega]
      rfl
    · rw [pstep_none q row (by omega) hn, climbL_nil, if_neg (by omega), show 2 * (q / 2) = q by omega]
theorem climb_to (s : List Nat) (i : Nat) (hi : i < s.length) (m : Nat) : climbL (leafN (s.getD i 0)) (proofTo s i m) = (rowAt s m).getD (i / 2 ^ m) 0 := by
  induction m with
  | zero =>
    rw [proofTo, climbL_nil, Nat.pow_zero, Nat.div_one, rowAt, lowL]
    rw [List.getD_eq_getElem?_getD, List.getD_eq_getElem?_getD, List.getElem?_map, List.getElem?_eq_getElem hi, Option.map_some, Option.getD_some, Option.getD_some]
  | succ m ih => rw [proofTo, climbL_append, ih, climb_row _ _ (idx_lt s i hi m), pow_half, rowAt]
theorem climb_top (s : List Nat) (i m : Nat) (hi : i < s.length) (hm : IsTop s m) : climbL (leafN (s.getD i 0)) (proofTo s i m) = (rowAt s m).getD 0 0 := by
  rw [climb_to s i hi m]
  have h1 := idx_lt s i hi m
  have h2 := hm.1
  generalize i / 2 ^ m = q at *
  have h3 : q = 0 := by omega
  rw [h3]
theorem pstep_words (row : List Nat) (h : Words row) (i : Nat) : Parts64 (pstep i row) := by
  intro p hp
  unfold pstep at hp
  split at hp
  · simp at hp; subst hp; exact h.getD _
  · split at hp
    · simp at hp; subst hp; exact h.getD _
    · simp at hp
theorem proofTo_words (s : List Nat) (i : Nat) : ∀ m, Parts64 (proofTo s i m)
  | 0 => by intro p hp; simp [proofTo] at hp
  | m + 1 => by
    intro p hp
    rw [proofTo, List.mem_append] at hp
    rcases hp with hp | hp
    · exact proofTo_words s i m p hp
    · exact pstep_words _ (rowAt_words s m) _ p hp

theorem awake_any (w : World) : Calls Try.prog 11 #[] w fun e w' => e = .returned (.bool true) ∧ w = w' := by
  have hf : (((fnv [] : Nat) : Int) == 2166136261) = true := by
    unfold fnv fseed
    rfl
  go_enter Try.func11, Try.ntmps11
  go_wp2_with fail
  refine (vSum_any _ [] _ (Sl.nil _ _)).mono ?_
  rintro e w' ⟨rfl, rfl⟩
  generalize fnv [] = f at *
  go_wp2
  go_ret
  exact ⟨rfl, rfl⟩

set_option maxHeartbeats 800000 in
theorem lawProofs (v : Value) (s : List Nat) (w : World) (h : Sl w 1 v s.length (u32s s)) (hs : Sums32 s) :
    Calls Try.prog 4 #[v] w fun e w' => e = .returned (.bool true) ∧ Below w.heap.size w w' := by
  have hlen := h.len et_u32s.ht 3
  have hbd := h.bound
  have H := Lib.hid h
  clear h
  by_cases hn : 1000 < s.length
  · go_enter Try.func4, Try.ntmps4
    go_wp2_with fail
    refine (awake_any _).mono ?_
    rintro e w' ⟨rfl, rfl⟩
    go_wp2_with fail
    refine (vProof_large v s _ _ H.out hn).mono ?_
    rintro e w' ⟨rfl, rfl⟩
    go_wp2
    go_ret
    exact ⟨rfl, Below.refl _ _⟩
  · by_cases h0 : s.length = 0
    · have hs0 : s = [] := List.eq_nil_of_length_eq_zero h0
      subst hs0
      go_enter Try.func4, Try.ntmps4
      go_wp2_with fail
      refine (awake_any _).mono ?_
      rintro e w' ⟨rfl, rfl⟩
      go_wp2_with fail
      refine (vRoot_nil v _ H.out).mono ?_
      rintro e w' ⟨rfl, rfl⟩
      go_wp2_with fail
      refine wp_loop_once ?_
      go_wp2
      go_ret
      exact ⟨rfl, Below.refl _ _⟩
    · have hpos : 0 < s.length := by omega
      go_enter Try.func4, Try.ntmps4
      go_wp2_with fail
      refine (awake_any _).mono ?_
      rintro e w' ⟨rfl, rfl⟩
      go_wp2_with fail
      refine (vRoot_any v s _ H.out hs (by omega) hpos).mono ?_
      rintro e w1 ⟨m, hm, rfl, hb1⟩
      have HB1 := Lib.hid hb1
      have HM := Lib.hid hm
      clear hb1 hm
      generalize hroot : (rowAt s m).getD 0 0 = root at *
      have HR := Lib.hid hroot
      clear hroot
      go_wp2_with fail
      go_loopw [25] (fun i wr => ∃ k : Nat, k ≤ s.length ∧ i = .int .i64 k ∧ Below w.heap.size w wr) (fun i _ => s.length - (intOf i).toNat)
      case atStart => exact ⟨0, Nat.zero_le _, rfl, HB1.out⟩
      case round =>
        obtain ⟨k, hk, rfl, hbel⟩ := hrel
        have HB := Lib.hid hbel
        have hsz := hbel.size
        clear hbel
        by_cases hlt : k < s.length
        · obtain ⟨ad, hix, hcell0⟩ := H.out.idx1 et_u32s k (by omega) (by omega)
          rw [Int.toNat_natCast, u32s_getD s k hlt] at hcell0
          go_wp2_with fail
          refine (vProof_ok v s k _ (H.out.below HB.out (Nat.le_refl _)) hs (by omega) hlt).mono ?_
          rintro e w2 ⟨m2, v2, hm2, rfl, ho2, hb2⟩
          have HB2 := Lib.hid (HB.out.trans (hb2.mono hsz))
          have hsz2 := hb2.size
          have HS2 := Lib.hid (Sl.ofOwns ho2)
          have hcell := cell_behind HB2.out hcell0
          have hx := hs s[k] (List.getElem_mem hlt)
          have HC := Lib.hid (show climbL (leafN s[k]) (proofTo s k m2) = root by
            have e1 := HM.out.uniq hm2
            subst e1
            have := climb_top s k m hlt HM.out
            rw [List.getD_eq_getElem?_getD, List.getElem?_eq_getElem hlt, Option.getD_some] at this
            rw [this, HR.out])
          have HP := Lib.hid (proofTo_words s k m2)
          clear hm2 ho2 hb2
          go_wp2_with fail
          refine (vClimb_any s[k] v2 (proofTo s k m2) _ hx HS2.out HP.out).mono ?_
          rintro e w3 ⟨rfl, hb3⟩
          rw [HC.out]
          have HB3 := Lib.hid (HB2.out.trans (hb3.mono (by omega)))
          clear hb3
          go_wp2
          go_roundw
          case rel => exact ⟨k + 1, by omega, by go_num, HB3.out⟩
          case measure => simp [intOf]; omega
        · have e : k = s.length := by omega
          subst e
          go_wp2
          go_ret
          exact ⟨rfl, HB.out⟩
end Go.Proofs.Ytkflhehocbaoiaa
