/- Climb (reference), slices.Equal at partners, and the law VaultRootsMatchSpec, walked. -/
import Derived.Test.YtkflhehocbaoiaaR5
import Derived.Test.YtkflhehocbaoiaaR6
import Derived.Test.YtkflhehocbaoiaaS3
namespace Go.Proofs.Ytkflhehocbaoiaa
open Go.RowKit
attribute [local go_sem ↓] run_min_kept run_max_kept

set_option maxHeartbeats 400000 in
theorem rClimb_any (x : Nat) (v : Value) (l : List (Bool × Nat)) (w : World) (hx : x < 4294967296) (h : Sl w 2 v l.length (parts l)) (hp : Parts64 l) :
    Calls Try.prog 18 #[.int .u32 x, v] w fun e w' => e = .returned (.int .u64 (climbL (leafN x) l : Nat)) ∧ Below w.heap.size w w' := by
  have hlen := h.len et_parts.ht 3
  have hbd := h.bound
  have H := Lib.hid h
  clear h
  go_enter Try.func18, Try.ntmps18
  go_wp2_with fail
  refine (low_any x _ hx).mono ?_
  rintro e w1 ⟨rfl, hb1⟩
  have HB1 := Lib.hid hb1
  clear hb1
  go_wp2_with fail
  go_loopw [5, 12] (fun n i wr => ∃ k : Nat, k ≤ l.length ∧ i = .int .i64 k ∧ n = .int .u64 (climbL (leafN x) (l.take k) : Nat) ∧ Below w.heap.size w wr) (fun _ i _ => l.length - (intOf i).toNat)
  case atStart => exact ⟨0, Nat.zero_le _, rfl, by rw [List.take_zero, climbL_nil], HB1.out⟩
  case round =>
    obtain ⟨k, hk, rfl, rfl, hbel⟩ := hrel
    have HB := Lib.hid hbel
    have hsz := hbel.size
    clear hbel
    by_cases hlt : k < l.length
    · obtain ⟨ad, hix, hcells⟩ := H.out.idx et_parts k (by omega) (by omega)
      rw [Int.toNat_natCast, parts_at l k hlt] at hcells
      have hc := Lib.hid (hcells.below HB.out (Nat.le_refl _))
      have hp2 := hp l[k] (List.getElem_mem hlt)
      have HT := Lib.hid (show climbL (leafN x) (l.take (k + 1)) = climbStep (climbL (leafN x) (l.take k)) l[k] by rw [take_snoc l k hlt, climbL_snoc])
      have hcl := climbL_lt (leafN x) (leafN_lt x) (l.take k)
      clear hcells
      generalize climbL (leafN x) (l.take k) = n0 at *
      generalize l[k] = p at *
      obtain ⟨pb, pn⟩ := p
      cases pb
      · go_wp2_with (refine wpList_loadAgg (cs := [.bool false, .int .u64 pn]) _ rfl rfl rfl (by kernel_rfl) (by kernel_rfl) hc.out ?_)
        refine (rboth_any n0 pn _ hcl hp2).mono ?_
        rintro e w2 ⟨rfl, hb2⟩
        have HB2 := Lib.hid ((HB.out.alloc hsz _).trans (hb2.mono (by simp; omega)))
        clear hb2
        have HS := Lib.hid (show climbStep n0 (false, pn) = bothN n0 pn by unfold climbStep; rfl)
        go_wp2
        go_roundw
        case rel => exact ⟨k + 1, by omega, by go_num, by rw [HT.out, HS.out], HB2.out⟩
        case measure => simp [intOf]; omega
      · go_wp2_with (refine wpList_loadAgg (cs := [.bool true, .int .u64 pn]) _ rfl rfl rfl (by kernel_rfl) (by kernel_rfl) hc.out ?_)
        refine (rboth_any pn n0 _ hp2 hcl).mono ?_
        rintro e w2 ⟨rfl, hb2⟩
        have HB2 := Lib.hid ((HB.out.alloc hsz _).trans (hb2.mono (by simp; omega)))
        clear hb2
        have HS := Lib.hid (show climbStep n0 (true, pn) = bothN pn n0 by unfold climbStep; rfl)
        go_wp2
        go_roundw
        case rel => exact ⟨k + 1, by omega, by go_num, by rw [HT.out, HS.out], HB2.out⟩
        case measure => simp [intOf]; omega
    · have e : k = l.length := by omega
      subst e
      rw [List.take_length]
      go_wp2
      go_ret
      exact ⟨rfl, HB.out⟩

set_option maxHeartbeats 400000 in
theorem eqParts_same (v1 v2 : Value) (l : List (Bool × Nat)) (w : World) (h1 : Sl w 2 v1 l.length (parts l)) (h2 : Sl w 2 v2 l.length (parts l)) :
    Calls Try.prog 17 #[v1, v2] w fun e w' => e = .returned (.bool true) ∧ Below w.heap.size w w' := by
  have hb1 := h1.bound
  have hlen1 := h1.len et_parts.ht 3
  have hlen2 := h2.len et_parts.ht 3
  have H1 := Lib.hid h1
  have H2 := Lib.hid h2
  clear h1 h2
  go_enter Try.func17, Try.ntmps17
  go_wp2
  go_loopw [13] (fun i wr => ∃ k : Nat, k ≤ l.length ∧ i = .int .i64 k ∧ Below w.heap.size w wr) (fun i _ => l.length - (intOf i).toNat)
  case atStart => exact ⟨0, Nat.zero_le _, rfl, Below.refl _ _⟩
  case round =>
    obtain ⟨k, hk, rfl, hbel⟩ := hrel
    have HE := Lib.hid hbel
    clear hbel
    by_cases hlt : k < l.length
    · obtain ⟨ad1, hix1, hc1⟩ := (H1.out.below HE.out (Nat.le_refl _)).idx et_parts k (by omega) (by omega)
      obtain ⟨ad2, hix2, hc2⟩ := (H2.out.below HE.out (Nat.le_refl _)).idx et_parts k (by omega) (by omega)
      rw [Int.toNat_natCast, parts_at l k hlt] at hc1 hc2
      generalize l[k] = p at *
      obtain ⟨pb, pn⟩ := p
      have a0 := hc1 0 (by simp [partCells])
      have a1 := hc1 1 (by simp [partCells])
      have b0 := hc2 0 (by simp [partCells])
      have b1 := hc2 1 (by simp [partCells])
      simp only [partCells, List.getElem_cons_zero, List.getElem_cons_succ, addr_zero, addr_one] at a0 a1 b0 b1
      clear hc1 hc2
      go_wp2
      go_quiet (fail)
      go_wp2
      go_roundw
      case rel => exact ⟨k + 1, by omega, by go_num, HE.out.drewN _⟩
      case measure => simp [intOf]; omega
    · have e : k = l.length := by omega
      subst e
      go_wp2
      go_ret
      exact ⟨rfl, HE.out⟩

/-- What both say of a proof. -/
structure ProofSay (w w' : World) (e : Ending) (l : List (Bool × Nat)) (f : Int) : Prop where
  ex : ∃ v', e = .returned (.tuple #[v', .int .i64 f]) ∧ Sl w' 2 v' l.length (parts l)
  below : Below w.heap.size w w'

theorem proofs_any (v : Value) (s : List Nat) (i : Int) (hs : Sums32 s) :
    ∃ (f : Int) (L : List (Bool × Nat) → Prop), (∀ l l', L l → L l' → l = l') ∧ (∀ w2, Sl w2 1 v s.length (u32s s) → Calls Try.prog 12 #[v, .int .i64 i] w2 (fun e w' => ∃ l, L l ∧ ProofSay w2 w' e l f)) ∧
      ∀ w2, Sl w2 1 v s.length (u32s s) → Calls Try.prog 15 #[v, .int .i64 i] w2 (fun e w' => ∃ l, L l ∧ ProofSay w2 w' e l f) := by
  by_cases hn : 1000 < s.length
  · refine ⟨2, fun l => l = [], fun l l' h h' => by rw [h, h'], fun w2 h2 => (vProof_large v s i w2 h2 hn).mono ?_, fun w2 h2 => (rProof_large v s i w2 h2 hn).mono ?_⟩
    all_goals (rintro e w' ⟨rfl, rfl⟩; exact ⟨[], rfl, ⟨_, rfl, Sl.nil _ _⟩, Below.refl _ _⟩)
  · by_cases hr : i < 0 ∨ (s.length : Int) ≤ i
    · refine ⟨1, fun l => l = [], fun l l' h h' => by rw [h, h'], fun w2 h2 => (vProof_range v s i w2 h2 (by omega) hr).mono ?_, fun w2 h2 => (rProof_range v s i w2 h2 (by omega) hr).mono ?_⟩
      all_goals (rintro e w' ⟨rfl, rfl⟩; exact ⟨[], rfl, ⟨_, rfl, Sl.nil _ _⟩, Below.refl _ _⟩)
    · obtain ⟨I, rfl⟩ := Int.eq_ofNat_of_zero_le (show 0 ≤ i by omega)
      refine ⟨0, fun l => ∃ m, IsTop s m ∧ l = proofTo s I m, ?_, fun w2 h2 => (vProof_ok v s I w2 h2 hs (by omega) (by omega)).mono ?_, fun w2 h2 => (rProof_ok v s I w2 h2 hs (by omega) (by omega)).mono ?_⟩
      · rintro l l' ⟨m, hm, rfl⟩ ⟨m', hm', rfl⟩
        rw [hm.uniq hm']
      · rintro e w' ⟨m, v', hm, rfl, ho, hb⟩
        exact ⟨_, ⟨m, hm, rfl⟩, ⟨_, rfl, Sl.ofOwns ho⟩, hb⟩
      · rintro e w' ⟨m, v', hm, rfl, ho, hb⟩
        exact ⟨_, ⟨m, hm, rfl⟩, ⟨_, rfl, ho⟩, hb⟩

theorem roots_any (v : Value) (s : List Nat) (hs : Sums32 s) (hn : s.length ≤ 10000000) :
    ∃ (R : Nat → Prop), (∀ r r', R r → R r' → r = r') ∧ (∀ w2, Sl w2 1 v s.length (u32s s) → Calls Try.prog 13 #[v] w2 (fun e w' => ∃ r, R r ∧ e = .returned (.int .u64 (r : Nat)) ∧ Below w2.heap.size w2 w')) ∧
      ∀ w2, Sl w2 1 v s.length (u32s s) → Calls Try.prog 16 #[v] w2 (fun e w' => ∃ r, R r ∧ e = .returned (.int .u64 (r : Nat)) ∧ Below w2.heap.size w2 w') := by
  by_cases h0 : s.length = 0
  · have hs0 : s = [] := List.eq_nil_of_length_eq_zero h0
    subst hs0
    refine ⟨fun r => r = mseed, fun r r' h h' => by rw [h, h'], fun w2 h2 => (vRoot_nil v w2 h2).mono ?_, fun w2 h2 => (rRoot_nil v w2 h2).mono ?_⟩
    all_goals (rintro e w' ⟨rfl, rfl⟩; exact ⟨_, rfl, rfl, Below.refl _ _⟩)
  · refine ⟨fun r => ∃ m, IsTop s m ∧ r = (rowAt s m).getD 0 0, ?_, fun w2 h2 => (vRoot_any v s w2 h2 hs hn (by omega)).mono ?_, fun w2 h2 => (rRoot_any v s w2 h2 hs hn (by omega)).mono ?_⟩
    · rintro r r' ⟨m, hm, rfl⟩ ⟨m', hm', rfl⟩
      rw [hm.uniq hm']
    all_goals (rintro e w' ⟨m, hm, rfl, hb⟩; exact ⟨_, ⟨m, hm, rfl⟩, rfl, hb⟩)

set_option maxHeartbeats 800000 in
theorem lawRoots (v vl : Value) (s : List Nat) (i : Int) (x : Nat) (l : List (Bool × Nat)) (w : World) (h : Sl w 1 v s.length (u32s s)) (hs : Sums32 s) (hn : s.length ≤ 10000000)
    (hx : x < 4294967296) (hl : Sl w 2 vl l.length (parts l)) (hp : Parts64 l) :
    Calls Try.prog 5 #[v, .int .i64 i, .int .u32 x, vl] w fun e w' => e = .returned (.bool true) ∧ Below w.heap.size w w' := by
  obtain ⟨f, L, hL, hv, hr⟩ := proofs_any v s i hs
  obtain ⟨R, hR, hvr, hrr⟩ := roots_any v s hs hn
  have HV := Lib.hid hv
  have HR := Lib.hid hr
  have HVR := Lib.hid hvr
  have HRR := Lib.hid hrr
  have HL := Lib.hid hL
  have HRU := Lib.hid hR
  have H := Lib.hid h
  have HVL := Lib.hid hl
  have HP := Lib.hid hp
  clear hv hr hvr hrr hL hR h hl hp
  go_enter Try.func5, Try.ntmps5
  go_wp2_with fail
  refine (HV.out _ H.out).mono ?_
  rintro e w1 ⟨l1, hl1, ⟨v1, rfl, hs1⟩, hb1⟩
  have HB1 := Lib.hid hb1
  have HS1 := Lib.hid hs1
  have HL1 := Lib.hid hl1
  clear hb1 hs1 hl1
  go_wp2_with fail
  refine (HR.out _ (H.out.below HB1.out (Nat.le_refl _))).mono ?_
  rintro e w2 ⟨l2, hl2, ⟨v2, rfl, hs2⟩, hb2⟩
  obtain rfl := HL.out _ _ hl2 HL1.out
  have HS12 := Lib.hid (HS1.out.below hb2 (Nat.le_refl _))
  have HB2 := Lib.hid (HB1.out.trans (hb2.mono HB1.out.size))
  have HS2 := Lib.hid hs2
  clear hb2 hs2 hl2
  go_wp2_with fail
  refine (HVR.out _ (H.out.below HB2.out (Nat.le_refl _))).mono ?_
  rintro e w3 ⟨r1, hr1, rfl, hb3⟩
  have HB3 := Lib.hid (HB2.out.trans (hb3.mono HB2.out.size))
  have HS13 := Lib.hid (HS12.out.below hb3 (Nat.le_refl _))
  have HS23 := Lib.hid (HS2.out.below hb3 (Nat.le_refl _))
  have HR1 := Lib.hid hr1
  clear hb3 hr1
  go_wp2_with fail
  refine (HRR.out _ (H.out.below HB3.out (Nat.le_refl _))).mono ?_
  rintro e w4 ⟨r2, hr2, rfl, hb4⟩
  obtain rfl := HRU.out _ _ hr2 HR1.out
  have HB4 := Lib.hid (HB3.out.trans (hb4.mono HB3.out.size))
  have HS14 := Lib.hid (HS13.out.below hb4 (Nat.le_refl _))
  have HS24 := Lib.hid (HS23.out.below hb4 (Nat.le_refl _))
  clear hb4 hr2
  go_wp2_with fail
  refine (eqParts_same _ _ _ _ HS14.out HS24.out).mono ?_
  rintro e w5 ⟨rfl, hb5⟩
  have HB5 := Lib.hid (HB4.out.trans (hb5.mono HB4.out.size))
  clear hb5
  go_wp2_with fail
  refine (vClimb_any x vl l _ hx (HVL.out.below HB5.out (Nat.le_refl _)) HP.out).mono ?_
  rintro e w6 ⟨rfl, hb6⟩
  have HB6 := Lib.hid (HB5.out.trans (hb6.mono HB5.out.size))
  clear hb6
  go_wp2_with fail
  refine (rClimb_any x vl l _ hx (HVL.out.below HB6.out (Nat.le_refl _)) HP.out).mono ?_
  rintro e w7 ⟨rfl, hb7⟩
  have HB7 := Lib.hid (HB6.out.trans (hb7.mono HB6.out.size))
  clear hb7
  generalize climbL (leafN x) l = c at *
  go_wp2
  go_ret
  exact ⟨rfl, HB7.out⟩
end Go.Proofs.Ytkflhehocbaoiaa
