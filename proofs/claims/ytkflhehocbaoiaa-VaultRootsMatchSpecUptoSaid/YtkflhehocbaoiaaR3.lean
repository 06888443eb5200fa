/- The walks of both (reference), of lowest and above (program). -/
import Derived.Test.YtkflhehocbaoiaaR2
import Derived.Deep.RegionHeld3
namespace Go.Proofs.Ytkflhehocbaoiaa
open Go.RowKit
attribute [local go_sem ↓] run_min_kept run_max_kept

/-- Nodes as values. -/
def u64s (l : List Nat) : List Value := l.map fun (c : Nat) => .int .u64 (c : Int)
theorem u64s_length (l : List Nat) : (u64s l).length = l.length := by simp [u64s]
theorem u64s_snoc (l : List Nat) (x : Nat) : u64s (l ++ [x]) = u64s l ++ [.int .u64 (x : Int)] := by simp [u64s]
theorem u64s_getD (l : List Nat) (k : Nat) (h : k < l.length) : (u64s l).getD k undef = .int .u64 (l.getD k 0 : Nat) := by
  simp [u64s, List.getD_eq_getElem?_getD, h]

set_option maxHeartbeats 400000 in
theorem rboth_any (a b : Nat) (w : World) (ha : a < 18446744073709551616) (hb : b < 18446744073709551616) :
    Calls Try.prog 31 #[.int .u64 a, .int .u64 b] w fun e w' => e = .returned (.int .u64 (bothN a b : Nat)) ∧ Below w.heap.size w w' := by
  go_enter Try.func31, Try.ntmps31
  go_wp2_with fail
  have hrow : Row (w.alloc (.cells #[.int .u8 1] 5)) w.heap.size 5 [.int .u8 1] := heap_alloc_new w _
  have hbel : Below w.heap.size w (w.alloc (.cells #[.int .u8 1] 5)) := (Below.refl _ _).alloc (Nat.le_refl _) _
  have hsz : (w.alloc (.cells #[.int .u8 1] 5)).heap.size = w.heap.size + 1 := by simp
  generalize (w.alloc (.cells #[.int .u8 1] 5)) = w1 at *
  refine (bytesOf_any a 8 _ ha (by omega)).mono ?_
  rintro e w2 ⟨v2, rfl, ho2, hb2⟩
  have HR := Lib.hid (hrow.below hb2 (by omega))
  have hs2 := Sl.ofOwns ho2
  have HS2 := Lib.hid hs2
  have k2 := hs2.oneCell
  have hz2 := hb2.size
  have HB := Lib.hid (hbel.trans (hb2.mono (by omega)))
  clear hrow hbel ho2 hb2 hs2
  go_wp2_with fail
  refine (bytesOf_any b 8 _ hb (by omega)).mono ?_
  rintro e w3 ⟨v3, rfl, ho3, hb3⟩
  have hs1 : Sl w3 1 (.slice (some ⟨w.heap.size, 0, none⟩) 1 1) 1 [.int .u8 1] := Sl.ofOwns ((HR.out.below hb3 (by omega)).owns (Nat.le_refl _) (by simp))
  have hs3 := Sl.ofOwns ho3
  have k3 := hs3.oneCell
  have hls : Lists w3 [.slice (some ⟨w.heap.size, 0, none⟩) 1 1, v2, v3] [[1], be a 8, be b 8] := by
    refine ⟨rfl, ?_⟩
    intro i hi hi'
    match i, hi with
    | 0, _ => exact hs1
    | 1, _ => have := HS2.out.below hb3 (Nat.le_refl _); simpa [be_length] using this
    | 2, _ => simpa [be_length] using hs3
  have HL := Lib.hid hls
  have HB3 := Lib.hid (HB.out.trans (hb3.mono (by omega)))
  have hz3 := hb3.size
  clear hs1 hs3 hls ho3 hb3
  go_wp2_with (refine wpList_lit3 et_u8ss2 _ _ _ rfl rfl rfl rfl rfl rfl k2 k3 ?_)
  have hb4 : Below w.heap.size w (w3.alloc (.cells #[.slice (some ⟨w.heap.size, 0, none⟩) 1 1, v2, v3] 22)) := HB3.out.alloc (by omega) _
  have hr4 : Row (w3.alloc (.cells #[.slice (some ⟨w.heap.size, 0, none⟩) 1 1, v2, v3] 22)) w3.heap.size 22 [.slice (some ⟨w.heap.size, 0, none⟩) 1 1, v2, v3] := heap_alloc_new w3 _
  have hl4 := HL.out.below ((Below.refl w3.heap.size w3).alloc (Nat.le_refl _) (.cells #[.slice (some ⟨w.heap.size, 0, none⟩) 1 1, v2, v3] 22)) (Nat.le_refl _)
  have hz4 : (w3.alloc (.cells #[.slice (some ⟨w.heap.size, 0, none⟩) 1 1, v2, v3] 22)).heap.size = w3.heap.size + 1 := by simp
  generalize (w3.alloc (.cells #[.slice (some ⟨w.heap.size, 0, none⟩) 1 1, v2, v3] 22)) = w4 at *
  refine (concat_any _ [.slice (some ⟨w.heap.size, 0, none⟩) 1 1, v2, v3] [[1], be a 8, be b 8] _ (Sl.ofOwns (hr4.owns (Nat.le_refl _) (by simp))) hl4 (by simp [catL, be_length]) (by simp)).mono ?_
  rintro e w5 ⟨v5, rfl, ho5, hb5⟩
  have e5 : catL [[1], be a 8, be b 8] = 1 :: (be a 8 ++ be b 8) := by simp [catL]
  rw [e5] at ho5
  have HS5 := Lib.hid (Sl.ofOwns ho5)
  have HB5 := Lib.hid (hb4.trans (hb5.mono (by omega)))
  clear hb4 hr4 hl4 ho5 hb5 e5
  go_wp2_with fail
  refine (mix_any _ (1 :: (be a 8 ++ be b 8)) _ HS5.out).mono ?_
  rintro e w' ⟨rfl, rfl⟩
  go_wp2
  go_ret
  exact ⟨rfl, HB5.out⟩

/-- All numbers of a list are words. -/
def Words (l : List Nat) : Prop := ∀ x ∈ l, x < 18446744073709551616
theorem Words.getD {l : List Nat} (h : Words l) (k : Nat) : l.getD k 0 < 18446744073709551616 := by
  rw [List.getD_eq_getElem?_getD]
  cases hk : l[k]? with
  | none => simp
  | some x => exact h x (List.mem_of_getElem? hk)

def lowL (s : List Nat) : List Nat := s.map leafN
theorem lowL_words (s : List Nat) : Words (lowL s) := by
  intro x hx
  obtain ⟨n, _, rfl⟩ := List.mem_map.1 hx
  exact leafN_lt n
def aboveAt (row : List Nat) (i : Nat) : Nat := if 2 * i + 1 < row.length then bothN (row.getD (2 * i) 0) (row.getD (2 * i + 1) 0) else row.getD (2 * i) 0
def aboveL (row : List Nat) : List Nat := (List.range ((row.length + 1) / 2)).map (aboveAt row)
theorem aboveL_length (row : List Nat) : (aboveL row).length = (row.length + 1) / 2 := by simp [aboveL]
theorem aboveL_words (row : List Nat) (h : Words row) : Words (aboveL row) := by
  intro x hx
  obtain ⟨n, _, rfl⟩ := List.mem_map.1 hx
  unfold aboveAt
  split
  · exact bothN_lt _ _
  · exact h.getD _
theorem aboveL_take (row : List Nat) (k : Nat) (h : k < (row.length + 1) / 2) : (aboveL row).take (k + 1) = (aboveL row).take k ++ [aboveAt row k] := by
  rw [take_snoc _ k (by rw [aboveL_length]; exact h)]
  simp [aboveL]

/-- Sums that fit. -/
def Sums32 (l : List Nat) : Prop := ∀ x ∈ l, x < 4294967296

set_option maxHeartbeats 400000 in
theorem lowest_any (v : Value) (s : List Nat) (w : World) (h : Sl w 1 v s.length (u32s s)) (hs : Sums32 s) (hn : s.length ≤ 10000000) :
    Calls Try.prog 23 #[v] w fun e w' => ∃ v', e = .returned v' ∧ w'.ownsRow w.heap.size 35 1 v' s.length (u64s (lowL s)) ∧ Below w.heap.size w w' := by
  have hlen := h.len et_u32s.ht 3
  have H := Lib.hid h
  clear h
  go_enter Try.func23, Try.ntmps23
  go_wp2_with fail
  go_loopw [3, 8] (fun x i wr => ∃ k : Nat, k ≤ s.length ∧ i = .int .i64 k ∧ wr.ownsRow w.heap.size 35 1 x k (u64s (lowL (s.take k))) ∧ Below w.heap.size w wr) (fun _ i _ => s.length - (intOf i).toNat)
  case atStart => exact ⟨0, Nat.zero_le _, rfl, World.ownsRow_nil _ _ _ _, Below.refl _ _⟩
  case round =>
    obtain ⟨k, hk, rfl, hown, hbel⟩ := hrel
    have hsz := hbel.size
    have HO := Lib.hid hown
    have HB := Lib.hid hbel
    clear hown hbel
    by_cases hlt : k < s.length
    · obtain ⟨ad, hix, hcell⟩ := (H.out.below HB.out (Nat.le_refl _)).idx1 et_u32s k (by omega) (by omega)
      rw [Int.toNat_natCast, u32s_getD s k hlt] at hcell
      have hx := hs s[k] (List.getElem_mem hlt)
      go_wp2_with fail
      refine (leaf_any _ _ hx).mono ?_
      rintro e w2 ⟨rfl, hb2⟩
      have HO2 := Lib.hid (owns_below HO.out hb2)
      have HB2 := Lib.hid (HB.out.trans (hb2.mono hsz))
      have hsz2 : w.heap.size ≤ w2.heap.size := Nat.le_trans hsz hb2.size
      clear hb2
      go_wp2_with (at_builtin; refine wpList_push et_u64s _ _ rfl rfl HO2.out rfl rfl rfl (one1 rfl) (by omega) (by omega) HB2.out hsz2 ?_; intro v' w' hown' hbel' hsz' _)
      have HO' := Lib.hid hown'
      have HE' := Lib.hid hbel'
      clear hown' hbel'
      go_wp2
      go_roundw
      case rel => exact ⟨k + 1, by omega, by go_num, by rw [take_snoc s k hlt, lowL, List.map_append, u64s, List.map_append]; exact HO'.out, HE'.out⟩
      case measure => simp [intOf]; omega
    · have e : k = s.length := by omega
      subst e
      rw [List.take_length] at HO
      go_wp2
      go_ret
      exact ⟨_, rfl, HO.out, HB.out⟩

set_option maxHeartbeats 800000 in
theorem above_any (v : Value) (row : List Nat) (w : World) (h : Sl w 1 v row.length (u64s row)) (hr : Words row) (hn : row.length ≤ 10000000) :
    Calls Try.prog 24 #[v] w fun e w' => ∃ v', e = .returned v' ∧ w'.ownsRow w.heap.size 35 1 v' (aboveL row).length (u64s (aboveL row)) ∧ Below w.heap.size w w' := by
  have hlen := h.len et_u64s.ht 3
  have H := Lib.hid h
  have HL := Lib.hid (aboveL_length row)
  clear h
  go_enter Try.func24, Try.ntmps24
  go_wp2_with fail
  go_loopw [3, 4] (fun x i wr => ∃ k : Nat, 2 * k ≤ row.length + 1 ∧ i = .int .i64 (2 * (k : Int)) ∧ wr.ownsRow w.heap.size 35 1 x k (u64s ((aboveL row).take k)) ∧ Below w.heap.size w wr) (fun _ i _ => row.length + 2 - (intOf i).toNat)
  case atStart => exact ⟨0, by omega, rfl, World.ownsRow_nil _ _ _ _, Below.refl _ _⟩
  case round =>
    obtain ⟨k, hk, rfl, hown, hbel⟩ := hrel
    have hsz := hbel.size
    have HO := Lib.hid hown
    have HB := Lib.hid hbel
    clear hown hbel
    by_cases hlt : 2 * k < row.length
    · obtain ⟨ad, hix, hcell0⟩ := H.out.idx1 et_u64s (2 * (k : Int)) (by omega) (by omega)
      rw [show (2 * (k : Int)).toNat = 2 * k by omega, u64s_getD row (2 * k) hlt] at hcell0
      have hcell := cell_behind HB.out hcell0
      have hw1 := hr.getD (2 * k)
      have HT := Lib.hid (aboveL_take row k (by omega))
      by_cases hlt2 : 2 * k + 1 < row.length
      · obtain ⟨ad2, hix2, hcell20⟩ := H.out.idx1 et_u64s (2 * (k : Int) + 1) (by omega) (by omega)
        rw [show (2 * (k : Int) + 1).toNat = 2 * k + 1 by omega, u64s_getD row (2 * k + 1) hlt2] at hcell20
        have hcell2 := cell_behind HB.out hcell20
        have hw2 := hr.getD (2 * k + 1)
        have HA := Lib.hid (show aboveAt row k = bothN (row.getD (2 * k) 0) (row.getD (2 * k + 1) 0) by unfold aboveAt; rw [if_pos hlt2])
        generalize row.getD (2 * k) 0 = n1 at *
        generalize row.getD (2 * k + 1) 0 = n2 at *
        have hsum : IntKind.i64.wrap (2 * (k : Int) + 1) = 2 * (k : Int) + 1 := IntWalk.i64_in _ (by omega)
        go_wp2_with fail
        go_region_held3 (fun w' => w'.cell? ad = some (.int .u64 n1) ∧ w'.cell? ad2 = some (.int .u64 n2)) (go_keep) (first | (go_at_call 27; refine (both_any n1 n2 _ hw1 hw2).mono ?_; rintro e w2 ⟨rfl, hb2⟩; have q1 := cell_drewn hb2 hcell; have q2 := cell_drewn hb2 hcell2) | (refine step_push (w := w2) et_u64s _ _ (by rfl) (by rfl) (owns_below HO.out.drew hb2) (by rfl) (by rfl) rfl (one1 rfl) (by omega) (by omega) (HB.out.drew.trans (hb2.mono hsz)) (Nat.le_trans hsz hb2.size) ?_; intro v' w' hown' hbel' hsz' _; have q3 := cell_behind hbel' hcell0; have q4 := cell_behind hbel' hcell20))
        have HO' := Lib.hid hown'
        have HE' := Lib.hid hbel'
        clear hown' hbel'
        go_wp2
        go_roundw
        case rel => exact ⟨k + 1, by omega, by go_num, by rw [HT.out, u64s_snoc, HA.out]; exact HO'.out, HE'.out⟩
        case measure => simp [intOf]; omega
      · have HA := Lib.hid (show aboveAt row k = row.getD (2 * k) 0 by unfold aboveAt; rw [if_neg hlt2])
        generalize row.getD (2 * k) 0 = n1 at *
        go_wp2_with (at_builtin; refine wpList_push et_u64s _ _ rfl rfl HO.out rfl rfl rfl (one1 rfl) (by omega) (by omega) HB.out hsz ?_; intro v' w' hown' hbel' hsz' _)
        have HO' := Lib.hid hown'
        have HE' := Lib.hid hbel'
        clear hown' hbel'
        go_wp2
        go_roundw
        case rel => exact ⟨k + 1, by omega, by go_num, by rw [HT.out, u64s_snoc, HA.out]; exact HO'.out, HE'.out⟩
        case measure => simp [intOf]; omega
    · have e : k = (row.length + 1) / 2 := by omega
      have HO' := Lib.hid (show wr.ownsRow w.heap.size 35 1 u3 (aboveL row).length (u64s (aboveL row)) by
        have := HO.out
        rw [List.take_of_length_le (by rw [HL.out]; omega)] at this
        rw [HL.out, ← e]; exact this)
      clear e
      go_wp2
      go_ret
      exact ⟨_, rfl, HO'.out, HB.out⟩
end Go.Proofs.Ytkflhehocbaoiaa
