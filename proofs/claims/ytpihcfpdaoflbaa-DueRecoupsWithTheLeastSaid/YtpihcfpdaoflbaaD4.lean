/- slices.Equal at []int; due.Divide with fewer than 20 weights; what each law of the layer asks besides: awake. -/
import Derived.Test.YtpihcfpdaoflbaaD3
namespace Go.Proofs.Ytpihcfpdaoflbaa
open Go.RowKit
attribute [local go_sem ↓] run_min_kept run_max_kept

theorem take_snoc {α : Type} (l : List α) (k : Nat) (h : k < l.length) : l.take (k + 1) = l.take k ++ [l[k]] := by
  rw [List.take_succ_eq_append_getElem h]

set_option maxHeartbeats 400000 in
theorem eqInts_any (v1 v2 : Value) (l1 l2 : List Nat) (w : World) (h1 : Sl w 1 v1 l1.length (ints l1)) (h2 : Sl w 1 v2 l2.length (ints l2)) :
    Calls Try.prog 8 #[v1, v2] w fun e w' => e = .returned (.bool (decide (l1 = l2))) ∧ Below w.heap.size w w' := by
  have hb1 := h1.bound
  have hlen1 := h1.len et_ints.ht 3
  have hlen2 := h2.len et_ints.ht 3
  have H1 := Lib.hid h1
  have H2 := Lib.hid h2
  clear h1 h2
  by_cases hn : l1.length = l2.length
  · have HN := Lib.hid hn
    rw [← hn] at hlen2
    clear hn
    go_enter Try.func8, Try.ntmps8
    go_wp2
    go_loopw [13] (fun i wr => ∃ k : Nat, k ≤ l1.length ∧ i = .int .i64 k ∧ l1.take k = l2.take k ∧ Below w.heap.size w wr) (fun i _ => l1.length - (intOf i).toNat)
    case atStart => exact ⟨0, Nat.zero_le _, rfl, rfl, Below.refl _ _⟩
    case round =>
      obtain ⟨k, hk, rfl, htk, hbel⟩ := hrel
      have HE := Lib.hid hbel
      have HT := Lib.hid htk
      clear hbel htk
      by_cases hlt : k < l1.length
      · have hlt2 : k < l2.length := by rw [← HN.out]; exact hlt
        obtain ⟨ad1, hix1, hcell1⟩ := (H1.out.below HE.out (Nat.le_refl _)).idx1 et_ints k (by omega) (by omega)
        obtain ⟨ad2, hix2, hcell2⟩ := (H2.out.below HE.out (Nat.le_refl _)).idx1 et_ints k (by omega) (by omega)
        rw [Int.toNat_natCast, ints_getD l1 k hlt] at hcell1
        rw [Int.toNat_natCast, ints_getD l2 k hlt2] at hcell2
        by_cases he : l1[k] = l2[k]
        · have hne : (((l1[k] : Nat) : Int) != ((l2[k] : Nat) : Int)) = false := by simp [he]
          have HQ := Lib.hid he
          clear he
          go_wp2
          go_quiet (fail)
          go_wp2
          go_roundw
          case rel => exact ⟨k + 1, by omega, by go_num, by rw [take_snoc l1 k hlt, take_snoc l2 k hlt2, HT.out, HQ.out], HE.out.drewN _⟩
          case measure => simp [intOf]; omega
        · have hne : (((l1[k] : Nat) : Int) != ((l2[k] : Nat) : Int)) = true := by simp; omega
          have HQ := Lib.hid (show decide (l1 = l2) = false by
            simp only [decide_eq_false_iff_not]
            intro h
            subst h
            exact he rfl)
          clear he
          go_wp2
          go_quiet (fail)
          go_wp2
          go_ret
          exact ⟨by rw [HQ.out]; rfl, HE.out.drewN _⟩
      · have e : k = l1.length := by omega
        subst e
        have HQ := Lib.hid (show decide (l1 = l2) = true by
          have := HT.out
          rw [List.take_length, HN.out, List.take_length] at this
          simpa using this)
        go_wp2
        go_ret
        exact ⟨by rw [HQ.out]; rfl, HE.out⟩
  · have hne : (((l1.length : Nat) : Int) != ((l2.length : Nat) : Int)) = true := by simp; omega
    have HQ := Lib.hid (show decide (l1 = l2) = false by
      simp only [decide_eq_false_iff_not]
      intro h
      exact hn (by rw [h]))
    clear hn
    go_enter Try.func8, Try.ntmps8
    go_wp2
    go_ret
    exact ⟨by rw [HQ.out]; rfl, Below.refl _ _⟩

/-- The order in which the cents that are left go out. -/
def sortedSmall (total : Nat) (ws : List Nat) : List Value := insTo (ltOf (cmpDiv total ws.sum ws)) 0 (ints (List.range ws.length)) (ws.length - 1)

theorem all_range (n : Nat) : All (okIdx n) (ints (List.range n)) := by
  intro x hx
  unfold ints at hx
  obtain ⟨i, hi, rfl⟩ := List.mem_map.1 hx
  exact ⟨i, List.mem_range.1 hi, rfl⟩

theorem cmpI_dom (x y : Int) : -1 ≤ cmpI x y ∧ cmpI x y ≤ 1 := by unfold cmpI; split; omega; split <;> omega

theorem cmp_divide (w : World) (total : Nat) (ws : List Nat) (v : Value) (h : Sl w 1 v ws.length (ints ws)) (hn : ws.length ≤ 500) (ht : total ≤ 1000000000)
    (hw : ∀ x ∈ ws, x ≤ 1000000000) (hs : 0 < ws.sum) (g p1 p2 p3 : Nat) (h1 : p1 ≠ g) (h2 : p2 ≠ g) (h3 : p3 ≠ g) (hg : w.heap.size ≤ g) :
    Cmp Try.prog 18 #[.pointer (some ⟨p1, 0, none⟩), .pointer (some ⟨p2, 0, none⟩), .pointer (some ⟨p3, 0, none⟩)] g (Boxes w total ws.sum v p1 p2 p3) (okIdx ws.length) (cmpDiv total ws.sum ws) where
  enter := by intro args w; rfl
  keep := fun u u' hk hw => hk.wrote hw hg h1 h2 h3
  call := by
    rintro u x y hb ⟨i, hi, rfl⟩ ⟨k, hk, rfl⟩
    have hsum := sum_le ws _ hw
    exact closure_any w total ws.sum ws v p1 p2 p3 h ht (fun i hi => hw _ (List.getElem_mem hi)) hs (by omega) i k hi hk u hb
  int := by rintro x ⟨i, _, rfl⟩; exact ⟨i, rfl⟩
  dom := fun x y => cmpI_dom _ _

theorem divide_small (total : Nat) (ws : List Nat) (v : Value) (w : World) (h : Sl w 1 v ws.length (ints ws)) (hn0 : 0 < ws.length) (hn : ws.length < 20) (ht : total ≤ 1000000000)
    (hw : ∀ x ∈ ws, x ≤ 1000000000) (hs : 0 < ws.sum) :
    Calls Try.prog 6 #[.int .i64 total, v] w fun e w' => ∃ g : Nat, e = .returned (.tuple #[.slice (some ⟨g, 0, none⟩) ws.length ws.length, .int .i64 0]) ∧ w.heap.size ≤ g ∧
      Seg w' g 3 (ints (bumps ((sortedSmall total ws).take (total - (parts total ws.sum ws).sum)) (parts total ws.sum ws))) ∧ Below w.heap.size w w' := by
  refine divide_any total ws v w h hn0 (by omega) ht hw hs (sortedSmall total ws) ?_ ?_ ?_
  · unfold sortedSmall; rw [insTo_length, ints_length, List.length_range]
  · exact insTo_all _ _ _ (all_range _) _ (by rw [ints_length, List.length_range]; omega)
  · intro g p1 p2 p3 u h1 h2 h3 hg hb hseg
    exact sort_small _ _ g _ _ _ (cmp_divide w total ws v h (by omega) ht hw hs g p1 p2 p3 h1 h2 h3 hg) ws.length ws.length _ u (by rw [ints_length, List.length_range]) hn hseg hb (all_range _)

theorem Seg.sl {w : World} {g e n : Nat} {xs : List Value} (h : Seg w g e xs) (hn : xs.length = n) (hb : n ≤ 9223372036854775807) : Sl w 1 (.slice (some ⟨g, 0, none⟩) n n) n xs :=
  ⟨by rw [hn, Nat.mul_one], .inr ⟨⟨g, 0, none⟩, n, rfl, Nat.le_refl _, hb, fun i hi => by rw [addr_add, Nat.zero_add]; exact h.cell hi⟩⟩

theorem awake_parts : bumps ((sortedSmall 3 [1, 1]).take (3 - (parts 3 [1, 1].sum [1, 1]).sum)) (parts 3 [1, 1].sum [1, 1]) = [2, 1] := by decide +kernel

set_option maxHeartbeats 400000 in
theorem awake_any (w : World) : Calls Try.prog 9 #[] w fun e w' => e = .returned (.bool true) ∧ Below w.heap.size w w' := by
  have hD := Lib.hid (fun (v : Value) (w : World) (h : Sl w 1 v 2 (ints [1, 1])) => divide_small 3 [1, 1] v w h (by decide) (by decide) (by decide) (by decide) (by decide))
  go_enter Try.func9, Try.ntmps9
  go_wp2_with fail
  refine (hD.out _ _ (Seg.sl (g := w.heap.size) ⟨_, heap_alloc_new _ _, rfl⟩ rfl (by decide))).mono ?_
  rintro e w1 ⟨g, rfl, hg, hs, hb⟩
  rw [awake_parts] at hs
  have HS := Lib.hid hs
  have HB := Lib.hid (((Below.refl w.heap.size w).alloc (Nat.le_refl _) _).trans (hb.mono (by simp)))
  clear hs hb hg
  go_wp2_with fail
  have hb2 := (Below.refl w1.heap.size w1).alloc (Nat.le_refl _) (.cells #[.int .i64 2, .int .i64 1] 3)
  refine (eqInts_any _ _ [2, 1] [2, 1] _ ((HS.out.alloc _).sl rfl (by decide)) (Seg.sl (g := w1.heap.size) ⟨_, heap_alloc_new _ _, rfl⟩ rfl (by decide))).mono ?_
  rintro e w2 ⟨rfl, hb3⟩
  have HB3 := Lib.hid (HB.out.trans ((hb2.trans (hb3.mono (by simp))).mono HB.out.size))
  clear hb2 hb3
  go_wp2_with fail
  go_ret
  exact ⟨rfl, HB3.out⟩
end Go.Proofs.Ytpihcfpdaoflbaa
