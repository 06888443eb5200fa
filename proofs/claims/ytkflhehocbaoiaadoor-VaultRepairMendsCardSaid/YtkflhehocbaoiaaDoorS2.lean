/- The walks of cut and Sums (reference) and of slices.Equal at []uint32. -/
import Derived.Test.YtkflhehocbaoiaaDoorS1
namespace Go.Proofs.YtkflhehocbaoiaaDoor
open Go.RowKit
attribute [local go_sem ↓] run_min_kept run_max_kept

/-- The slices vs read as the first blocks of l. -/
def Blocks (w : World) (l : List UInt8) (b : Nat) (vs : List Value) : Prop := AllAt (fun i v => Sl w 1 v (chunk l b i).length (u8s (chunk l b i))) vs

theorem Blocks.below {B : Nat} {w w' : World} {l : List UInt8} {b : Nat} {vs : List Value} (h : Blocks w l b vs) (hb : Below B w w') (hB : w.heap.size ≤ B) : Blocks w' l b vs :=
  h.imp fun _ _ hi => hi.below hb hB

/-- An old slice is as it was behind a step of the call. -/
theorem Sl.later {w0 w w' : World} {size n : Nat} {v : Value} {xs : List Value} (h : Sl w0 size v n xs) (_ : Below w0.heap.size w0 w) (hb : Below w0.heap.size w0 w') : Sl w' size v n xs := h.below hb (Nat.le_refl _)

/-- How many rounds the loop over blocks has. -/
theorem nblk_lt (n b k : Nat) (hb : 1 ≤ b) : k * b < n ↔ k < nblk n b := by
  unfold nblk
  rw [Nat.lt_div_iff_mul_lt (by omega)]
  omega

set_option maxHeartbeats 400000 in
theorem cut_any (v : Value) (l : List UInt8) (b : Nat) (w : World) (h : Sl w 1 v l.length (u8s l)) (hn : l.length ≤ 20000) (hb1 : 1 ≤ b) (hb2 : b ≤ 20000) :
    Calls Tryd.prog 37 #[v, .int .i64 b] w fun e w' => ∃ v' vs, e = .returned v' ∧
      w'.ownsRow w.heap.size 22 1 v' (nblk l.length b) vs ∧ vs.length = nblk l.length b ∧ Blocks w l b vs ∧ Below w.heap.size w w' := by
  have hlen := h.len et_u8s.ht 3
  have HH := Lib.hid h
  have HK := Lib.hid (nblk_lt l.length b · hb1)
  have hN := nblk_le l.length b hb1
  generalize nblk l.length b = N at *
  clear h
  go_enter Tryd.func37, Tryd.ntmps37
  go_wp2_with fail
  go_loopw [5, 6] (fun x i wr => ∃ (k : Nat) (vs : List Value), k ≤ N ∧ i = .int .i64 ((k * b : Nat) : Int) ∧ wr.ownsRow w.heap.size 22 1 x k vs ∧ vs.length = k ∧ Blocks w l b vs ∧ Below w.heap.size w wr) (fun _ i _ => l.length + b - (intOf i).toNat)
  case atStart => exact ⟨0, [], Nat.zero_le _, by simp, World.ownsRow_nil _ _ _ _, rfl, AllAt.nil _, Below.refl _ _⟩
  case round =>
    obtain ⟨k, vs, hk, rfl, hown, hvs, hbk, hbel⟩ := hrel
    have hsz := hbel.size
    have HO := Lib.hid hown
    have HE := Lib.hid hbel
    have HB := Lib.hid hbk
    have HV := Lib.hid hvs
    clear hown hbel hbk hvs
    by_cases hlt : k < N
    · have hkb : k * b < l.length := (HK.out k).2 hlt
      have hkb0 : (0 : Int) ≤ ((k * b : Nat) : Int) := by omega
      have hkb1 : ((k * b : Nat) : Int) < l.length := by omega
      obtain ⟨vc, hsl, hvc⟩ := (HH.out.later (Below.refl _ _) HE.out).cut et_u8s ((k * b : Nat) : Int) (min (((k * b : Nat) : Int) + (b : Int)) (l.length : Int)) (by omega) (by omega) (by omega)
      have hvc' : Sl w 1 vc (chunk l b k).length (u8s (chunk l b k)) := by
        obtain ⟨vc', hsl', hvc'⟩ := HH.out.cut et_u8s ((k * b : Nat) : Int) (min (((k * b : Nat) : Int) + (b : Int)) (l.length : Int)) (by omega) (by omega) (by omega)
        have he : vc = vc' := by
          have h1 := hsl w
          rw [hsl' w] at h1
          cases h1; rfl
        subst he
        have e2 : (min (((k * b : Nat) : Int) + (b : Int)) (l.length : Int)).toNat = min (k * b + b) l.length := by omega
        rw [e2, Int.toNat_natCast, Nat.mul_one, Nat.mul_one, u8s_cut] at hvc'
        have e3 : (l.drop (k * b)).take (min (k * b + b) l.length - k * b) = chunk l b k := by
          unfold chunk
          by_cases hc : k * b + b ≤ l.length
          · congr 1; omega
          · rw [List.take_of_length_le (by simp; omega), List.take_of_length_le (by simp; omega)]
        rw [e3] at hvc'
        have e4 : min (k * b + b) l.length - k * b = (chunk l b k).length := by rw [← e3]; simp; omega
        rw [e4] at hvc'
        exact hvc'
      have HC := Lib.hid hvc'
      have h1 := hvc.oneCell
      clear hvc hvc'
      generalize hkbe : ((k * b : Nat) : Int) = kb at *
      have HKB := Lib.hid hkbe
      clear hkbe
      go_wp2_with (first | (refine wpList_lit1 et_u8ss _ rfl rfl rfl h1 ?_) | (at_builtin; refine wpList_push et_u8ss _ _ rfl rfl HO.out rfl rfl rfl (one1 h1) (by omega) (by omega) HE.out hsz ?_; intro v' w' hown' hbel' hsz' _))
      have HO' := Lib.hid hown'
      have HE' := Lib.hid hbel'
      clear hown' hbel'
      go_wp2
      go_roundw
      case rel =>
        refine ⟨k + 1, vs ++ [vc], by omega, ?_, HO'.out, by simp [HV.out], ?_, HE'.out⟩
        · have := HKB.out
          rw [show (((k + 1) * b : Nat) : Int) = kb + b by rw [Nat.succ_mul]; omega]
        · exact HB.out.snoc (by rw [HV.out]; exact HC.out)
      case measure => simp [intOf]; omega
    · have e : k = N := by omega
      subst e
      have hge : (l.length : Int) ≤ ((k * b : Nat) : Int) := by
        have := HK.out k
        omega
      have hlt0 : ((k * b : Nat) : Int) < l.length + b + 1 := by
        rcases Nat.eq_zero_or_pos k with h0 | h0
        · subst h0; simp; omega
        · have h1 := (HK.out (k - 1)).2 (by omega)
          have h2 : k * b = (k - 1) * b + b := by rw [← Nat.succ_mul]; congr 1; omega
          omega
      generalize ((k * b : Nat) : Int) = kb at *
      go_wp2
      go_ret
      exact ⟨_, vs, rfl, HO.out, HV.out, HB.out, HE.out⟩

set_option maxHeartbeats 400000 in
theorem rSums_ok (v : Value) (l : List UInt8) (b : Nat) (w : World) (h : Sl w 1 v l.length (u8s l)) (hn : l.length ≤ 20000) (hb1 : 1 ≤ b) (hb2 : b ≤ 20000) :
    Calls Tryd.prog 23 #[v, .int .i64 b] w fun e w' => ∃ v', e = .returned (.tuple #[v', .int .i64 0]) ∧
      w'.ownsRow w.heap.size 50 1 v' (nblk l.length b) (u32s (sumsTo l b (nblk l.length b))) ∧ Below w.heap.size w w' := by
  have hlen := h.len et_u8s.ht 3
  have HH := Lib.hid h
  have hN := nblk_le l.length b hb1
  have hin := Lib.hid (show inB b 1 20000 = true by simp [inB]; omega)
  have HC := Lib.hid (fun w h => cut_any v l b w h hn hb1 hb2)
  generalize nblk l.length b = N at *
  clear h
  go_enter Tryd.func23, Tryd.ntmps23
  go_wp2_with fail
  refine (within_any _ _ _ _).mono ?_
  rintro e w' ⟨rfl, rfl⟩
  rw [hin.out]
  go_wp2_with fail
  refine (HC.out _ HH.out).mono ?_
  rintro e w1 ⟨vc, vs, rfl, hown1, hvs, hbk, hbel1⟩
  have hsz1 := hbel1.size
  have hsl : Sl w1 1 vc N vs := .ofOwns hown1
  have hlen1 := hsl.len et_u8ss.ht 3
  have HS := Lib.hid hsl
  have HB := Lib.hid hbk
  have HE1 := Lib.hid hbel1
  have HV := Lib.hid hvs
  clear hsl hbk hbel1 hvs hown1
  go_wp2_with fail
  go_loopw [6, 19] (fun x i wr => ∃ k : Nat, k ≤ N ∧ i = .int .i64 k ∧ wr.ownsRow w1.heap.size 50 1 x k (u32s (sumsTo l b k)) ∧ Below w1.heap.size w1 wr) (fun _ i _ => N - (intOf i).toNat)
  case atStart => exact ⟨0, Nat.zero_le _, rfl, World.ownsRow_nil _ _ _ _, Below.refl _ _⟩
  case round =>
    obtain ⟨k, hk, rfl, hown, hbel⟩ := hrel
    have hsz := hbel.size
    have HO := Lib.hid hown
    have HE := Lib.hid hbel
    clear hown hbel
    by_cases hlt : k < N
    · obtain ⟨ad, hix, hcell⟩ := (HS.out.below HE.out (Nat.le_refl _)).idx1 et_u8ss k (by omega) (by omega)
      have hkv : k < vs.length := by rw [HV.out]; exact hlt
      rw [Int.toNat_natCast, List.getD_eq_getElem?_getD, List.getElem?_eq_getElem hkv, Option.getD_some] at hcell
      have HC := Lib.hid (((HB.out.below HE1.out (Nat.le_refl _)).below HE.out (Nat.le_refl _)).at hkv)
      generalize vs[k] = vk at *
      go_wp2_with fail
      refine (rSum_any _ (chunk l b k) _ HC.out).mono ?_
      rintro e w' ⟨rfl, rfl⟩
      go_wp2_with (at_builtin; refine wpList_push et_u32s _ _ rfl rfl HO.out rfl rfl rfl (one1 rfl) (by omega) (by omega) HE.out hsz ?_; intro v' w' hown' hbel' hsz' _)
      have HO' := Lib.hid hown'
      have HE' := Lib.hid hbel'
      clear hown' hbel'
      go_wp2
      go_roundw
      case rel => exact ⟨k + 1, by omega, by go_num, by rw [sumsTo_succ, u32s_snoc]; exact HO'.out, HE'.out⟩
      case measure => simp [intOf]; omega
    · have e : k = N := by omega
      subst e
      go_wp2
      go_ret2
      exact ⟨_, rfl, HO.out.base (by omega), HE1.out.trans (HE.out.mono (by omega))⟩

end Go.Proofs.YtkflhehocbaoiaaDoor
