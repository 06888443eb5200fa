/- The walks of bytesOf, low, both (reference) with slices.Concat and slices.Grow at []byte. -/
import Derived.Test.YtkflhehocbaoiaaR1
import Derived.Test.YtkflhehocbaoiaaK2
namespace Go.Proofs.Ytkflhehocbaoiaa
open Go.RowKit
attribute [local go_sem ↓] run_min_kept run_max_kept

theorem et_u8ss2 : ElemTy Try.prog 46 22 1 24 (.slice none 0 0) := ⟨by kernel_rfl, by kernel_rfl, by kernel_rfl, by decide⟩

theorem u8s_one (l : List UInt8) : ∀ u ∈ u8s l, u.oneCell' = true := by
  intro u hu
  simp only [u8s, List.mem_map] at hu
  obtain ⟨c, _, rfl⟩ := hu
  rfl
theorem u8s_append (l r : List UInt8) : u8s (l ++ r) = u8s l ++ u8s r := by simp [u8s]

/-- The bytes of a number while they are written, from the last one on. -/
def beTo (n many k : Nat) : List Value := List.replicate (many - k) (.int .u8 0) ++ (u8s (be n many)).drop (many - k)
theorem beTo_length (n many k : Nat) (_hk : k ≤ many) : (beTo n many k).length = many := by
  simp [beTo, u8s_length, be_length]
theorem beTo_step (n many k : Nat) (hk : k < many) : (beTo n many k).set (many - 1 - k) (.int .u8 ((n : Int) / 2 ^ (8 * k) % 256)) = beTo n many (k + 1) := by
  have h1 : many - k = (many - 1 - k) + 1 := by omega
  have h2 : many - (k + 1) = many - 1 - k := by omega
  unfold beTo
  rw [h2, h1, List.replicate_succ', List.append_assoc, List.set_append_right _ _ (by simp)]
  congr 1
  simp only [List.length_replicate, Nat.sub_self]
  rw [List.cons_append, List.set_cons_zero, List.nil_append]
  have hlt : many - 1 - k < (u8s (be n many)).length := by rw [u8s_length, be_length]; omega
  rw [List.drop_eq_getElem_cons hlt]
  congr 1
  simp only [u8s, List.getElem_map, be_get]
  rw [show many - 1 - (many - 1 - k) = k by omega]
  have h0 := Int.emod_nonneg ((n : Int) / 2 ^ (8 * k)) (show (256 : Int) ≠ 0 by omega)
  have h1 : (((UInt8.ofNat (n / 2 ^ (8 * k))).toNat : Nat) : Int) = (n : Int) / 2 ^ (8 * k) % 256 := by
    rw [← be_byte, UInt8.toNat_ofNat']
    omega
  rw [h1]

set_option maxHeartbeats 400000 in
theorem bytesOf_any (n many : Nat) (w : World) (_hn : n < 18446744073709551616) (hm : many ≤ 8) :
    Calls Try.prog 34 #[.int .u64 n, .int .i64 many] w fun e w' => ∃ v', e = .returned v' ∧
      w'.ownsRow w.heap.size 5 1 v' many (u8s (be n many)) ∧ Below w.heap.size w w' := by
  go_enter Try.func34, Try.ntmps34
  go_wp2_with (at_make; refine wpList_mkRow et_u8s _ _ rfl rfl rfl rfl rfl (by omega) (by omega) (Below.refl _ _) (Nat.le_refl _) ?_; intro w1 hrow hbel hsz1)
  have HR := Lib.hid hrow
  have HB := Lib.hid hbel
  clear hrow hbel
  go_loopw [10] (fun i wr => ∃ k : Nat, k ≤ many ∧ i = .int .i64 k ∧ Row wr w.heap.size 5 (beTo n many k) ∧ Below w.heap.size w wr) (fun i _ => many - (intOf i).toNat)
  case atStart => exact ⟨0, Nat.zero_le _, rfl, by
      unfold beTo
      rw [List.drop_eq_nil_of_le (by rw [u8s_length, be_length]; omega), List.append_nil]
      exact HR.out, HB.out⟩
  case round =>
    obtain ⟨k, hk, rfl, hr, hb⟩ := hrel
    have HR := Lib.hid hr
    have HB := Lib.hid hb
    clear hr hb
    by_cases hlt : k < many
    · have hi : many - 1 - k < (beTo n many k).length := by rw [beTo_length n many k hk]; omega
      have hcell := HR.out.cell hi
      have hfree := HR.out.free (many - 1 - k)
      have HS := Lib.hid (beTo_step n many k hlt)
      have hs1 : 8 * (k : Int) ≤ 64 := by omega
      generalize (beTo n many k)[many - 1 - k] = old at *
      go_wp2
      go_roundw
      case rel =>
        refine ⟨k + 1, by omega, by go_num, ?_, HB.out.setCell (Nat.le_refl _) _⟩
        rw [← HS.out]
        exact HR.out.set _ _
      case measure => simp [intOf]; omega
    · have e : k = many := by omega
      subst e
      have HR' := Lib.hid (show wr.ownsRow w.heap.size 5 1 (.slice (some ⟨w.heap.size, 0, none⟩) k k) k (u8s (be n k)) by
        have h1 := HR.out.owns (Nat.le_refl _) (by rw [beTo_length n k k (by omega)]; omega)
        rw [beTo_length n k k (by omega)] at h1
        simpa [beTo] using h1)
      go_wp2
      go_ret
      exact ⟨_, rfl, HR'.out, HB.out⟩

set_option maxHeartbeats 400000 in
theorem low_any (n : Nat) (w : World) (hn : n < 4294967296) :
    Calls Try.prog 30 #[.int .u32 n] w fun e w' => e = .returned (.int .u64 (leafN n : Nat)) ∧ Below w.heap.size w w' := by
  have hni : ((n : Nat) : Int) < 4294967296 := by omega
  go_enter Try.func30, Try.ntmps30
  go_wp2_with fail
  have hrow : Row (w.alloc (.cells #[.int .u8 0] 5)) w.heap.size 5 [.int .u8 0] := heap_alloc_new w _
  have hbel : Below w.heap.size w (w.alloc (.cells #[.int .u8 0] 5)) := (Below.refl _ _).alloc (Nat.le_refl _) _
  have hsz : (w.alloc (.cells #[.int .u8 0] 5)).heap.size = w.heap.size + 1 := by simp
  generalize (w.alloc (.cells #[.int .u8 0] 5)) = w1 at *
  refine (bytesOf_any n 4 _ (by omega) (by omega)).mono ?_
  rintro e w2 ⟨v2, rfl, ho2, hb2⟩
  have hown : w2.ownsRow w.heap.size 5 1 (.slice (some ⟨w.heap.size, 0, none⟩) 1 1) 1 [.int .u8 0] := (hrow.below hb2 (by omega)).owns (Nat.le_refl _) (by simp)
  have HO := Lib.hid hown
  have HS := Lib.hid (Sl.ofOwns ho2)
  have HB := Lib.hid (hbel.trans (hb2.mono (by omega)))
  have hsz2 : w.heap.size ≤ w2.heap.size := by have := hb2.size; omega
  clear hown ho2 hbel hb2 hrow hsz
  go_wp2_with (at_builtin; refine wpList_cat et_u8s _ _ rfl rfl HO.out rfl rfl HS.out (u8s_one _) (by omega) (by omega) HB.out hsz2 ?_; intro v3 w3 hown3 hbel3 hsz3 _)
  have hsl : Sl w3 1 v3 (0 :: be n 4).length (u8s (0 :: be n 4)) := by
    have := Sl.ofOwns hown3
    simpa [u8s, be_length] using this
  have HB3 := Lib.hid hbel3
  have HS3 := Lib.hid hsl
  clear hown3 hbel3 hsl
  go_wp2_with fail
  refine (mix_any _ (0 :: be n 4) _ HS3.out).mono ?_
  rintro e w' ⟨rfl, rfl⟩
  go_wp2
  go_ret
  exact ⟨rfl, HB3.out⟩

set_option maxHeartbeats 400000 in
theorem grow_any (n : Nat) (w : World) (hn : n ≤ 1000000000) :
    Calls Try.prog 36 #[.slice none 0 0, .int .i64 n] w fun e w' => ∃ v', e = .returned v' ∧ w'.ownsRow w.heap.size 5 1 v' 0 [] ∧ Below w.heap.size w w' := by
  by_cases h0 : n = 0
  · subst h0
    go_enter Try.func36, Try.ntmps36
    go_wp2
    go_ret
    exact ⟨_, rfl, World.ownsRow_nil _ _ _ _, Below.refl _ _⟩
  · go_enter Try.func36, Try.ntmps36
    go_wp2_with (at_builtin; refine wpList_appendMk et_u8s (by kernel_rfl) _ _ rfl rfl rfl rfl (by omega) (by omega) (by omega) (Below.refl w.heap.size w) (Nat.le_refl _) ?_; intro c w1 hc1 hc0 hc2 hown hbel hsz)
    have HO := Lib.hid hown
    have HB := Lib.hid hbel
    clear hown hbel
    have hc3 : ¬ (c = 0) := by omega
    go_wp2
    go_ret
    exact ⟨_, rfl, HO.out, HB.out⟩

/-- The slices vs read as the lists of bytes ls. -/
def Lists (w : World) (vs : List Value) (ls : List (List UInt8)) : Prop := vs.length = ls.length ∧ ∀ i (h : i < vs.length) (h' : i < ls.length), Sl w 1 vs[i] ls[i].length (u8s ls[i])
theorem Lists.below {B : Nat} {w w' : World} {vs : List Value} {ls : List (List UInt8)} (h : Lists w vs ls) (hb : Below B w w') (hB : w.heap.size ≤ B) : Lists w' vs ls :=
  ⟨h.1, fun i hi hi' => (h.2 i hi hi').below hb hB⟩

def catL (ls : List (List UInt8)) : List UInt8 := ls.flatten
theorem sum_take_le (ls : List (List UInt8)) (k : Nat) : (catL (ls.take k)).length ≤ (catL ls).length := by
  have h := List.take_append_drop k ls
  have h2 : (catL ls) = (catL (ls.take k)) ++ (catL (ls.drop k)) := by unfold catL; rw [← List.flatten_append, h]
  rw [h2, List.length_append]; omega
theorem flatten_take_succ (ls : List (List UInt8)) (k : Nat) (h : k < ls.length) : (catL (ls.take (k + 1))) = (catL (ls.take k)) ++ ls[k] := by
  unfold catL; rw [take_snoc ls k h, List.flatten_append]; simp

set_option maxHeartbeats 800000 in
theorem concat_any (v : Value) (vs : List Value) (ls : List (List UInt8)) (w : World) (h : Sl w 1 v vs.length vs) (hls : Lists w vs ls) (hn : (catL ls).length ≤ 1000000000) (hm : vs.length ≤ 1000) :
    Calls Try.prog 35 #[v] w fun e w' => ∃ v', e = .returned v' ∧ w'.ownsRow w.heap.size 5 1 v' (catL ls).length (u8s (catL ls)) ∧ Below w.heap.size w w' := by
  have hlen := h.len et_u8ss2.ht 3
  have H := Lib.hid h
  have HL := Lib.hid hls
  have HE := Lib.hid hls.1
  have HT := Lib.hid (sum_take_le ls)
  clear h hls
  go_enter Try.func35, Try.ntmps35
  go_wp2_with fail
  go_loop [3, 11] (fun x i => ∃ k : Nat, k ≤ vs.length ∧ i = .int .i64 k ∧ x = .int .i64 ((catL (ls.take k)).length : Nat)) (fun _ i => vs.length - (intOf i).toNat)
  case atStart => exact ⟨0, Nat.zero_le _, rfl, rfl⟩
  case round =>
    obtain ⟨k, hk, rfl, rfl⟩ := hrel
    by_cases hlt : k < vs.length
    · have hlt' : k < ls.length := by rw [← HE.out]; exact hlt
      obtain ⟨ad, hix, hcell⟩ := H.out.idx1 et_u8ss2 k (by omega) (by omega)
      rw [Int.toNat_natCast, List.getD_eq_getElem?_getD, List.getElem?_eq_getElem hlt, Option.getD_some] at hcell
      have hlk := (HL.out.2 k hlt hlt').len et_u8s.ht 3
      have HF := Lib.hid (flatten_take_succ ls k hlt')
      have ht0 := HT.out (k + 1)
      have ht1 : (catL (ls.take (k + 1))).length = (catL (ls.take k)).length + ls[k].length := by rw [HF.out, List.length_append]
      generalize ls[k].length = m at *
      generalize (catL (ls.take k)).length = a at *
      generalize hb : (catL (ls.take (k + 1))).length = b at *
      have HB := Lib.hid hb
      have HT1 := Lib.hid ht1
      have hb1 : a + m ≤ 1000000000 := by omega
      clear hb ht0 ht1
      go_wp2
      go_round
      case rel => exact ⟨k + 1, by omega, by go_num, by rw [HB.out, HT1.out]; go_num⟩
      case measure => simp [intOf]; omega
    · have e : k = vs.length := by omega
      subst e
      have HN := Lib.hid (show (catL (ls.take vs.length)) = (catL ls) by rw [HE.out, List.take_length])
      rw [HN.out]
      go_wp2_with fail
      refine (grow_any _ _ hn).mono ?_
      rintro e w1 ⟨v1, rfl, ho1, hb1⟩
      have HO1 := Lib.hid ho1
      have HB1 := Lib.hid hb1
      clear ho1 hb1
      go_wp2_with fail
      go_loopw [6, 27] (fun x i wr => ∃ k : Nat, k ≤ vs.length ∧ i = .int .i64 k ∧ wr.ownsRow w.heap.size 5 1 x (catL (ls.take k)).length (u8s (catL (ls.take k))) ∧ Below w.heap.size w wr) (fun _ i _ => vs.length - (intOf i).toNat)
      case atStart => exact ⟨0, Nat.zero_le _, rfl, by simpa [u8s, catL] using HO1.out, HB1.out⟩
      case round =>
        obtain ⟨k, hk, rfl, hown, hbel⟩ := hrel
        have HO := Lib.hid hown
        have HB := Lib.hid hbel
        have hsz := hbel.size
        clear hown hbel
        by_cases hlt : k < vs.length
        · have hlt' : k < ls.length := by rw [← HE.out]; exact hlt
          obtain ⟨ad, hix, hcell⟩ := (H.out.below HB.out (Nat.le_refl _)).idx1 et_u8ss2 k (by omega) (by omega)
          rw [Int.toNat_natCast, List.getD_eq_getElem?_getD, List.getElem?_eq_getElem hlt, Option.getD_some] at hcell
          have HK := Lib.hid ((HL.out.below HB.out (Nat.le_refl _)).2 k hlt hlt')
          have HF := Lib.hid (flatten_take_succ ls k hlt')
          have ht0 := HT.out (k + 1)
          rw [HF.out, List.length_append] at ht0
          go_wp2_with (at_builtin; refine wpList_cat et_u8s _ _ rfl rfl HO.out rfl rfl HK.out (u8s_one _) (by omega) (by omega) HB.out hsz ?_; intro v3 w3 hown3 hbel3 hsz3 _)
          have HO3 := Lib.hid hown3
          have HB3 := Lib.hid hbel3
          clear hown3 hbel3
          go_wp2
          go_roundw
          case rel => exact ⟨k + 1, by omega, by go_num, by rw [HF.out, List.length_append, u8s_append]; exact HO3.out, HB3.out⟩
          case measure => simp [intOf]; omega
        · have e : k = vs.length := by omega
          subst e
          have HO' := Lib.hid (show wr.ownsRow w.heap.size 5 1 u6 (catL ls).length (u8s (catL ls)) by
            have := HO.out
            rwa [HN.out] at this)
          go_wp2
          go_ret
          exact ⟨_, rfl, HO'.out, HB.out⟩
end Go.Proofs.Ytkflhehocbaoiaa
