/- cmp.Compare[int], within (program and reference 8), and the comparing closure of due.Divide. -/
import Derived.Test.YtpihcfpdaoflbaaI1
namespace Go.Proofs.Ytpihcfpdaoflbaa
open Go.RowKit
attribute [local go_sem ↓] run_min_kept run_max_kept

/-- n lies from a to b. -/
def inB (n a b : Int) : Bool := decide (a ≤ n ∧ n ≤ b)

set_option maxHeartbeats 400000 in
theorem within_any (n a b : Int) (w : World) :
    Calls Try.prog 16 #[.int .i64 n, .int .i64 a, .int .i64 b] w fun e w' => e = .returned (.bool (inB n a b)) ∧ w = w' := by
  by_cases h1 : a ≤ n
  · by_cases h2 : n ≤ b
    · have HB := Lib.hid (show inB n a b = true by simp [inB, h1, h2])
      go_enter Try.func16, Try.ntmps16
      go_wp2
      go_ret
      exact ⟨by rw [HB.out]; rfl, rfl⟩
    · have HB := Lib.hid (show inB n a b = false by simp [inB, h2])
      go_enter Try.func16, Try.ntmps16
      go_wp2
      go_ret
      exact ⟨by rw [HB.out]; rfl, rfl⟩
  · have HB := Lib.hid (show inB n a b = false by simp [inB, h1])
    go_enter Try.func16, Try.ntmps16
    go_wp2
    go_ret
    exact ⟨by rw [HB.out]; rfl, rfl⟩

set_option maxHeartbeats 400000 in
theorem rwithin_any (n a b : Int) (w : World) :
    Calls Try.prog 20 #[.int .i64 n, .int .i64 a, .int .i64 b] w fun e w' => e = .returned (.bool (inB n a b)) ∧ w = w' := by
  by_cases h1 : a ≤ n
  · by_cases h2 : n ≤ b
    · have HB := Lib.hid (show inB n a b = true by simp [inB, h1, h2])
      go_enter Try.func20, Try.ntmps20
      go_wp2
      go_ret
      exact ⟨by rw [HB.out]; rfl, rfl⟩
    · have HB := Lib.hid (show inB n a b = false by simp [inB, h2])
      go_enter Try.func20, Try.ntmps20
      go_wp2
      go_ret
      exact ⟨by rw [HB.out]; rfl, rfl⟩
  · have HB := Lib.hid (show inB n a b = false by simp [inB, h1])
    go_enter Try.func20, Try.ntmps20
    go_wp2
    go_ret
    exact ⟨by rw [HB.out]; rfl, rfl⟩

set_option maxHeartbeats 400000 in
theorem isNaN_any (x : Int) (w : World) : Calls Try.prog 24 #[.int .i64 x] w fun e w' => e = .returned (.bool false) ∧ w = w' := by
  go_enter Try.func24, Try.ntmps24
  go_wp2
  go_ret
  exact ⟨rfl, rfl⟩

/-- The three ways of two numbers. -/
def cmpI (x y : Int) : Int := if x < y then -1 else if y < x then 1 else 0

set_option maxHeartbeats 400000 in
theorem compare_any (x y : Int) (w : World) : Calls Try.prog 19 #[.int .i64 x, .int .i64 y] w fun e w' => e = .returned (.int .i64 (cmpI x y)) ∧ w = w' := by
  by_cases h : x < y
  · have HB := Lib.hid (show cmpI x y = -1 by simp [cmpI, h])
    go_enter Try.func19, Try.ntmps19
    go_wp2_with fail
    refine (isNaN_any _ _).mono ?_
    rintro e w' ⟨rfl, rfl⟩
    go_wp2_with fail
    refine (isNaN_any _ _).mono ?_
    rintro e w' ⟨rfl, rfl⟩
    go_wp2_with fail
    go_ret
    exact ⟨by rw [HB.out]; rfl, rfl⟩
  · by_cases h' : y < x
    · have HB := Lib.hid (show cmpI x y = 1 by simp [cmpI, h, h'])
      go_enter Try.func19, Try.ntmps19
      go_wp2_with fail
      refine (isNaN_any _ _).mono ?_
      rintro e w' ⟨rfl, rfl⟩
      go_wp2_with fail
      refine (isNaN_any _ _).mono ?_
      rintro e w' ⟨rfl, rfl⟩
      go_wp2_with fail
      go_ret
      exact ⟨by rw [HB.out]; rfl, rfl⟩
    · have HB := Lib.hid (show cmpI x y = 0 by simp [cmpI, h, h'])
      go_enter Try.func19, Try.ntmps19
      go_wp2_with fail
      refine (isNaN_any _ _).mono ?_
      rintro e w' ⟨rfl, rfl⟩
      go_wp2_with fail
      refine (isNaN_any _ _).mono ?_
      rintro e w' ⟨rfl, rfl⟩
      go_wp2_with fail
      go_ret
      exact ⟨by rw [HB.out]; rfl, rfl⟩

/-- Numbers as values. -/
def ints (l : List Nat) : List Value := l.map fun (c : Nat) => .int .i64 (c : Int)
theorem ints_length (l : List Nat) : (ints l).length = l.length := by simp [ints]
theorem ints_getD (l : List Nat) (k : Nat) (h : k < l.length) : (ints l).getD k undef = .int .i64 (l[k] : Int) := by
  simp [ints, List.getD_eq_getElem?_getD, h]

/-- What is over at a place. -/
def over (total all : Nat) (ws : List Nat) (x : Value) : Int := ((total * ws.getD (intOf x).toNat 0 % all : Nat) : Int)
def cmpDiv (total all : Nat) (ws : List Nat) (x y : Value) : Int := cmpI (over total all ws y) (over total all ws x)

/-- What the closure finds in the world: its three boxes, made behind w0, and the weights. -/
structure Boxes (w0 : World) (total all : Nat) (v : Value) (p1 p2 p3 : Nat) (w : World) : Prop where
  below : Below w0.heap.size w0 w
  c1 : w.cell? ⟨p1, 0, none⟩ = some (.int .i64 total)
  c2 : w.cell? ⟨p2, 0, none⟩ = some v
  c3 : w.cell? ⟨p3, 0, none⟩ = some (.int .i64 all)

theorem cell_wrote {g b i : Nat} {v : Value} {w w' : World} (h : w.cell? ⟨b, i, none⟩ = some v) (hw : Wrote g w w') (hb : b ≠ g) : w'.cell? ⟨b, i, none⟩ = some v := by
  have hlt := World.block_lt_of_cell? w _ h
  rw [← h]
  unfold World.cell?
  rw [hw.block b hlt (fun e => hb (by cases e; rfl))]

theorem Boxes.wrote {w0 w w' : World} {total all : Nat} {v : Value} {p1 p2 p3 g : Nat} (h : Boxes w0 total all v p1 p2 p3 w) (hw : Wrote g w w') (h0 : w0.heap.size ≤ g) (h1 : p1 ≠ g) (h2 : p2 ≠ g) (h3 : p3 ≠ g) : Boxes w0 total all v p1 p2 p3 w' :=
  ⟨hw.below h.below h.below.size h0, cell_wrote h.c1 hw h1, cell_wrote h.c2 hw h2, cell_wrote h.c3 hw h3⟩

def okIdx (n : Nat) (x : Value) : Prop := ∃ i : Nat, i < n ∧ x = .int .i64 i

theorem rem_nat (a b : Nat) : IntKind.i64.wrap ((a : Int).tmod (b : Int)) = IntKind.i64.wrap ((a % b : Nat) : Int) := by
  rw [Int.ofNat_tmod]

set_option maxHeartbeats 800000 in
theorem closure_any (w0 : World) (total all : Nat) (ws : List Nat) (v : Value) (p1 p2 p3 : Nat) (hs : Sl w0 1 v ws.length (ints ws)) (ht : total ≤ 1000000000) (hw : ∀ i (h : i < ws.length), ws[i] ≤ 1000000000) (ha : 0 < all) (hall : all ≤ 1000000000000)
    (i k : Nat) (hi : i < ws.length) (hk : k < ws.length) (w : World) (hb : Boxes w0 total all v p1 p2 p3 w) :
    Calls Try.prog 18 #[.int .i64 i, .int .i64 k, .pointer (some ⟨p1, 0, none⟩), .pointer (some ⟨p2, 0, none⟩), .pointer (some ⟨p3, 0, none⟩)] w fun e w' =>
      e = .returned (.int .i64 (cmpDiv total all ws (.int .i64 i) (.int .i64 k))) ∧ Below w.heap.size w w' := by
  have hsw := hs.below hb.below (Nat.le_refl _)
  obtain ⟨adi, hixi, hci⟩ := hsw.idx1 (et_ints) i (by omega) (by omega)
  obtain ⟨adk, hixk, hck⟩ := hsw.idx1 (et_ints) k (by omega) (by omega)
  rw [Int.toNat_natCast, ints_getD ws _ hi] at hci
  rw [Int.toNat_natCast, ints_getD ws _ hk] at hck
  have h1 := fun n => Later.cell hb.c1 n
  have h2 := fun n => Later.cell hb.c2 n
  have h3 := fun n => Later.cell hb.c3 n
  have h4 := fun n => Later.cell hci n
  have h5 := fun n => Later.cell hck n
  have hz : ((all : Int) == 0) = false := by rw [beq_eq_false_iff_ne]; omega
  have hz' : ¬ (all : Int) = 0 := by omega
  have mi : total * ws[i] ≤ 1000000000 * 1000000000 := Nat.mul_le_mul ht (hw i hi)
  have mk : total * ws[k] ≤ 1000000000 * 1000000000 := Nat.mul_le_mul ht (hw k hk)
  have qi : ((total : Int) * (ws[i] : Int)) = ((total * ws[i] : Nat) : Int) := by rw [Int.natCast_mul]
  have qk : ((total : Int) * (ws[k] : Int)) = ((total * ws[k] : Nat) : Int) := by rw [Int.natCast_mul]
  have oi : over total all ws (.int .i64 i) = ((total * ws[i] % all : Nat) : Int) := by simp [over, intOf, List.getD_eq_getElem?_getD, hi]
  have ok : over total all ws (.int .i64 k) = ((total * ws[k] % all : Nat) : Int) := by simp [over, intOf, List.getD_eq_getElem?_getD, hk]
  have HR := Lib.hid (show cmpDiv total all ws (.int .i64 i) (.int .i64 k) = cmpI ((total * ws[k] % all : Nat) : Int) ((total * ws[i] % all : Nat) : Int) by rw [cmpDiv, oi, ok])
  clear oi ok
  generalize ws[i] = a at *
  generalize ws[k] = b at *
  generalize total * a = ta at *
  generalize total * b = tb at *
  have Hs := Lib.hid hs
  have Hsw := Lib.hid hsw
  have Hb := Lib.hid hb
  clear hs hsw hb hci hck hw
  go_enter Try.func18, Try.ntmps18
  go_wp2_with fail
  refine wp_region_later (by kernel_rfl) (by kernel_rfl) ?_
  repeat (go_big_quiet_step (exact Calls.later_same (compare_any _ _ _)))
  unfold wpQuiet
  rintro _ ⟨m, rfl⟩
  go_wp2_with fail
  go_ret
  exact ⟨by rw [HR.out, Int.natCast_emod, Int.natCast_emod]; rfl, m.h⟩
end Go.Proofs.Ytpihcfpdaoflbaa
