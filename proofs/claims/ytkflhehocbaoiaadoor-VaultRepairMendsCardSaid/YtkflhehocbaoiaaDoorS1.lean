/- The walks of Sum (program and reference), of blocks and blockOf, of Within, and of slices.Equal at []uint32: what each returns, whatever the slices; old memory is as it was. -/
import Derived.Test.YtkflhehocbaoiaaDoorK
namespace Go.Proofs.YtkflhehocbaoiaaDoor
open Go.RowKit
attribute [local go_sem ↓] run_min_kept run_max_kept

theorem et_u8s : ElemTy Tryd.prog 22 5 1 1 (.int .u8 0) := ⟨by kernel_rfl, by kernel_rfl, by kernel_rfl, by decide⟩
theorem et_u32s : ElemTy Tryd.prog 23 50 1 4 (.int .u32 0) := ⟨by kernel_rfl, by kernel_rfl, by kernel_rfl, by decide⟩
theorem et_u8ss : ElemTy Tryd.prog 33 22 1 24 (.slice none 0 0) := ⟨by kernel_rfl, by kernel_rfl, by kernel_rfl, by decide⟩

/-- Bytes as values. -/
def u8s (l : List UInt8) : List Value := l.map fun c => .int .u8 (c.toNat : Int)
/-- Sums as values. -/
def u32s (l : List Nat) : List Value := l.map fun (c : Nat) => .int .u32 (c : Int)

theorem u8s_length (l : List UInt8) : (u8s l).length = l.length := by simp [u8s]
theorem u32s_length (l : List Nat) : (u32s l).length = l.length := by simp [u32s]
theorem u8s_getD (l : List UInt8) (k : Nat) (h : k < l.length) : (u8s l).getD k undef = .int .u8 (l[k].toNat : Int) := by
  simp [u8s, List.getD_eq_getElem?_getD, h]
theorem u32s_getD (l : List Nat) (k : Nat) (h : k < l.length) : (u32s l).getD k undef = .int .u32 (l[k] : Int) := by
  simp [u32s, List.getD_eq_getElem?_getD, h]
theorem u8s_cut (l : List UInt8) (a b : Nat) : ((u8s l).drop a).take b = u8s ((l.drop a).take b) := by
  simp [u8s, List.map_take, List.map_drop]

def fstep (x : Nat) (c : UInt8) : Nat := ((x ^^^ c.toNat) * 16777619) % 4294967296
def fseed : Nat := 2166136261
def fnv (l : List UInt8) : Nat := l.foldl fstep fseed

theorem fnv_snoc (l : List UInt8) (c : UInt8) : fnv (l ++ [c]) = fstep (fnv l) c := by unfold fnv; rw [List.foldl_append, List.foldl_cons, List.foldl_nil]
theorem fstep_lt (x : Nat) (c : UInt8) : fstep x c < 4294967296 := by unfold fstep; omega
theorem fnv_lt (l : List UInt8) : fnv l < 4294967296 := by
  rcases List.eq_nil_or_concat l with rfl | ⟨l', c, rfl⟩
  · show fseed < _; unfold fseed; omega
  · rw [List.concat_eq_append, fnv_snoc]; exact fstep_lt _ _

theorem take_snoc {α : Type} (l : List α) (k : Nat) (h : k < l.length) : l.take (k + 1) = l.take k ++ [l[k]] := by
  rw [List.take_succ_eq_append_getElem h]

theorem fstep_u32 (x : Nat) (c : UInt8) (hx : x < 4294967296) : bits .xor .u32 (x : Int) (c.toNat : Int) * 16777619 % 4294967296 = ((fstep x c : Nat) : Int) := by
  rw [u32_xor_nat x c.toNat hx (by have := c.toNat_lt; omega)]
  unfold fstep
  omega
theorem fstep_u64 (x : Nat) (c : UInt8) (hx : x < 4294967296) : bits .xor .u64 (x : Int) (c.toNat : Int) * 16777619 % 4294967296 = ((fstep x c : Nat) : Int) ∧
    0 ≤ bits .xor .u64 (x : Int) (c.toNat : Int) ∧ bits .xor .u64 (x : Int) (c.toNat : Int) < 4294967296 := by
  rw [u64_xor_nat x c.toNat (by omega) (by have := c.toNat_lt; omega)]
  have hlt : x ^^^ c.toNat < 2 ^ 32 := Nat.xor_lt_two_pow (by omega) (by have := c.toNat_lt; omega)
  unfold fstep
  refine ⟨by omega, by omega, by omega⟩

set_option maxHeartbeats 400000 in
theorem vSum_any (v : Value) (l : List UInt8) (w : World) (h : Sl w 1 v l.length (u8s l)) :
    Calls Tryd.prog 32 #[v] w fun e w' => e = .returned (.int .u32 (fnv l)) ∧ w = w' := by
  have hl := h.bound
  have hlen := h.len et_u8s.ht 3
  have HH := Lib.hid h
  clear h
  go_enter Tryd.func32, Tryd.ntmps32
  go_wp2
  go_loop [3, 8] (fun x i => ∃ k : Nat, k ≤ l.length ∧ i = .int .i64 k ∧ x = .int .u32 (fnv (l.take k))) (fun _ i => l.length - (intOf i).toNat)
  case atStart => exact ⟨0, Nat.zero_le _, rfl, rfl⟩
  case round =>
    obtain ⟨k, hk, rfl, rfl⟩ := hrel
    by_cases hlt : k < l.length
    · obtain ⟨ad, hix, hcell⟩ := HH.out.idx1 et_u8s k (by omega) (by omega)
      rw [Int.toNat_natCast, u8s_getD l k hlt] at hcell
      have hb : (l[k].toNat : Int) < 256 := by have := l[k].toNat_lt; omega
      have HS := Lib.hid (fstep_u32 (fnv (l.take k)) l[k] (fnv_lt _))
      go_wp2
      go_round
      case rel => 
        refine ⟨k + 1, by omega, by go_num, ?_⟩
        rw [take_snoc l k hlt, fnv_snoc, ← HS.out]
      case measure => simp [intOf]; omega
    · have e : k = l.length := by omega
      subst e
      rw [List.take_length]
      go_wp2
      go_ret
      exact ⟨rfl, rfl⟩

set_option maxHeartbeats 400000 in
theorem rSum_any (v : Value) (l : List UInt8) (w : World) (h : Sl w 1 v l.length (u8s l)) :
    Calls Tryd.prog 38 #[v] w fun e w' => e = .returned (.int .u32 (fnv l)) ∧ w = w' := by
  have hl := h.bound
  have hlen := h.len et_u8s.ht 3
  have HH := Lib.hid h
  clear h
  go_enter Tryd.func38, Tryd.ntmps38
  go_wp2
  go_loop [3, 8] (fun x i => ∃ k : Nat, k ≤ l.length ∧ i = .int .i64 k ∧ x = .int .u64 (fnv (l.take k))) (fun _ i => l.length - (intOf i).toNat)
  case atStart => exact ⟨0, Nat.zero_le _, rfl, rfl⟩
  case round =>
    obtain ⟨k, hk, rfl, rfl⟩ := hrel
    by_cases hlt : k < l.length
    · obtain ⟨ad, hix, hcell⟩ := HH.out.idx1 et_u8s k (by omega) (by omega)
      rw [Int.toNat_natCast, u8s_getD l k hlt] at hcell
      have hb : (l[k].toNat : Int) < 256 := by have := l[k].toNat_lt; omega
      have HS := Lib.hid (fstep_u64 (fnv (l.take k)) l[k] (fnv_lt _)).1
      have hx0 := (fstep_u64 (fnv (l.take k)) l[k] (fnv_lt _)).2.1
      have hx1 := (fstep_u64 (fnv (l.take k)) l[k] (fnv_lt _)).2.2
      go_wp2
      go_round
      case rel => 
        refine ⟨k + 1, by omega, by go_num, ?_⟩
        rw [take_snoc l k hlt, fnv_snoc, ← HS.out]
      case measure => simp [intOf]; omega
    · have e : k = l.length := by omega
      subst e
      rw [List.take_length]
      have hf : ((fnv l : Nat) : Int) < 4294967296 := by have := fnv_lt l; omega
      go_wp2
      go_ret
      exact ⟨rfl, rfl⟩

set_option maxHeartbeats 400000 in
theorem blocks_any (n b : Int) (w : World) (h0 : 0 ≤ n) (h1 : 1 ≤ b) (h2 : n + b ≤ 4611686018427387904) :
    Calls Tryd.prog 25 #[.int .i64 n, .int .i64 b] w fun e w' => e = .returned (.int .i64 ((n + b - 1) / b)) ∧ w = w' := by
  have hb : (b == 0) = false := by simp; omega
  go_enter Tryd.func25, Tryd.ntmps25
  go_wp2
  go_ret
  exact ⟨rfl, rfl⟩

/-- n lies from a to b. -/
def inB (n a b : Int) : Bool := decide (a ≤ n ∧ n ≤ b)

set_option maxHeartbeats 400000 in
theorem within_any (n a b : Int) (w : World) :
    Calls Tryd.prog 26 #[.int .i64 n, .int .i64 a, .int .i64 b] w fun e w' => e = .returned (.bool (inB n a b)) ∧ w = w' := by
  by_cases h1 : a ≤ n
  · by_cases h2 : n ≤ b
    · have HB := Lib.hid (show inB n a b = true by simp [inB, h1, h2])
      go_enter Tryd.func26, Tryd.ntmps26
      go_wp2
      go_ret
      exact ⟨by rw [HB.out]; rfl, rfl⟩
    · have HB := Lib.hid (show inB n a b = false by simp [inB, h2])
      go_enter Tryd.func26, Tryd.ntmps26
      go_wp2
      go_ret
      exact ⟨by rw [HB.out]; rfl, rfl⟩
  · have HB := Lib.hid (show inB n a b = false by simp [inB, h1])
    go_enter Tryd.func26, Tryd.ntmps26
    go_wp2
    go_ret
    exact ⟨by rw [HB.out]; rfl, rfl⟩

/-- Block i of bytes. -/
def chunk (l : List UInt8) (b i : Nat) : List UInt8 := (l.drop (i * b)).take b

set_option maxHeartbeats 400000 in
theorem blockOf_any (v : Value) (l : List UInt8) (b i : Nat) (w : World) (h : Sl w 1 v l.length (u8s l)) (hb : b ≤ 1000000) (hi : i ≤ 1000000) :
    Calls Tryd.prog 36 #[v, .int .i64 b, .int .i64 i] w fun e w' => ∃ v', e = .returned v' ∧ Sl w 1 v' (chunk l b i).length (u8s (chunk l b i)) ∧ w = w' := by
  have hl := h.bound
  have hlen := h.len et_u8s.ht 3
  have hp0 : i * b ≤ 1000000 * 1000000 := Nat.mul_le_mul hi hb
  have hp1 : (i + 1) * b = i * b + b := Nat.succ_mul i b
  obtain ⟨v', hsl, hv⟩ := h.cut et_u8s (min (l.length : Int) ((i * b : Nat) : Int)) (min (l.length : Int) (((i + 1) * b : Nat) : Int)) (by omega) (by omega) (by omega)
  have hres : Sl w 1 v' (chunk l b i).length (u8s (chunk l b i)) := by
    have e1 : (min (l.length : Int) ((i * b : Nat) : Int)).toNat = min l.length (i * b) := by omega
    have e2 : (min (l.length : Int) (((i + 1) * b : Nat) : Int)).toNat = min l.length (i * b + b) := by omega
    rw [e1, e2, Nat.mul_one, Nat.mul_one, u8s_cut] at hv
    have e3 : ((l.drop (min l.length (i * b))).take (min l.length (i * b + b) - min l.length (i * b))) = chunk l b i := by
      unfold chunk
      by_cases hc : i * b ≤ l.length
      · rw [Nat.min_eq_right hc]
        by_cases hc2 : i * b + b ≤ l.length
        · rw [Nat.min_eq_right hc2]; congr 1; omega
        · rw [Nat.min_eq_left (by omega), List.take_of_length_le (by simp), List.take_of_length_le (by simp; omega)]
      · rw [List.drop_eq_nil_of_le (show l.length ≤ min l.length (i * b) by omega), List.drop_eq_nil_of_le (show l.length ≤ i * b by omega)]; simp
    rw [e3] at hv
    have e4 : min l.length (i * b + b) - min l.length (i * b) = (chunk l b i).length := by
      rw [← e3]; simp; omega
    rw [e4] at hv
    exact hv
  have HR := Lib.hid hres
  clear hres hv h
  simp only [Int.natCast_mul, Int.natCast_add, Int.natCast_one] at hsl hp0 hp1
  have k0 : (0 : Int) ≤ (i : Int) * (b : Int) := Int.mul_nonneg (by omega) (by omega)
  have k1 : ((i : Int) + 1) * (b : Int) = (i : Int) * (b : Int) + (b : Int) := by rw [Int.add_mul, Int.one_mul]
  have k2 : (i : Int) * (b : Int) ≤ 1000000000000 := by
    have : ((i * b : Nat) : Int) ≤ 1000000000000 := by omega
    rwa [Int.natCast_mul] at this
  have k3 : ((i : Int) + 1) * (b : Int) ≤ 1000001000000 := by omega
  have k4 : 0 ≤ ((i : Int) + 1) * (b : Int) := by omega
  clear hp0 hp1 k1
  go_enter Tryd.func36, Tryd.ntmps36
  go_wp2
  go_ret
  exact ⟨v', rfl, HR.out, rfl⟩

/-- The sums of the first k blocks. -/
def sumsTo (l : List UInt8) (b k : Nat) : List Nat := (List.range k).map fun i => fnv (chunk l b i)
theorem sumsTo_succ (l : List UInt8) (b k : Nat) : sumsTo l b (k + 1) = sumsTo l b k ++ [fnv (chunk l b k)] := by
  simp [sumsTo, List.range_succ]
theorem sumsTo_length (l : List UInt8) (b k : Nat) : (sumsTo l b k).length = k := by simp [sumsTo]
theorem u32s_snoc (l : List Nat) (x : Nat) : u32s (l ++ [x]) = u32s l ++ [.int .u32 (x : Int)] := by simp [u32s]

/-- How many blocks. -/
def nblk (n b : Nat) : Nat := (n + b - 1) / b

theorem nblk_le (n b : Nat) (hb : 1 ≤ b) : nblk n b ≤ n := by
  unfold nblk
  rcases Nat.eq_zero_or_pos n with rfl | hn
  · rw [Nat.div_eq_of_lt (by omega)]; omega
  · apply Nat.le_of_lt_succ
    rw [Nat.div_lt_iff_lt_mul (by omega)]
    have : n + b ≤ n * b + b := by have := Nat.le_mul_of_pos_right n hb; omega
    rw [Nat.succ_mul]; omega

set_option maxHeartbeats 400000 in
/-- Sums, at lengths and blocks that it takes. -/
theorem vSums_ok (v : Value) (l : List UInt8) (b : Nat) (w : World) (h : Sl w 1 v l.length (u8s l)) (hn : l.length ≤ 20000) (hb1 : 1 ≤ b) (hb2 : b ≤ 20000) :
    Calls Tryd.prog 21 #[v, .int .i64 b] w fun e w' => ∃ v', e = .returned (.tuple #[v', .int .i64 0]) ∧
      w'.ownsRow w.heap.size 50 1 v' (nblk l.length b) (u32s (sumsTo l b (nblk l.length b))) ∧ Below w.heap.size w w' := by
  have hlen := h.len et_u8s.ht 3
  have HH := Lib.hid h
  have hN := nblk_le l.length b hb1
  have eN : (((l.length : Int) + (b : Int) - 1) / (b : Int)) = ((nblk l.length b : Nat) : Int) := by
    unfold nblk
    rw [Int.natCast_ediv, Int.natCast_sub (by omega)]; rfl
  have EN := Lib.hid eN
  generalize nblk l.length b = N at *
  clear h eN
  go_enter Tryd.func21, Tryd.ntmps21
  go_wp2_with fail
  refine (blocks_any _ _ _ (by omega) (by omega) (by omega)).mono ?_
  rintro e w' ⟨rfl, rfl⟩
  rw [EN.out]
  go_wp2_with fail
  go_loopw [6, 21] (fun x i wr => ∃ k : Nat, k ≤ N ∧ i = .int .i64 k ∧ wr.ownsRow w.heap.size 50 1 x k (u32s (sumsTo l b k)) ∧ Below w.heap.size w wr) (fun _ i _ => N - (intOf i).toNat)
  case atStart => exact ⟨0, Nat.zero_le _, rfl, World.ownsRow_nil _ _ _ _, Below.refl _ _⟩
  case round =>
    obtain ⟨k, hk, rfl, hown, hbel⟩ := hrel
    have hsz := hbel.size
    by_cases hlt : k < N
    · have hin := HH.out.below hbel (Nat.le_refl _)
      have HI := Lib.hid hin
      clear hin
      go_wp2_with fail
      refine (blockOf_any _ l b k _ HI.out (by omega) (by omega)).mono ?_
      rintro e w' ⟨vb, rfl, hvb, rfl⟩
      have HV := Lib.hid hvb
      clear hvb
      go_wp2_with fail
      refine (vSum_any _ (chunk l b k) _ HV.out).mono ?_
      rintro e w' ⟨rfl, rfl⟩
      have HO := Lib.hid hown
      have HE := Lib.hid hbel
      clear hown hbel
      go_wp2_with (at_builtin; refine wpList_push et_u32s _ _ rfl rfl HO.out rfl rfl rfl (one1 rfl) (by omega) (by omega) HE.out hsz ?_; intro v' w' hown' hbel' hsz' _)
      have HO' := Lib.hid hown'
      have HE' := Lib.hid hbel'
      clear hown' hbel'
      go_wp2
      go_roundw
      case rel => exact ⟨k + 1, by omega, by go_num, by rw [sumsTo_succ, u32s_snoc]; exact HO'.out, HE'.out⟩
      case measure => simp [intOf]; omega
    · have e : k = N := by omega
      subst e
      have HO := Lib.hid hown
      have HE := Lib.hid hbel
      clear hown hbel
      go_wp2
      go_ret2
      exact ⟨_, rfl, HO.out, HE.out⟩

/-- Too many bytes. -/
theorem vSums_large (v : Value) (l : List UInt8) (b : Int) (w : World) (h : Sl w 1 v l.length (u8s l)) (hn : 20000 < l.length) :
    Calls Tryd.prog 21 #[v, .int .i64 b] w fun e w' => e = .returned (.tuple #[.slice none 0 0, .int .i64 2]) ∧ w = w' := by
  have hlen := h.len et_u8s.ht 3
  have hb := h.bound
  clear h
  go_enter Tryd.func21, Tryd.ntmps21
  go_wp2
  go_ret2
  exact ⟨rfl, rfl⟩

/-- A block that is none. -/
theorem vSums_range (v : Value) (l : List UInt8) (b : Int) (w : World) (h : Sl w 1 v l.length (u8s l)) (hn : l.length ≤ 20000) (hr : b < 1 ∨ 20000 < b) :
    Calls Tryd.prog 21 #[v, .int .i64 b] w fun e w' => e = .returned (.tuple #[.slice none 0 0, .int .i64 1]) ∧ w = w' := by
  have hlen := h.len et_u8s.ht 3
  clear h
  by_cases hr1 : b < 1
  · clear hr
    go_enter Tryd.func21, Tryd.ntmps21
    go_wp2
    go_ret2
    exact ⟨rfl, rfl⟩
  · have hr2 : 20000 < b := by omega
    clear hr
    go_enter Tryd.func21, Tryd.ntmps21
    go_wp2
    go_ret2
    exact ⟨rfl, rfl⟩

end Go.Proofs.YtkflhehocbaoiaaDoor
