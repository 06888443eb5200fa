/- The walks of the mixer, of leaf and both (program), of mix, bytesOf, low and both (reference). -/
import Derived.Test.YtkflhehocbaoiaaS1
namespace Go.Proofs.Ytkflhehocbaoiaa
open Go.RowKit
attribute [local go_sem ↓] run_min_kept run_max_kept

theorem et_u64s : ElemTy Try.prog 48 35 1 8 (.int .u64 0) := ⟨by kernel_rfl, by kernel_rfl, by kernel_rfl, by decide⟩

def mstep (x : Nat) (c : UInt8) : Nat := ((x ^^^ c.toNat) * 1099511628211) % 18446744073709551616
def mseed : Nat := 14695981039346656037
def mixN (x : Nat) (l : List UInt8) : Nat := l.foldl mstep x

theorem mixN_snoc (x : Nat) (l : List UInt8) (c : UInt8) : mixN x (l ++ [c]) = mstep (mixN x l) c := by unfold mixN; rw [List.foldl_append, List.foldl_cons, List.foldl_nil]
theorem mixN_append (x : Nat) (l r : List UInt8) : mixN x (l ++ r) = mixN (mixN x l) r := by unfold mixN; rw [List.foldl_append]
theorem mstep_lt (x : Nat) (c : UInt8) : mstep x c < 18446744073709551616 := by unfold mstep; omega
theorem mixN_lt (x : Nat) (hx : x < 18446744073709551616) (l : List UInt8) : mixN x l < 18446744073709551616 := by
  rcases List.eq_nil_or_concat l with rfl | ⟨l', c, rfl⟩
  · exact hx
  · rw [List.concat_eq_append, mixN_snoc]; exact mstep_lt _ _
theorem mseed_lt : mseed < 18446744073709551616 := by unfold mseed; omega

/-- The bytes of a number, the highest one first. -/
def be (n many : Nat) : List UInt8 := (List.range many).map fun j => UInt8.ofNat (n / 2 ^ (8 * (many - 1 - j)))
theorem be_length (n many : Nat) : (be n many).length = many := by simp [be]
theorem be_get (n many j : Nat) (h : j < (be n many).length) : (be n many)[j] = UInt8.ofNat (n / 2 ^ (8 * (many - 1 - j))) := by simp [be]

theorem be_byte (n s : Nat) : UInt8.ofNat ((n : Int) / 2 ^ s % 256).toNat = UInt8.ofNat (n / 2 ^ s) := by
  have e : ((n : Int) / 2 ^ s % 256).toNat = n / 2 ^ s % 256 := by
    have h1 : ((2 : Int) ^ s) = ((2 ^ s : Nat) : Int) := by simp
    rw [h1]
    omega
  rw [e]
  apply UInt8.toNat.inj
  rw [UInt8.toNat_ofNat', UInt8.toNat_ofNat']
  omega

theorem mstep_u64 (x : Nat) (c : Int) (hx : x < 18446744073709551616) (h0 : 0 ≤ c) (h1 : c < 256) : IntKind.u64.wrap (bits .xor .u64 (x : Int) c * 1099511628211) = ((mstep x (UInt8.ofNat c.toNat) : Nat) : Int) := by
  rw [show ∀ z : Int, IntKind.u64.wrap z = z % 18446744073709551616 from fun z => by simp [IntKind.wrap, IntKind.signed, IntKind.bits]]
  obtain ⟨k, rfl⟩ := Int.eq_ofNat_of_zero_le h0
  rw [u64_xor_nat x k hx (by omega), Int.toNat_natCast]
  unfold mstep
  rw [UInt8.toNat_ofNat', Nat.mod_eq_of_lt (show k < 2 ^ 8 by omega)]
  omega

set_option maxHeartbeats 400000 in
theorem mixerByte_any (ad : Addr) (x : Nat) (c : Int) (w : World) (hx : x < 18446744073709551616) (h0 : 0 ≤ c) (h1 : c < 256) (hc : w.cell? ad = some (.int .u64 x)) (hf : w.frozen? ad = false) :
    Calls Try.prog 32 #[.pointer (some ad), .int .u8 c] w fun e w' => e = .returned (.tuple #[]) ∧ w.setCell ad (.int .u64 (mstep x (UInt8.ofNat c.toNat) : Nat)) = w' := by
  have HS := Lib.hid (mstep_u64 x c hx h0 h1)
  have hxi : ((x : Nat) : Int) < 18446744073709551616 := by omega
  go_enter Try.func32, Try.ntmps32
  go_wp2
  go_end0
  exact ⟨rfl, by rw [← HS.out]⟩

/-- A cell of a block is as said; no other block has turned. -/
structure One (ad : Addr) (v : Value) (w w' : World) : Prop where
  cell : w'.cell? ad = some v
  free : w'.frozen? ad = false
  grown : w.grownBy w' (some ad.block)

theorem One.set {ad : Addr} {v u : Value} {w : World} (hc : w.cell? ad = some u) (hf : w.frozen? ad = false) : One ad v w (w.setCell ad v) := by
  refine ⟨World.cell?_setCell_same w ad v hc, ?_, ⟨rfl, rfl, rfl, by simp [World.setCell], fun k _ hne => Below.heap_setCell w ad v k (fun e => hne (by rw [e]))⟩⟩
  rw [World.frozen?_setCell]
  exact hf

theorem One.trans {ad : Addr} {v u : Value} {a b c : World} (h : One ad v a b) (k : One ad u b c) : One ad u a c :=
  ⟨k.cell, k.free, ⟨k.grown.os.trans h.grown.os, k.grown.tape.trans h.grown.tape, k.grown.output.trans h.grown.output, Nat.le_trans h.grown.size k.grown.size,
    fun i hi hne => (k.grown.block i (Nat.lt_of_lt_of_le hi h.grown.size) hne).trans (h.grown.block i hi hne)⟩⟩

set_option maxHeartbeats 400000 in
theorem mixerNumber_any (ad : Addr) (x n many : Nat) (w : World) (hx : x < 18446744073709551616) (_hn : n < 18446744073709551616) (hm : many ≤ 8) (hc : w.cell? ad = some (.int .u64 x)) (hf : w.frozen? ad = false) :
    Calls Try.prog 33 #[.pointer (some ad), .int .u64 n, .int .i64 many] w fun e w' => e = .returned (.tuple #[]) ∧ One ad (.int .u64 (mixN x (be n many) : Nat)) w w' := by
  have HC := Lib.hid hc
  have HF := Lib.hid hf
  clear hc hf
  go_enter Try.func33, Try.ntmps33
  go_wp2_with fail
  go_loopw [6] (fun i wr => ∃ k : Nat, k ≤ many ∧ i = .int .i64 ((many : Int) - 1 - k) ∧ One ad (.int .u64 (mixN x ((be n many).take k) : Nat)) w wr) (fun i _ => (intOf i + 1).toNat)
  case atStart => exact ⟨0, by omega, by simp, ⟨HC.out, HF.out, ⟨rfl, rfl, rfl, Nat.le_refl _, fun _ _ _ => rfl⟩⟩⟩
  case round =>
    obtain ⟨k, hk, rfl, ho⟩ := hrel
    have hcell := ho.cell
    have hfree := ho.free
    have HO := Lib.hid ho
    clear ho
    by_cases hlt : k < many
    · have hs0 : (0 : Int) ≤ 8 * ((many : Int) - 1 - k) := by omega
      have hs1 : 8 * ((many : Int) - 1 - k) ≤ 64 := by omega
      go_wp2_with fail
      refine (mixerByte_any _ _ _ _ (mixN_lt x hx _) (by omega) (by omega) hcell hfree).mono ?_
      rintro e w' ⟨rfl, rfl⟩
      have hset : One ad (.int .u64 (mixN x ((be n many).take (k + 1)) : Nat)) w (wr.setCell ad (.int .u64 (mstep (mixN x ((be n many).take k)) (UInt8.ofNat ((n : Int) / 2 ^ (8 * (many - 1 - k)) % 256).toNat) : Nat))) := by
        refine HO.out.trans ?_
        rw [take_snoc (be n many) k (by rw [be_length]; exact hlt), mixN_snoc, be_get, be_byte]
        exact One.set hcell hfree
      have HS := Lib.hid hset
      clear hset hcell hfree
      go_wp2
      go_roundw
      case rel => exact ⟨k + 1, by omega, by go_num, HS.out⟩
      case measure => simp [intOf]; omega
    · have e : k = many := by omega
      subst e
      have HO' := Lib.hid (show One ad (.int .u64 (mixN x (be n k) : Nat)) w wr by
        have := HO.out
        rwa [List.take_of_length_le (by rw [be_length]; exact Nat.le_refl _)] at this)
      clear hcell hfree
      go_wp2
      go_end0
      exact ⟨rfl, HO'.out⟩

theorem mixerByte_one (ad : Addr) (x : Nat) (c : Int) (w : World) (hx : x < 18446744073709551616) (h0 : 0 ≤ c) (h1 : c < 256) (hc : w.cell? ad = some (.int .u64 x)) (hf : w.frozen? ad = false) :
    Calls Try.prog 32 #[.pointer (some ad), .int .u8 c] w fun e w' => e = .returned (.tuple #[]) ∧ One ad (.int .u64 (mstep x (UInt8.ofNat c.toNat) : Nat)) w w' :=
  (mixerByte_any ad x c w hx h0 h1 hc hf).mono (by rintro e w' ⟨rfl, rfl⟩; exact ⟨rfl, One.set hc hf⟩)

theorem newMixer_any (w : World) : Calls Try.prog 25 #[] w fun e w' => e = .returned (.int .u64 (mseed : Nat)) ∧ w = w' := by
  go_enter Try.func25, Try.ntmps25
  go_wp2
  go_ret
  exact ⟨rfl, rfl⟩

/-- A new block of one cell, and what is written to it alone. -/
theorem One.below {v u : Value} {w w' : World} {t : TypeId} (h : One ⟨w.heap.size, 0, none⟩ v (w.alloc (.cells #[u] t)) w') : Below w.heap.size w w' :=
  ((Below.refl w.heap.size w).alloc (Nat.le_refl _) _).grown h.grown (by simp) (fun k hk => by simp at hk; omega)
theorem cell_new (w : World) (u : Value) (t : TypeId) : (w.alloc (.cells #[u] t)).cell? ⟨w.heap.size, 0, none⟩ = some u := by
  rw [cell_of_row (w.alloc (.cells #[u] t)) w.heap.size 0 #[u] t (0, 0) (heap_alloc_new w _)]; rfl
theorem free_new (w : World) (u : Value) (t : TypeId) : (w.alloc (.cells #[u] t)).frozen? ⟨w.heap.size, 0, none⟩ = false := by
  have h := heap_alloc_new w (.cells #[u] t)
  unfold World.frozen?
  rw [h]
  simp

/-- The node of a sum. -/
def leafN (n : Nat) : Nat := mixN mseed (0 :: be n 4)
/-- The node of two nodes. -/
def bothN (a b : Nat) : Nat := mixN mseed (1 :: (be a 8 ++ be b 8))
theorem leafN_lt (n : Nat) : leafN n < 18446744073709551616 := mixN_lt _ mseed_lt _
theorem bothN_lt (a b : Nat) : bothN a b < 18446744073709551616 := mixN_lt _ mseed_lt _
theorem leafN_eq (n : Nat) : mixN (mstep mseed (UInt8.ofNat (0 : Int).toNat)) (be n 4) = leafN n := by unfold leafN mixN; rw [List.foldl_cons]; rfl
theorem bothN_eq (a b : Nat) : mixN (mixN (mstep mseed (UInt8.ofNat (1 : Int).toNat)) (be a 8)) (be b 8) = bothN a b := by
  unfold bothN; rw [← mixN_append]; unfold mixN; rw [List.foldl_cons]; rfl

set_option maxHeartbeats 400000 in
theorem leaf_any (n : Nat) (w : World) (hn : n < 4294967296) :
    Calls Try.prog 26 #[.int .u32 n] w fun e w' => e = .returned (.int .u64 (leafN n : Nat)) ∧ Below w.heap.size w w' := by
  have hni : ((n : Nat) : Int) < 4294967296 := by omega
  go_enter Try.func26, Try.ntmps26
  go_wp2_with fail
  refine (newMixer_any _).mono ?_
  rintro e w' ⟨rfl, rfl⟩
  go_wp2_with fail
  refine (mixerByte_one _ _ _ _ mseed_lt (by omega) (by omega) (cell_new _ _ _) (free_new _ _ _)).mono ?_
  rintro e w1 ⟨rfl, h1⟩
  have hc1 := h1.cell
  have hf1 := h1.free
  have H1 := Lib.hid h1
  clear h1
  go_wp2_with fail
  refine (mixerNumber_any _ _ n 4 _ (mstep_lt _ _) (by omega) (by omega) hc1 hf1).mono ?_
  rintro e w2 ⟨rfl, h2⟩
  have hc2 := h2.cell
  rw [leafN_eq] at hc2
  have H2 := Lib.hid (H1.out.trans h2).below
  clear h2 hc1 hf1
  go_wp2
  go_ret
  exact ⟨rfl, H2.out⟩

set_option maxHeartbeats 400000 in
theorem both_any (a b : Nat) (w : World) (ha : a < 18446744073709551616) (hb : b < 18446744073709551616) :
    Calls Try.prog 27 #[.int .u64 a, .int .u64 b] w fun e w' => e = .returned (.int .u64 (bothN a b : Nat)) ∧ Below w.heap.size w w' := by
  go_enter Try.func27, Try.ntmps27
  go_wp2_with fail
  refine (newMixer_any _).mono ?_
  rintro e w' ⟨rfl, rfl⟩
  go_wp2_with fail
  refine (mixerByte_one _ _ _ _ mseed_lt (by omega) (by omega) (cell_new _ _ _) (free_new _ _ _)).mono ?_
  rintro e w1 ⟨rfl, h1⟩
  have hc1 := h1.cell
  have hf1 := h1.free
  have H1 := Lib.hid h1
  clear h1
  go_wp2_with fail
  refine (mixerNumber_any _ _ a 8 _ (mstep_lt _ _) ha (by omega) hc1 hf1).mono ?_
  rintro e w2 ⟨rfl, h2⟩
  have hc2 := h2.cell
  have hf2 := h2.free
  have H2 := Lib.hid (H1.out.trans h2)
  clear h2 hc1 hf1
  go_wp2_with fail
  refine (mixerNumber_any _ _ b 8 _ (mixN_lt _ (mstep_lt _ _) _) hb (by omega) hc2 hf2).mono ?_
  rintro e w3 ⟨rfl, h3⟩
  have hc3 := h3.cell
  rw [bothN_eq] at hc3
  have H3 := Lib.hid (H2.out.trans h3).below
  clear h3 hc2 hf2
  go_wp2
  go_ret
  exact ⟨rfl, H3.out⟩

set_option maxHeartbeats 400000 in
theorem mix_any (v : Value) (l : List UInt8) (w : World) (h : Sl w 1 v l.length (u8s l)) :
    Calls Try.prog 29 #[v] w fun e w' => e = .returned (.int .u64 (mixN mseed l : Nat)) ∧ w = w' := by
  have hl := h.bound
  have hlen := h.len et_u8s.ht 3
  have HH := Lib.hid h
  clear h
  go_enter Try.func29, Try.ntmps29
  go_wp2
  go_loop [3, 8] (fun x i => ∃ k : Nat, k ≤ l.length ∧ i = .int .i64 k ∧ x = .int .u64 (mixN mseed (l.take k) : Nat)) (fun _ i => l.length - (intOf i).toNat)
  case atStart => exact ⟨0, Nat.zero_le _, rfl, rfl⟩
  case round =>
    obtain ⟨k, hk, rfl, rfl⟩ := hrel
    by_cases hlt : k < l.length
    · obtain ⟨ad, hix, hcell⟩ := HH.out.idx1 et_u8s k (by omega) (by omega)
      rw [Int.toNat_natCast, u8s_getD l k hlt] at hcell
      have hb : (l[k].toNat : Int) < 256 := by have := l[k].toNat_lt; omega
      have HS := Lib.hid (mstep_u64 (mixN mseed (l.take k)) (l[k].toNat : Int) (mixN_lt _ mseed_lt _) (by omega) hb)
      go_wp2
      go_round
      case rel => 
        refine ⟨k + 1, by omega, by go_num, ?_⟩
        rw [take_snoc l k hlt, mixN_snoc]
        have := HS.out
        rw [Int.toNat_natCast, UInt8.ofNat_toNat] at this
        rw [← this]
      case measure => simp [intOf]; omega
    · have e : k = l.length := by omega
      subst e
      rw [List.take_length]
      go_wp2
      go_ret
      exact ⟨rfl, rfl⟩
end Go.Proofs.Ytkflhehocbaoiaa
