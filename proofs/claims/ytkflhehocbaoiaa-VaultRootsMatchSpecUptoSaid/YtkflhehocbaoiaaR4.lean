/- The walks of Root, Proof and Climb (program). -/
import Derived.Test.YtkflhehocbaoiaaR3
import Derived.Deep.LoopGhost
namespace Go.Proofs.Ytkflhehocbaoiaa
open Go.RowKit
attribute [local go_sem ↓] run_min_kept run_max_kept

theorem et_parts : ElemTy Try.prog 32 41 2 16 (.agg #[.bool false, .int .u64 0]) := ⟨by kernel_rfl, by kernel_rfl, by kernel_rfl, by decide⟩

/-- The rows of nodes. -/
def rowAt (s : List Nat) : Nat → List Nat
  | 0 => lowL s
  | j + 1 => aboveL (rowAt s j)
theorem rowAt_words (s : List Nat) : ∀ j, Words (rowAt s j)
  | 0 => lowL_words s
  | j + 1 => aboveL_words _ (rowAt_words s j)
theorem rowAt_le (s : List Nat) : ∀ j, (rowAt s j).length ≤ s.length
  | 0 => by simp [rowAt, lowL]
  | j + 1 => by
    have := rowAt_le s j
    rw [rowAt, aboveL_length]
    omega
theorem rowAt_pos (s : List Nat) (h : 0 < s.length) : ∀ j, 0 < (rowAt s j).length
  | 0 => by simpa [rowAt, lowL] using h
  | j + 1 => by
    have := rowAt_pos s h j
    rw [rowAt, aboveL_length]
    omega
/-- Row m is the first one of at most one node. -/
def IsTop (s : List Nat) (m : Nat) : Prop := (rowAt s m).length ≤ 1 ∧ ∀ j, j < m → 1 < (rowAt s j).length
theorem IsTop.uniq {s : List Nat} {m n : Nat} (h : IsTop s m) (k : IsTop s n) : m = n := by
  rcases Nat.lt_trichotomy m n with hl | he | hl
  · have := k.2 m hl; have := h.1; omega
  · exact he
  · have := h.2 n hl; have := k.1; omega

set_option maxHeartbeats 400000 in
theorem vRoot_any (v : Value) (s : List Nat) (w : World) (h : Sl w 1 v s.length (u32s s)) (hs : Sums32 s) (hn : s.length ≤ 10000000) (h0 : 0 < s.length) :
    Calls Try.prog 13 #[v] w fun e w' => ∃ m, IsTop s m ∧ e = .returned (.int .u64 ((rowAt s m).getD 0 0 : Nat)) ∧ Below w.heap.size w w' := by
  have hlen := h.len et_u32s.ht 3
  have H := Lib.hid h
  have hne : ((s.length : Int) == 0) = false := by rw [beq_eq_false_iff_ne]; omega
  clear h
  go_enter Try.func13, Try.ntmps13
  go_wp2_with fail
  refine (lowest_any v s _ H.out hs hn).mono ?_
  rintro e w1 ⟨v1, rfl, ho1, hb1⟩
  have HO1 := Lib.hid ho1
  have HB1 := Lib.hid hb1
  clear ho1 hb1
  go_wp2_with fail
  go_loopg [3] (s.length + 1) (fun g x wr => ∃ j : Nat, g = (rowAt s j).length + 1 ∧ (∀ i, i < j → 1 < (rowAt s i).length) ∧ Sl wr 1 x (rowAt s j).length (u64s (rowAt s j)) ∧ Below w.heap.size w wr)
  case atStart => exact ⟨0, by simp [rowAt, lowL], fun i hi => absurd hi (by omega), by simpa [rowAt, lowL] using Sl.ofOwns HO1.out, HB1.out⟩
  case round =>
    obtain ⟨j, rfl, htop, hsl, hbel⟩ := hrel
    have hl := rowAt_le s j
    have hp := rowAt_pos s h0 j
    have HT := Lib.hid htop
    have HS := Lib.hid hsl
    have HB := Lib.hid hbel
    have hsz := hbel.size
    have hlj := hsl.len et_u64s.ht 3
    have HA := Lib.hid (above_any u3 (rowAt s j) wr hsl (rowAt_words s j) (by omega))
    have HL := Lib.hid (aboveL_length (rowAt s j))
    have HZ := Lib.hid (u64s_getD (rowAt s j) 0 hp)
    clear htop hsl hbel
    generalize hr : rowAt s j = row at *
    have HR := Lib.hid hr
    clear hr
    by_cases hlt : 1 < row.length
    · go_wp2_with fail
      refine HA.out.mono ?_
      rintro e w2 ⟨v2, rfl, ho2, hb2⟩
      have HO2 := Lib.hid (Sl.ofOwns ho2)
      have HB2 := Lib.hid (HB.out.trans (hb2.mono hsz))
      clear ho2 hb2
      go_wp2_with fail
      go_roundg ((aboveL row).length + 1)
      case rel =>
        refine ⟨j + 1, by rw [rowAt, HR.out], ?_, by rw [rowAt, HR.out]; exact HO2.out, HB2.out⟩
        intro i hi
        rcases Nat.lt_or_ge i j with h1 | h1
        · exact HT.out i h1
        · have : i = j := by omega
          subst this; rw [HR.out]; exact hlt
      case measure => rw [HL.out]; omega
    · obtain ⟨ad, hix, hcell⟩ := HS.out.idx1 et_u64s 0 (by omega) (by omega)
      rw [Int.toNat_zero, HZ.out] at hcell
      clear HA HL HZ
      generalize hx0 : row.getD 0 0 = x0 at *
      have HX := Lib.hid hx0
      clear hx0
      go_wp2_with fail
      go_ret
      exact ⟨j, ⟨by rw [HR.out]; omega, HT.out⟩, by rw [HR.out, HX.out]; rfl, HB.out⟩

theorem vRoot_nil (v : Value) (w : World) (h : Sl w 1 v 0 []) :
    Calls Try.prog 13 #[v] w fun e w' => e = .returned (.int .u64 (mseed : Nat)) ∧ w = w' := by
  have hlen := h.len et_u32s.ht 3
  clear h
  go_enter Try.func13, Try.ntmps13
  go_wp2_with fail
  refine (newMixer_any _).mono ?_
  rintro e w' ⟨rfl, rfl⟩
  go_wp2
  go_ret
  exact ⟨rfl, rfl⟩

/-- A partner as cells. -/
def partCells (p : Bool × Nat) : List Value := [.bool p.1, .int .u64 (p.2 : Int)]
def parts (l : List (Bool × Nat)) : List Value := (l.map partCells).flatten
theorem parts_length (l : List (Bool × Nat)) : (parts l).length = l.length * 2 := by
  induction l with
  | nil => rfl
  | cons p l ih => simp only [parts, List.map_cons, List.flatten_cons, List.length_append, List.length_cons] at ih ⊢; rw [ih]; simp [partCells]; omega
theorem parts_snoc (l : List (Bool × Nat)) (p : Bool × Nat) : parts (l ++ [p]) = parts l ++ partCells p := by simp [parts]
theorem parts_at (l : List (Bool × Nat)) (k : Nat) (h : k < l.length) : ((parts l).drop (k * 2)).take 2 = partCells l[k] := by
  have e : l = l.take k ++ l[k] :: l.drop (k + 1) := by
    rw [← List.drop_eq_getElem_cons h, List.take_append_drop]
  have e2 : parts l = parts (l.take k) ++ (partCells l[k] ++ parts (l.drop (k + 1))) := by
    unfold parts
    conv => lhs; rw [e, List.map_append, List.map_cons, List.flatten_append, List.flatten_cons]
  have hl : (parts (l.take k)).length = k * 2 := by rw [parts_length, List.length_take, Nat.min_eq_left (by omega)]
  rw [e2, List.drop_left' hl, List.take_left' (by simp [partCells])]

def pstep (i : Nat) (row : List Nat) : List (Bool × Nat) :=
  if i % 2 = 1 then [(true, row.getD (i - 1) 0)] else if i + 1 < row.length then [(false, row.getD (i + 1) 0)] else []
/-- The partners of the first m rows. -/
def proofTo (s : List Nat) (i : Nat) : Nat → List (Bool × Nat)
  | 0 => []
  | m + 1 => proofTo s i m ++ pstep (i / 2 ^ m) (rowAt s m)

def climbStep (x : Nat) (p : Bool × Nat) : Nat := if p.1 then bothN p.2 x else bothN x p.2
def climbL (x : Nat) (l : List (Bool × Nat)) : Nat := l.foldl climbStep x
theorem climbL_nil (x : Nat) : climbL x [] = x := rfl
theorem climbL_snoc (x : Nat) (l : List (Bool × Nat)) (p : Bool × Nat) : climbL x (l ++ [p]) = climbStep (climbL x l) p := by unfold climbL; rw [List.foldl_append, List.foldl_cons, List.foldl_nil]
theorem climbL_lt (x : Nat) (hx : x < 18446744073709551616) (l : List (Bool × Nat)) : climbL x l < 18446744073709551616 := by
  rcases List.eq_nil_or_concat l with rfl | ⟨l', p, rfl⟩
  · exact hx
  · rw [List.concat_eq_append, climbL_snoc]; unfold climbStep; split <;> exact bothN_lt _ _
/-- Partners whose nodes fit. -/
def Parts64 (l : List (Bool × Nat)) : Prop := ∀ p ∈ l, p.2 < 18446744073709551616

set_option maxHeartbeats 400000 in
theorem vClimb_any (x : Nat) (v : Value) (l : List (Bool × Nat)) (w : World) (hx : x < 4294967296) (h : Sl w 2 v l.length (parts l)) (hp : Parts64 l) :
    Calls Try.prog 14 #[.int .u32 x, v] w fun e w' => e = .returned (.int .u64 (climbL (leafN x) l : Nat)) ∧ Below w.heap.size w w' := by
  have hlen := h.len et_parts.ht 3
  have hbd := h.bound
  have H := Lib.hid h
  clear h
  go_enter Try.func14, Try.ntmps14
  go_wp2_with fail
  refine (leaf_any x _ hx).mono ?_
  rintro e w1 ⟨rfl, hb1⟩
  have HB1 := Lib.hid hb1
  clear hb1
  go_wp2_with fail
  go_loopw [5, 12] (fun n i wr => ∃ k : Nat, k ≤ l.length ∧ i = .int .i64 k ∧ n = .int .u64 (climbL (leafN x) (l.take k) : Nat) ∧ Below w.heap.size w wr) (fun _ i _ => l.length - (intOf i).toNat)
  case atStart => exact ⟨0, Nat.zero_le _, rfl, by rw [List.take_zero, climbL_nil], HB1.out⟩
  case round =>
    obtain ⟨k, hk, rfl, rfl, hbel⟩ := hrel
    have HB := Lib.hid hbel
    have hsz := hbel.size
    clear hbel
    by_cases hlt : k < l.length
    · obtain ⟨ad, hix, hcells⟩ := H.out.idx et_parts k (by omega) (by omega)
      rw [Int.toNat_natCast, parts_at l k hlt] at hcells
      have hc := Lib.hid (hcells.below HB.out (Nat.le_refl _))
      have hp2 := hp l[k] (List.getElem_mem hlt)
      have HT := Lib.hid (show climbL (leafN x) (l.take (k + 1)) = climbStep (climbL (leafN x) (l.take k)) l[k] by rw [take_snoc l k hlt, climbL_snoc])
      have hcl := climbL_lt (leafN x) (leafN_lt x) (l.take k)
      clear hcells
      generalize climbL (leafN x) (l.take k) = n0 at *
      generalize l[k] = p at *
      obtain ⟨pb, pn⟩ := p
      cases pb
      · go_wp2_with (refine wpList_loadAgg (cs := [.bool false, .int .u64 pn]) _ rfl rfl rfl (by kernel_rfl) (by kernel_rfl) hc.out ?_)
        refine (both_any n0 pn _ hcl hp2).mono ?_
        rintro e w2 ⟨rfl, hb2⟩
        have HB2 := Lib.hid ((HB.out.alloc hsz _).trans (hb2.mono (by simp; omega)))
        clear hb2
        have HS := Lib.hid (show climbStep n0 (false, pn) = bothN n0 pn by unfold climbStep; rfl)
        go_wp2
        go_roundw
        case rel => exact ⟨k + 1, by omega, by go_num, by rw [HT.out, HS.out], HB2.out⟩
        case measure => simp [intOf]; omega
      · go_wp2_with (refine wpList_loadAgg (cs := [.bool true, .int .u64 pn]) _ rfl rfl rfl (by kernel_rfl) (by kernel_rfl) hc.out ?_)
        refine (both_any pn n0 _ hp2 hcl).mono ?_
        rintro e w2 ⟨rfl, hb2⟩
        have HB2 := Lib.hid ((HB.out.alloc hsz _).trans (hb2.mono (by simp; omega)))
        clear hb2
        have HS := Lib.hid (show climbStep n0 (true, pn) = bothN pn n0 by unfold climbStep; rfl)
        go_wp2
        go_roundw
        case rel => exact ⟨k + 1, by omega, by go_num, by rw [HT.out, HS.out], HB2.out⟩
        case measure => simp [intOf]; omega
    · have e : k = l.length := by omega
      subst e
      rw [List.take_length]
      go_wp2
      go_ret
      exact ⟨rfl, HB.out⟩

theorem pstep_odd (i : Nat) (row : List Nat) (h : i % 2 = 1) : pstep i row = [(true, row.getD (i - 1) 0)] := by unfold pstep; rw [if_pos h]
theorem pstep_even (i : Nat) (row : List Nat) (h : i % 2 = 0) (h2 : i + 1 < row.length) : pstep i row = [(false, row.getD (i + 1) 0)] := by unfold pstep; rw [if_neg (by omega), if_pos h2]
theorem pstep_none (i : Nat) (row : List Nat) (h : i % 2 = 0) (h2 : ¬ i + 1 < row.length) : pstep i row = [] := by unfold pstep; rw [if_neg (by omega), if_neg h2]
theorem pow_half (i j : Nat) : i / 2 ^ (j + 1) = i / 2 ^ j / 2 := by rw [Nat.pow_succ, Nat.div_div_eq_div_mul]
theorem xor_one_half (i : Nat) : (i ^^^ 1) / 2 = i / 2 := by
  rw [Nat.xor_div_two]
  show i / 2 ^^^ 0 = i / 2
  exact Nat.xor_zero _
theorem xor_one_mod (i : Nat) : (i ^^^ 1) % 2 = 1 ↔ ¬ i % 2 = 1 := by
  rw [Nat.xor_mod_two_eq_one]
  simp
theorem xor_one_odd (i : Nat) (h : i % 2 = 1) : i ^^^ 1 = i - 1 := by
  have h1 := xor_one_half i
  have h2 := xor_one_mod i
  omega
theorem xor_one_even (i : Nat) (h : i % 2 = 0) : i ^^^ 1 = i + 1 := by
  have h1 := xor_one_half i
  have h2 := xor_one_mod i
  omega
theorem bits_xor_one (i : Nat) (hi : i < 1000000) : bits .xor .i64 (i : Int) 1 = ((i ^^^ 1 : Nat) : Int) := by
  have hx : i ^^^ 1 < 2 ^ 20 := Nat.xor_lt_two_pow (by omega) (by omega)
  show IntKind.i64.wrap ((BitVec.ofInt 64 (i : Int) ^^^ BitVec.ofInt 64 ((1 : Nat) : Int)).toNat : Int) = _
  rw [BitVec.toNat_xor, ofInt_u64 i (by omega), ofInt_u64 1 (by omega), IntKind.wrap_i64]
  omega
/-- The index stays in its row. -/
theorem idx_lt (s : List Nat) (i : Nat) (h : i < s.length) : ∀ j, i / 2 ^ j < (rowAt s j).length
  | 0 => by simpa [rowAt, lowL] using h
  | j + 1 => by
    have := idx_lt s i h j
    rw [pow_half, rowAt, aboveL_length]
    omega
theorem pstep_len (i : Nat) (row : List Nat) : (pstep i row).length ≤ 1 := by unfold pstep; split <;> (try split) <;> simp
theorem proofTo_len (s : List Nat) (i : Nat) : ∀ j, (proofTo s i j).length ≤ j
  | 0 => by simp [proofTo]
  | j + 1 => by
    have := proofTo_len s i j
    have := pstep_len (i / 2 ^ j) (rowAt s j)
    rw [proofTo, List.length_append]; omega
theorem top_le (s : List Nat) : ∀ j, (∀ k, k < j → 1 < (rowAt s k).length) → j + (rowAt s j).length ≤ s.length + 1
  | 0, _ => by simp [rowAt, lowL]
  | j + 1, h => by
    have h1 := top_le s j (fun k hk => h k (by omega))
    have h2 := h j (by omega)
    rw [rowAt, aboveL_length]
    omega

set_option maxHeartbeats 800000 in
theorem vProof_ok (v : Value) (s : List Nat) (i : Nat) (w : World) (h : Sl w 1 v s.length (u32s s)) (hs : Sums32 s) (hn : s.length ≤ 1000) (hi : i < s.length) :
    Calls Try.prog 12 #[v, .int .i64 i] w fun e w' => ∃ m v', IsTop s m ∧ e = .returned (.tuple #[v', .int .i64 0]) ∧
      w'.ownsRow w.heap.size 41 2 v' (proofTo s i m).length (parts (proofTo s i m)) ∧ Below w.heap.size w w' := by
  have hlen := h.len et_u32s.ht 3
  have H := Lib.hid h
  clear h
  go_enter Try.func12, Try.ntmps12
  go_wp2_with fail
  refine (lowest_any v s _ H.out hs (by omega)).mono ?_
  rintro e w1 ⟨v1, rfl, ho1, hb1⟩
  have HO1 := Lib.hid ho1
  have HB1 := Lib.hid hb1
  clear ho1 hb1
  go_wp2_with fail
  go_loopg [1, 6, 7] (s.length + 1) (fun g ii out x wr => ∃ j : Nat, g = (rowAt s j).length + 1 ∧ (∀ k, k < j → 1 < (rowAt s k).length) ∧ ii = .int .i64 ((i / 2 ^ j : Nat) : Int) ∧
    wr.ownsRow w.heap.size 41 2 out (proofTo s i j).length (parts (proofTo s i j)) ∧ wr.ownsRow w.heap.size 35 1 x (rowAt s j).length (u64s (rowAt s j)) ∧ Apart x out ∧ Below w.heap.size w wr)
  case atStart => exact ⟨0, by simp [rowAt, lowL], fun i hi => absurd hi (by omega), by simp, World.ownsRow_nil _ _ _ _, by simpa [rowAt, lowL] using HO1.out, apart_nil _, HB1.out⟩
  case round =>
    obtain ⟨j, rfl, htop, rfl, hown, hrow, hapart, hbel⟩ := hrel
    have hsl := Sl.ofOwns hrow
    have HX := Lib.hid hrow
    have HAP := Lib.hid hapart
    have hl := rowAt_le s j
    have hq := idx_lt s i hi j
    have HT := Lib.hid htop
    have HS := Lib.hid hsl
    have HB := Lib.hid hbel
    have HO := Lib.hid hown
    have hsz := hbel.size
    have hlj := hsl.len et_u64s.ht 3
    have HP := Lib.hid (show proofTo s i (j + 1) = proofTo s i j ++ pstep (i / 2 ^ j) (rowAt s j) from rfl)
    have HI := Lib.hid (pow_half i j)
    have HW := Lib.hid (rowAt_words s j)
    have hpl := proofTo_len s i j
    have htl := top_le s j htop
    have HA := Lib.hid (fun w2 h => above_any u7 (rowAt s j) w2 h (rowAt_words s j) (by omega))
    have HL := Lib.hid (aboveL_length (rowAt s j))
    have HZ := Lib.hid (u64s_getD (rowAt s j))
    clear htop hsl hbel hown hrow hapart
    generalize hr : rowAt s j = row at *
    have HR := Lib.hid hr
    clear hr
    generalize i / 2 ^ j = q at *
    by_cases hlt : 1 < row.length
    · by_cases hodd : q % 2 = 1
      · have hx1 : bits .xor .i64 (q : Int) 1 = (q : Int) - 1 := by rw [bits_xor_one q (by omega), xor_one_odd q hodd]; omega
        obtain ⟨ad, hix, hcell⟩ := HS.out.idx1 et_u64s ((q : Int) - 1) (by omega) (by omega)
        rw [show ((q : Int) - 1).toNat = q - 1 by omega, HZ.out (q - 1) (by omega)] at hcell
        have HQ := Lib.hid (pstep_odd q row hodd)
        have hd : (q : Int) - 1 < q := by omega
        clear HZ
        generalize row.getD (q - 1) 0 = x0 at *
        go_wp2_with (at_builtin; refine wpList_push et_parts _ _ rfl rfl HO.out rfl rfl rfl (one2 rfl rfl) (by omega) (by omega) HB.out hsz ?_; intro v' w' hown' hbel' hsz' hgr)
        have HO' := Lib.hid hown'
        have HB' := Lib.hid hbel'
        have HX' := Lib.hid (hgr.keep HX.out HAP.out)
        clear hown' hbel' hgr hcell
        go_wp2_with fail
        refine (HA.out _ (Sl.ofOwns HX'.out.1)).mono ?_
        rintro e w2 ⟨v2, rfl, ho2, hb2⟩
        have HO2 := Lib.hid (owns_below HO'.out hb2)
        have HB2 := Lib.hid (HB'.out.trans (hb2.mono hsz'))
        have HA2 := Lib.hid (apart_new HO'.out ho2)
        have HX2 := Lib.hid (ho2.base hsz')
        clear ho2 hb2
        go_wp2_with fail
        go_roundg ((aboveL row).length + 1)
        case rel =>
          refine ⟨j + 1, by rw [rowAt, HR.out], ?_, by rw [HI.out]; go_num, ?_, by rw [rowAt, HR.out]; exact HX2.out, HA2.out, HB2.out⟩
          · intro k hk
            rcases Nat.lt_or_ge k j with h1 | h1
            · exact HT.out k h1
            · have : k = j := by omega
              subst this; rw [HR.out]; exact hlt
          · rw [HP.out, HQ.out, parts_snoc, List.length_append]
            exact HO2.out
        case measure => rw [HL.out]; omega
      · by_cases hnx : q + 1 < row.length
        · have hx1 : bits .xor .i64 (q : Int) 1 = (q : Int) + 1 := by rw [bits_xor_one q (by omega), xor_one_even q (by omega)]; omega
          obtain ⟨ad, hix, hcell⟩ := HS.out.idx1 et_u64s ((q : Int) + 1) (by omega) (by omega)
          rw [show ((q : Int) + 1).toNat = q + 1 by omega, HZ.out (q + 1) (by omega)] at hcell
          have HQ := Lib.hid (pstep_even q row (by omega) hnx)
          have hd : ¬ ((q : Int) + 1 < q) := by omega
          clear HZ
          generalize row.getD (q + 1) 0 = x0 at *
          go_wp2_with (at_builtin; refine wpList_push et_parts _ _ rfl rfl HO.out rfl rfl rfl (one2 rfl rfl) (by omega) (by omega) HB.out hsz ?_; intro v' w' hown' hbel' hsz' hgr)
          have HO' := Lib.hid hown'
          have HB' := Lib.hid hbel'
          have HX' := Lib.hid (hgr.keep HX.out HAP.out)
          clear hown' hbel' hgr hcell
          go_wp2_with fail
          refine (HA.out _ (Sl.ofOwns HX'.out.1)).mono ?_
          rintro e w2 ⟨v2, rfl, ho2, hb2⟩
          have HO2 := Lib.hid (owns_below HO'.out hb2)
          have HB2 := Lib.hid (HB'.out.trans (hb2.mono hsz'))
          have HA2 := Lib.hid (apart_new HO'.out ho2)
          have HX2 := Lib.hid (ho2.base hsz')
          clear ho2 hb2
          go_wp2_with fail
          go_roundg ((aboveL row).length + 1)
          case rel =>
            refine ⟨j + 1, by rw [rowAt, HR.out], ?_, by rw [HI.out]; go_num, ?_, by rw [rowAt, HR.out]; exact HX2.out, HA2.out, HB2.out⟩
            · intro k hk
              rcases Nat.lt_or_ge k j with h1 | h1
              · exact HT.out k h1
              · have : k = j := by omega
                subst this; rw [HR.out]; exact hlt
            · rw [HP.out, HQ.out, parts_snoc, List.length_append]
              exact HO2.out
          case measure => rw [HL.out]; omega
        · have hx1 : bits .xor .i64 (q : Int) 1 = (q : Int) + 1 := by rw [bits_xor_one q (by omega), xor_one_even q (by omega)]; omega
          have HQ := Lib.hid (pstep_none q row (by omega) hnx)
          clear HZ
          go_wp2_with fail
          refine (HA.out _ (Sl.ofOwns HX.out)).mono ?_
          rintro e w2 ⟨v2, rfl, ho2, hb2⟩
          have HO2 := Lib.hid (owns_below HO.out hb2)
          have HB2 := Lib.hid (HB.out.trans (hb2.mono hsz))
          have HA2 := Lib.hid (apart_new HO.out ho2)
          have HX2 := Lib.hid (ho2.base hsz)
          clear ho2 hb2
          go_wp2_with fail
          go_roundg ((aboveL row).length + 1)
          case rel =>
            refine ⟨j + 1, by rw [rowAt, HR.out], ?_, by rw [HI.out]; go_num, ?_, by rw [rowAt, HR.out]; exact HX2.out, HA2.out, HB2.out⟩
            · intro k hk
              rcases Nat.lt_or_ge k j with h1 | h1
              · exact HT.out k h1
              · have : k = j := by omega
                subst this; rw [HR.out]; exact hlt
            · rw [HP.out, HQ.out, List.append_nil]
              exact HO2.out
          case measure => rw [HL.out]; omega
    · go_wp2_with fail
      go_ret2
      exact ⟨j, _, ⟨by rw [HR.out]; omega, HT.out⟩, rfl, HO.out, HB.out⟩

theorem vProof_large (v : Value) (s : List Nat) (i : Int) (w : World) (h : Sl w 1 v s.length (u32s s)) (hn : 1000 < s.length) :
    Calls Try.prog 12 #[v, .int .i64 i] w fun e w' => e = .returned (.tuple #[.slice none 0 0, .int .i64 2]) ∧ w = w' := by
  have hlen := h.len et_u32s.ht 3
  have hb := h.bound
  clear h
  go_enter Try.func12, Try.ntmps12
  go_wp2
  go_ret2
  exact ⟨rfl, rfl⟩

theorem vProof_range (v : Value) (s : List Nat) (i : Int) (w : World) (h : Sl w 1 v s.length (u32s s)) (hn : s.length ≤ 1000) (hr : i < 0 ∨ s.length ≤ i) :
    Calls Try.prog 12 #[v, .int .i64 i] w fun e w' => e = .returned (.tuple #[.slice none 0 0, .int .i64 1]) ∧ w = w' := by
  have hlen := h.len et_u32s.ht 3
  clear h
  by_cases h1 : i < 0
  · clear hr
    go_enter Try.func12, Try.ntmps12
    go_wp2
    go_ret2
    exact ⟨rfl, rfl⟩
  · have h2 : (s.length : Int) ≤ i := by omega
    clear hr
    go_enter Try.func12, Try.ntmps12
    go_wp2
    go_ret2
    exact ⟨rfl, rfl⟩
end Go.Proofs.Ytkflhehocbaoiaa
