/- The walks of rows, Root, Proof and Climb (reference). -/
import Derived.Test.YtkflhehocbaoiaaR4
namespace Go.Proofs.Ytkflhehocbaoiaa
open Go.RowKit
attribute [local go_sem ↓] run_min_kept run_max_kept

theorem et_u64ss : ElemTy Try.prog 55 48 1 24 (.slice none 0 0) := ⟨by kernel_rfl, by kernel_rfl, by kernel_rfl, by decide⟩

/-- The rows that were gathered, each in a block of its own. -/
def RowsAt (w : World) (B : Nat) (out : Value) (s : List Nat) (vs : List Value) : Prop :=
  AllAt (fun j x => w.ownsRow B 35 1 x (rowAt s j).length (u64s (rowAt s j)) ∧ Apart x out) vs

theorem RowsAt.below {w w' : World} {B : Nat} {out : Value} {s : List Nat} {vs : List Value} (h : RowsAt w B out s vs) (hb : Below w.heap.size w w') : RowsAt w' B out s vs :=
  h.imp fun _ _ ⟨h1, h2⟩ => ⟨owns_below h1 hb, h2⟩
theorem RowsAt.push {w w' : World} {B : Nat} {out out' : Value} {s : List Nat} {vs : List Value} (h : RowsAt w B out s vs) (hp : Pushed w out w' out') : RowsAt w' B out' s vs :=
  h.imp fun _ _ ⟨h1, h2⟩ => hp.keep h1 h2

theorem owns_oneCell {w : World} {B e size n : Nat} {v : Value} {xs : List Value} (h : w.ownsRow B e size v n xs) : v.oneCell' = true := (Sl.ofOwns h).oneCell

/-- What holds while the next row is made. -/
def Inner (row : List Nat) (wo : World) (x i : Value) (wr : World) : Prop :=
  ∃ k : Nat, 2 * k ≤ row.length + 1 ∧ i = .int .i64 (2 * (k : Int)) ∧ wr.ownsRow wo.heap.size 35 1 x k (u64s ((aboveL row).take k)) ∧ Below wo.heap.size wo wr

set_option maxHeartbeats 1600000 in
theorem rows_any (v : Value) (s : List Nat) (w : World) (h : Sl w 1 v s.length (u32s s)) (hs : Sums32 s) (hn : s.length ≤ 10000000) :
    Calls Try.prog 28 #[v] w fun e w' => ∃ m v' vs, IsTop s m ∧ e = .returned v' ∧ w'.ownsRow w.heap.size 48 1 v' (m + 1) vs ∧ vs.length = m + 1 ∧
      RowsAt w' w.heap.size v' s vs ∧ Below w.heap.size w w' := by
  have hlen := h.len et_u32s.ht 3
  have H := Lib.hid h
  clear h
  go_enter Try.func28, Try.ntmps28
  go_wp2_with fail
  go_loopw [3, 11] (fun x i wr => ∃ k : Nat, k ≤ s.length ∧ i = .int .i64 k ∧ wr.ownsRow w.heap.size 35 1 x k (u64s (lowL (s.take k))) ∧ Below w.heap.size w wr) (fun _ i _ => s.length - (intOf i).toNat)
  case atStart => exact ⟨0, Nat.zero_le _, rfl, World.ownsRow_nil _ _ _ _, Below.refl _ _⟩
  case round =>
    obtain ⟨k, hk, rfl, hown, hbel⟩ := hrel
    have hsz := hbel.size
    have HO := Lib.hid hown
    have HB := Lib.hid hbel
    clear hown hbel
    by_cases hlt : k < s.length
    · obtain ⟨ad, hix, hcell⟩ := (H.out.below HB.out (Nat.le_refl _)).idx1 et_u32s k (by omega) (by omega)
      rw [Int.toNat_natCast, u32s_getD s k hlt] at hcell
      have hx := hs s[k] (List.getElem_mem hlt)
      go_wp2_with fail
      refine (low_any _ _ hx).mono ?_
      rintro e w2 ⟨rfl, hb2⟩
      have HO2 := Lib.hid (owns_below HO.out hb2)
      have HB2 := Lib.hid (HB.out.trans (hb2.mono hsz))
      have hsz2 : w.heap.size ≤ w2.heap.size := Nat.le_trans hsz hb2.size
      clear hb2
      go_wp2_with (at_builtin; refine wpList_push et_u64s _ _ rfl rfl HO2.out rfl rfl rfl (one1 rfl) (by omega) (by omega) HB2.out hsz2 ?_; intro v' w' hown' hbel' hsz' _)
      have HO' := Lib.hid hown'
      have HE' := Lib.hid hbel'
      clear hown' hbel'
      go_wp2
      go_roundw
      case rel => exact ⟨k + 1, by omega, by go_num, by rw [take_snoc s k hlt, lowL, List.map_append, u64s, List.map_append]; exact HO'.out, HE'.out⟩
      case measure => simp [intOf]; omega
    · have e : k = s.length := by omega
      subst e
      rw [List.take_length] at HO
      have hone := owns_oneCell HO.out
      go_wp2_with (refine wpList_lit1 et_u64ss _ rfl rfl rfl hone ?_)
      have hrow : Row (wr.alloc (.cells #[u3] 48)) wr.heap.size 48 [u3] := heap_alloc_new wr _
      have hb1 : Below wr.heap.size wr (wr.alloc (.cells #[u3] 48)) := (Below.refl _ _).alloc (Nat.le_refl _) _
      have hz1 : (wr.alloc (.cells #[u3] 48)).heap.size = wr.heap.size + 1 := by simp
      generalize (wr.alloc (.cells #[u3] 48)) = w1 at *
      have HO1 := Lib.hid (owns_below HO.out hb1)
      have HB1 := Lib.hid (HB.out.trans (hb1.mono hsz))
      have HX1 := Lib.hid (hrow.owns hsz (by simp))
      have hap : Apart u3 (.slice (some ⟨wr.heap.size, 0, none⟩) 1 1) := by
        cases hb : u3.ownBlock with
        | none => exact .inl hb
        | some g =>
          refine .inr ?_
          rw [hb]
          intro he
          have := (World.ownsRow.lt HO.out g hb).2
          simp [Value.ownBlock] at he
          omega
      have HAP := Lib.hid hap
      clear hrow hb1 hap hone
      go_loopg [3, 6] (s.length + 1) (fun g x out wr => ∃ (j : Nat) (vs : List Value), g = (rowAt s j).length + 1 ∧ (∀ i, i < j → 1 < (rowAt s i).length) ∧ wr.ownsRow w.heap.size 35 1 x (rowAt s j).length (u64s (rowAt s j)) ∧
        wr.ownsRow w.heap.size 48 1 out (j + 1) vs ∧ vs.length = j + 1 ∧ RowsAt wr w.heap.size out s vs ∧ Below w.heap.size w wr)
      case atStart =>
        refine ⟨0, [u3], by simp [rowAt, lowL], fun i hi => absurd hi (by omega), by simpa [rowAt, lowL] using HO1.out, HX1.out, rfl, ?_, HB1.out⟩
        intro i x hx
        match i, hx with
        | 0, hx => simp at hx; subst hx; exact ⟨by simpa [rowAt, lowL] using HO1.out, HAP.out⟩
      case round =>
        obtain ⟨j, vs, rfl, htop, hrowj, hout, hvs, hrows, hbel⟩ := hrel
        have hl := rowAt_le s j
        have hsl := Sl.ofOwns hrowj
        have hlj := hsl.len et_u64s.ht 3
        have htl := top_le s j htop
        have HT := Lib.hid htop
        have HJ := Lib.hid hsl
        have HB := Lib.hid hbel
        have HO := Lib.hid hout
        have HV := Lib.hid hvs
        have HR := Lib.hid hrows
        have hsz := hbel.size
        have HW := Lib.hid (rowAt_words s j)
        have HL := Lib.hid (aboveL_length (rowAt s j))
        have HZ := Lib.hid (u64s_getD (rowAt s j))
        have hone : ∀ {B e size n v xs}, World.ownsRow wr B e size v n xs → v.oneCell' = true := owns_oneCell
        clear htop hsl hbel hout hvs hrows hone hrowj
        generalize hr : rowAt s j = row at *
        have HRW := Lib.hid hr
        clear hr HO1 HB1 HX1 HAP
        by_cases hlt : 1 < row.length
        · obtain ⟨wo, rfl⟩ : ∃ wo : World, wo = wr := ⟨_, rfl⟩
          go_wp2_with fail
          go_loopw [7, 8] (fun x i wr => Inner row wo x i wr) (fun _ i _ => row.length + 2 - (intOf i).toNat)
          case atStart => unfold Inner; exact ⟨0, by omega, rfl, World.ownsRow_nil _ _ _ _, Below.refl _ _⟩
          case round =>
            obtain ⟨k, hk, rfl, hown, hbel⟩ := hrel
            have hszi := hbel.size
            have HOi := Lib.hid hown
            have HBi := Lib.hid hbel
            clear hown hbel
            by_cases hlt : 2 * k < row.length
            · obtain ⟨ad, hix, hcell0⟩ := HJ.out.idx1 et_u64s (2 * (k : Int)) (by omega) (by omega)
              rw [show (2 * (k : Int)).toNat = 2 * k by omega, HZ.out (2 * k) hlt] at hcell0
              have hcell := cell_behind HBi.out hcell0
              have hw1 := HW.out.getD (2 * k)
              have HT2 := Lib.hid (aboveL_take row k (by omega))
              by_cases hlt2 : 2 * k + 1 < row.length
              · obtain ⟨ad2, hix2, hcell20⟩ := HJ.out.idx1 et_u64s (2 * (k : Int) + 1) (by omega) (by omega)
                rw [show (2 * (k : Int) + 1).toNat = 2 * k + 1 by omega, HZ.out (2 * k + 1) hlt2] at hcell20
                have hcell2 := cell_behind HBi.out hcell20
                have hw2 := HW.out.getD (2 * k + 1)
                have HA := Lib.hid (show aboveAt row k = bothN (row.getD (2 * k) 0) (row.getD (2 * k + 1) 0) by unfold aboveAt; rw [if_pos hlt2])
                clear HZ
                generalize row.getD (2 * k) 0 = n1 at *
                generalize row.getD (2 * k + 1) 0 = n2 at *
                have hsum : IntKind.i64.wrap (2 * (k : Int) + 1) = 2 * (k : Int) + 1 := IntWalk.i64_in _ (by omega)
                go_wp2_with fail
                go_region_held3 (fun w' => w'.cell? ad = some (.int .u64 n1) ∧ w'.cell? ad2 = some (.int .u64 n2)) (go_keep) (first | (go_at_call 31; refine (rboth_any n1 n2 _ hw1 hw2).mono ?_; rintro e w2 ⟨rfl, hb2⟩; have q1 := cell_drewn hb2 hcell; have q2 := cell_drewn hb2 hcell2) | (refine step_push (w := w2) et_u64s _ _ (by rfl) (by rfl) (owns_below HOi.out.drew hb2) (by rfl) (by rfl) rfl (one1 rfl) (by omega) (by omega) (HBi.out.drew.trans (hb2.mono hszi)) (Nat.le_trans hszi hb2.size) ?_; intro v' w' hown' hbel' hsz' _; have q3 := cell_behind hbel' hcell0; have q4 := cell_behind hbel' hcell20))
                have HO' := Lib.hid hown'
                have HE' := Lib.hid hbel'
                clear hown' hbel'
                go_wp2
                go_roundw
                case rel => unfold Inner; exact ⟨k + 1, by omega, by go_num, by rw [HT2.out, u64s_snoc, HA.out]; exact HO'.out, HE'.out⟩
                case measure => simp [intOf]; omega
              · have HA := Lib.hid (show aboveAt row k = row.getD (2 * k) 0 by unfold aboveAt; rw [if_neg hlt2])
                clear HZ
                generalize row.getD (2 * k) 0 = n1 at *
                go_wp2_with (at_builtin; refine wpList_push et_u64s _ _ rfl rfl HOi.out rfl rfl rfl (one1 rfl) (by omega) (by omega) HBi.out hszi ?_; intro v' w' hown' hbel' hsz' _)
                have HO' := Lib.hid hown'
                have HE' := Lib.hid hbel'
                clear hown' hbel'
                go_wp2
                go_roundw
                case rel => unfold Inner; exact ⟨k + 1, by omega, by go_num, by rw [HT2.out, u64s_snoc, HA.out]; exact HO'.out, HE'.out⟩
                case measure => simp [intOf]; omega
            · have e : k = (row.length + 1) / 2 := by omega
              have ho' : wr.ownsRow wo.heap.size 35 1 u7 (aboveL row).length (u64s (aboveL row)) := by
                have := HOi.out
                rw [List.take_of_length_le (by rw [HL.out]; omega)] at this
                rw [HL.out, ← e]; exact this
              have hone := owns_oneCell ho'
              have HON := Lib.hid (owns_below HO.out HBi.out)
              have HBN := Lib.hid (HB.out.trans (HBi.out.mono hsz))
              have HRN := Lib.hid (HR.out.below HBi.out)
              have HAP := Lib.hid (apart_new HO.out ho')
              have HN := Lib.hid (ho'.base hsz)
              have hszn : w.heap.size ≤ wr.heap.size := by omega
              clear e ho'
              go_wp2_with (first | (refine wpList_lit1 et_u64ss _ rfl rfl rfl hone ?_) | (at_builtin; refine wpList_push et_u64ss _ _ rfl rfl HON.out rfl rfl rfl (one1 hone) (by omega) (by omega) HBN.out hszn ?_; intro v' w' hown' hbel' hsz' hpush))
              have HO' := Lib.hid hown'
              have HB' := Lib.hid hbel'
              have HP := Lib.hid (hpush.keep HN.out HAP.out)
              have HR' := Lib.hid (HRN.out.push hpush)
              clear hown' hbel' hpush
              go_wp2
              go_roundg ((aboveL row).length + 1)
              case rel =>
                have ej : rowAt s (j + 1) = aboveL row := by rw [rowAt, HRW.out]
                refine ⟨j + 1, vs ++ [u7], by rw [ej], ?_, by rw [ej]; exact HP.out.1, HO'.out, by simp [HV.out], ?_, HB'.out⟩
                · intro i hi
                  rcases Nat.lt_or_ge i j with h1 | h1
                  · exact HT.out i h1
                  · have : i = j := by omega
                    subst this; rw [HRW.out]; omega
                · exact HR'.out.snoc (by rw [HV.out, ej]; exact HP.out)
              case measure => rw [HL.out]; omega
        · go_wp2_with fail
          go_ret
          exact ⟨j, _, vs, ⟨by rw [HRW.out]; omega, HT.out⟩, rfl, HO.out, HV.out, HR.out, HB.out⟩

set_option maxHeartbeats 400000 in
theorem rRoot_any (v : Value) (s : List Nat) (w : World) (h : Sl w 1 v s.length (u32s s)) (hs : Sums32 s) (hn : s.length ≤ 10000000) (h0 : 0 < s.length) :
    Calls Try.prog 16 #[v] w fun e w' => ∃ m, IsTop s m ∧ e = .returned (.int .u64 ((rowAt s m).getD 0 0 : Nat)) ∧ Below w.heap.size w w' := by
  have hlen := h.len et_u32s.ht 3
  have H := Lib.hid h
  have hne : ((s.length : Int) == 0) = false := by rw [beq_eq_false_iff_ne]; omega
  clear h
  go_enter Try.func16, Try.ntmps16
  go_wp2_with fail
  refine (rows_any v s _ H.out hs hn).mono ?_
  rintro e w1 ⟨m, v1, vs, hm, rfl, ho1, hvs, hrows, hb1⟩
  have hs1 := Sl.ofOwns ho1
  have hlen1 := hs1.len et_u64ss.ht 3
  have htl := top_le s m hm.2
  obtain ⟨ad, hix, hcell⟩ := hs1.idx1 et_u64ss ((m : Int) + 1 - 1) (by omega) (by omega)
  have hmv : m < vs.length := by omega
  rw [show ((m : Int) + 1 - 1).toNat = m by omega, List.getD_eq_getElem?_getD, List.getElem?_eq_getElem hmv, Option.getD_some] at hcell
  have hrow := Sl.ofOwns (hrows.at hmv).1
  have hp := rowAt_pos s h0 m
  obtain ⟨ad2, hix2, hcell2⟩ := hrow.idx1 et_u64s 0 (by omega) (by omega)
  rw [Int.toNat_zero, u64s_getD (rowAt s m) 0 hp] at hcell2
  have HM := Lib.hid hm
  have HB1 := Lib.hid hb1
  have hix' : ∀ w', Sem.run Try.prog (Instr.indexAt 55 v1 (.int .i64 m)) w' = .ok (.pointer (some ad)) w' := by
    intro w'
    have := hix w'
    rwa [show (m : Int) + 1 - 1 = m by omega] at this
  clear hm hb1 hrow hrows hs1 ho1 hix
  generalize vs[m] = vm at *
  generalize hx0 : (rowAt s m).getD 0 0 = x0 at *
  have HX := Lib.hid hx0
  clear hx0 hp
  have hmb : (m : Int) ≤ 10000001 := by omega
  go_wp2_with fail
  go_ret
  exact ⟨m, HM.out, by rw [HX.out]; rfl, HB1.out⟩

theorem rRoot_nil (v : Value) (w : World) (h : Sl w 1 v 0 []) :
    Calls Try.prog 16 #[v] w fun e w' => e = .returned (.int .u64 (mseed : Nat)) ∧ w = w' := by
  have hlen := h.len et_u32s.ht 3
  clear h
  go_enter Try.func16, Try.ntmps16
  go_wp2_with fail
  refine (mix_any _ [] _ (Sl.nil _ _)).mono ?_
  rintro e w' ⟨rfl, rfl⟩
  rw [show mixN mseed [] = mseed from rfl]
  go_wp2
  go_ret
  exact ⟨rfl, rfl⟩

theorem rProof_large (v : Value) (s : List Nat) (i : Int) (w : World) (h : Sl w 1 v s.length (u32s s)) (hn : 1000 < s.length) :
    Calls Try.prog 15 #[v, .int .i64 i] w fun e w' => e = .returned (.tuple #[.slice none 0 0, .int .i64 2]) ∧ w = w' := by
  have hlen := h.len et_u32s.ht 3
  have hb := h.bound
  clear h
  go_enter Try.func15, Try.ntmps15
  go_wp2
  go_ret2
  exact ⟨rfl, rfl⟩

theorem rProof_range (v : Value) (s : List Nat) (i : Int) (w : World) (h : Sl w 1 v s.length (u32s s)) (hn : s.length ≤ 1000) (hr : i < 0 ∨ s.length ≤ i) :
    Calls Try.prog 15 #[v, .int .i64 i] w fun e w' => e = .returned (.tuple #[.slice none 0 0, .int .i64 1]) ∧ w = w' := by
  have hlen := h.len et_u32s.ht 3
  have hin := Lib.hid (show inB i 0 ((s.length : Int) - 1) = false by simp [inB]; omega)
  clear h hr
  go_enter Try.func15, Try.ntmps15
  go_wp2_with fail
  refine (within_any _ _ _ _).mono ?_
  rintro e w' ⟨rfl, rfl⟩
  rw [hin.out]
  go_wp2
  go_ret2
  exact ⟨rfl, rfl⟩

/-- What holds while the partners are gathered. -/
def PRel (s : List Nat) (i m : Nat) (w1 : World) (ii out x : Value) (wr : World) : Prop :=
  ∃ j : Nat, j ≤ m + 1 ∧ ii = .int .i64 ((i / 2 ^ j : Nat) : Int) ∧ x = .int .i64 j ∧ wr.ownsRow w1.heap.size 41 2 out (proofTo s i j).length (parts (proofTo s i j)) ∧ Below w1.heap.size w1 wr

set_option maxHeartbeats 800000 in
theorem rProof_ok (v : Value) (s : List Nat) (i : Nat) (w : World) (h : Sl w 1 v s.length (u32s s)) (hs : Sums32 s) (hn : s.length ≤ 1000) (hi : i < s.length) :
    Calls Try.prog 15 #[v, .int .i64 i] w fun e w' => ∃ m v', IsTop s m ∧ e = .returned (.tuple #[v', .int .i64 0]) ∧
      Sl w' 2 v' (proofTo s i m).length (parts (proofTo s i m)) ∧ Below w.heap.size w w' := by
  have hlen := h.len et_u32s.ht 3
  have hin := Lib.hid (show inB i 0 ((s.length : Int) - 1) = true by simp [inB]; omega)
  have H := Lib.hid h
  clear h
  go_enter Try.func15, Try.ntmps15
  go_wp2_with fail
  refine (within_any _ _ _ _).mono ?_
  rintro e w' ⟨rfl, rfl⟩
  rw [hin.out]
  go_wp2_with fail
  refine (rows_any v s _ H.out hs (by omega)).mono ?_
  rintro e w1 ⟨m, v1, vs, hm, rfl, ho1, hvs, hrows, hb1⟩
  have hs1 := Sl.ofOwns ho1
  have hlen1 := hs1.len et_u64ss.ht 3
  have htl := top_le s m hm.2
  have HS1 := Lib.hid hs1
  have HR1 := Lib.hid hrows
  have HV := Lib.hid hvs
  have HM := Lib.hid hm
  have HB1 := Lib.hid hb1
  have hsz1 := hb1.size
  clear hs1 ho1 hrows hvs hm hb1
  go_wp2_with fail
  go_loopw [1, 6, 21] (fun ii out x wr => PRel s i m w1 ii out x wr) (fun _ _ x _ => m + 1 - (intOf x).toNat)
  case atStart => unfold PRel; exact ⟨0, by omega, by simp, rfl, World.ownsRow_nil _ _ _ _, Below.refl _ _⟩
  case round =>
    unfold PRel at hrel
    obtain ⟨j, hj, rfl, rfl, hown, hbel⟩ := hrel
    have HO := Lib.hid hown
    have HB := Lib.hid hbel
    have hsz := hbel.size
    have hpl := proofTo_len s i j
    have HP := Lib.hid (show proofTo s i (j + 1) = proofTo s i j ++ pstep (i / 2 ^ j) (rowAt s j) from rfl)
    have HI := Lib.hid (pow_half i j)
    have hq := idx_lt s i hi j
    have hl := rowAt_le s j
    have HZ := Lib.hid (u64s_getD (rowAt s j))
    clear hown hbel
    by_cases hlt : j ≤ m
    · have hjv : j < vs.length := by rw [HV.out]; omega
      obtain ⟨ad, hix, hcell⟩ := (HS1.out.below HB.out (Nat.le_refl _)).idx1 et_u64ss j (by omega) (by omega)
      rw [Int.toNat_natCast, List.getD_eq_getElem?_getD, List.getElem?_eq_getElem hjv, Option.getD_some] at hcell
      have hrow0 := Sl.ofOwns (HR1.out.at hjv).1
      have hlj := hrow0.len et_u64s.ht 3
      have HJ := Lib.hid hrow0
      clear hrow0
      generalize vs[j] = vj at *
      generalize rowAt s j = row at *
      generalize i / 2 ^ j = q at *
      by_cases hodd : q % 2 = 1
      · obtain ⟨ad2, hix2, hcell2⟩ := (HJ.out.below HB.out (Nat.le_refl _)).idx1 et_u64s ((q : Int) - 1) (by omega) (by omega)
        rw [show ((q : Int) - 1).toNat = q - 1 by omega, HZ.out (q - 1) (by omega)] at hcell2
        have HQ := Lib.hid (pstep_odd q row hodd)
        have hmod : (((q : Int) % 2) == 1) = true := by rw [beq_iff_eq]; omega
        clear HZ
        generalize row.getD (q - 1) 0 = x0 at *
        go_wp2_with (at_builtin; refine wpList_push et_parts _ _ rfl rfl HO.out rfl rfl rfl (one2 rfl rfl) (by omega) (by omega) HB.out hsz ?_; intro v' w' hown' hbel' hsz' _)
        have HO' := Lib.hid hown'
        have HB' := Lib.hid hbel'
        clear hown' hbel'
        go_wp2
        go_roundw
        case rel => unfold PRel; exact ⟨j + 1, by omega, by rw [HI.out]; go_num, by go_num, by rw [HP.out, HQ.out, parts_snoc, List.length_append]; exact HO'.out, HB'.out⟩
        case measure => simp [intOf]; omega
      · have hmod : (((q : Int) % 2) == 1) = false := by rw [beq_eq_false_iff_ne]; omega
        by_cases hnx : q + 1 < row.length
        · obtain ⟨ad2, hix2, hcell2⟩ := (HJ.out.below HB.out (Nat.le_refl _)).idx1 et_u64s ((q : Int) + 1) (by omega) (by omega)
          rw [show ((q : Int) + 1).toNat = q + 1 by omega, HZ.out (q + 1) (by omega)] at hcell2
          have HQ := Lib.hid (pstep_even q row (by omega) hnx)
          clear HZ
          generalize row.getD (q + 1) 0 = x0 at *
          go_wp2_with (at_builtin; refine wpList_push et_parts _ _ rfl rfl HO.out rfl rfl rfl (one2 rfl rfl) (by omega) (by omega) HB.out hsz ?_; intro v' w' hown' hbel' hsz' _)
          have HO' := Lib.hid hown'
          have HB' := Lib.hid hbel'
          clear hown' hbel'
          go_wp2
          go_roundw
          case rel => unfold PRel; exact ⟨j + 1, by omega, by rw [HI.out]; go_num, by go_num, by rw [HP.out, HQ.out, parts_snoc, List.length_append]; exact HO'.out, HB'.out⟩
          case measure => simp [intOf]; omega
        · have HQ := Lib.hid (pstep_none q row (by omega) hnx)
          clear HZ
          go_wp2
          go_roundw
          case rel => unfold PRel; exact ⟨j + 1, by omega, by rw [HI.out]; go_num, by go_num, by rw [HP.out, HQ.out, List.append_nil]; exact HO.out, HB.out⟩
          case measure => simp [intOf]; omega
    · have e : j = m + 1 := by omega
      have HE := Lib.hid (show proofTo s i j = proofTo s i m by
        have h1 := idx_lt s i hi m
        have h2 := HM.out.1
        have h3 : pstep (i / 2 ^ m) (rowAt s m) = [] := by
          generalize i / 2 ^ m = q at *
          exact pstep_none q _ (by omega) (by omega)
        rw [e, proofTo, h3, List.append_nil])
      subst e
      clear HZ HI HP hq
      go_wp2
      go_ret2
      exact ⟨m, _, HM.out, rfl, by rw [← HE.out]; exact Sl.ofOwns HO.out, HB1.out.trans (HB.out.mono hsz1)⟩
end Go.Proofs.Ytkflhehocbaoiaa
