/- The reference's IsName. -/
import Derived.Test.YtieccphckobhjaaDoorN1
namespace Go.Proofs.YtieccphckobhjaaDoor
open Go.RowKit Go.Shelf
attribute [local go_sem ↓] run_min_kept run_max_kept

theorem bytes_at (s : ByteArray) (k : Nat) (h : k < s.size) : s.data.toList[k]'(by rw [Array.length_toList]; exact h) = s[k] := by
  rw [Array.getElem_toList]; rfl
theorem all_take (l : List UInt8) (k : Nat) (h : k < l.length) (p : UInt8 → Bool) (h1 : (l.take k).all p = true) (h2 : p l[k] = true) : (l.take (k + 1)).all p = true := by
  rw [List.take_succ_eq_append_getElem h, List.all_append, h1]; simp [h2]
theorem all_bad (l : List UInt8) (k : Nat) (h : k < l.length) (p : UInt8 → Bool) (h2 : p l[k] = false) : l.all p = false := by
  rw [List.all_eq_false]; exact ⟨l[k], List.getElem_mem h, by simp [h2]⟩

set_option maxHeartbeats 1600000 in
theorem rName_any (s : ByteArray) (w : World) (hs : s.size ≤ 9223372036854775807) :
    Calls Tryd.prog 80 #[.string s] w fun e w' => e = .returned (.bool (isName s.data.toList)) ∧ Below w.heap.size w w' := by
  have hl : s.data.toList.length = s.size := by rw [Array.length_toList]; rfl
  by_cases h0 : s.size < 1
  · have HR := Lib.hid (show isName s.data.toList = false by unfold isName; rw [hl]; simp; omega)
    have he : s.toList.isEmpty = true := by
      rw [ByteArray.toList_eq]
      cases hh : s.data.toList with
      | nil => rfl
      | cons _ _ => rw [hh] at hl; simp at hl; omega
    clear hl
    go_enter Tryd.func80, Tryd.ntmps80
    go_wp2_with fail
    go_ret
    exact ⟨by rw [HR.out]; rfl, Below.refl _ _⟩
  have he : s.toList.isEmpty = false := by
    rw [ByteArray.toList_eq]
    cases hh : s.data.toList with
    | nil => rw [hh] at hl; simp at hl; omega
    | cons _ _ => rfl
  by_cases h1 : 40 < s.size
  · have HR := Lib.hid (show isName s.data.toList = false by unfold isName; rw [hl]; simp; omega)
    clear hl
    go_enter Tryd.func80, Tryd.ntmps80
    go_wp2_with fail
    go_ret
    exact ⟨by rw [HR.out]; rfl, Below.refl _ _⟩
  have hp : 0 < s.size := by omega
  have hh : s.data.toList.headD 0 = s[0] := by
    obtain ⟨⟨l⟩⟩ := s
    cases l with
    | nil => simp [ByteArray.size] at hp
    | cons x r => rfl
  have hlen : (decide (1 ≤ s.data.toList.length) && decide (s.data.toList.length ≤ 40)) = true := by rw [hl]; simp; omega
  have hname : isName s.data.toList = (headB s[0] && s.data.toList.all nameB) := by unfold isName; rw [hlen, hh, Bool.true_and]
  clear hlen hh
  by_cases ha : s[0].toNat < 97
  · have HR := Lib.hid (show isName s.data.toList = false by rw [hname]; unfold headB; simp; omega)
    clear hname hl
    go_enter Tryd.func80, Tryd.ntmps80
    go_wp2_with fail
    go_ret
    exact ⟨by rw [HR.out]; rfl, Below.refl _ _⟩
  by_cases hb : 122 < s[0].toNat
  · have HR := Lib.hid (show isName s.data.toList = false by rw [hname]; unfold headB; simp; omega)
    clear hname hl
    go_enter Tryd.func80, Tryd.ntmps80
    go_wp2_with fail
    go_ret
    exact ⟨by rw [HR.out]; rfl, Below.refl _ _⟩
  have hhd : headB s[0] = true := by unfold headB; simp; omega
  rw [hhd, Bool.true_and] at hname
  have ha' : 97 ≤ s[0].toNat := by omega
  have hb' : s[0].toNat ≤ 122 := by omega
  have HN := Lib.hid hname
  have HL := Lib.hid hl
  clear hname hl hhd ha hb
  go_enter Tryd.func80, Tryd.ntmps80
  go_wp2_with fail
  go_loopw [24] (fun i wr => ∃ k : Nat, k ≤ s.size ∧ i = .int .i64 k ∧ (s.data.toList.take k).all nameB = true ∧ Below w.heap.size w wr) (fun i _ => s.size - (intOf i).toNat)
  case atStart => exact ⟨0, Nat.zero_le _, rfl, by simp, Below.refl _ _⟩
  case round =>
    obtain ⟨k, hk, rfl, htake, hbel0⟩ := hrel
    have HBL := Lib.hid hbel0
    clear hbel0
    have HT := Lib.hid htake
    clear htake
    by_cases hlt : k < s.size
    · have hkl : k < s.data.toList.length := by rw [HL.out]; exact hlt
      have HG := Lib.hid (fun h2 => all_take s.data.toList k hkl nameB HT.out (by rw [bytes_at s k hlt]; exact h2))
      have HB := Lib.hid (fun h2 => (HN.out.trans (all_bad s.data.toList k hkl nameB (by rw [bytes_at s k hlt]; exact h2))))
      have hb256 : (s[k]'hlt).toNat < 256 := (s[k]'hlt).toNat_lt
      clear hkl
      by_cases hu0 : s[k].toNat < 45
      · have q0 : (s[k].toNat : Int) < 97 := by omega
        have q1 : (s[k].toNat : Int) ≤ 122 := by omega
        have q2 : (s[k].toNat : Int) < 48 := by omega
        have q3 : (s[k].toNat : Int) ≤ 57 := by omega
        have q4 : ((s[k].toNat : Int) != 45) = true := by simp; omega
        have HQ := Lib.hid (HB.out (by unfold nameB; simp; omega))
        clear HB HG
        go_wp2_with fail
        go_ret
        exact ⟨by rw [HQ.out]; rfl, HBL.out⟩
      by_cases hu1 : s[k].toNat < 46
      · have q0 : (s[k].toNat : Int) < 97 := by omega
        have q1 : (s[k].toNat : Int) ≤ 122 := by omega
        have q2 : (s[k].toNat : Int) < 48 := by omega
        have q3 : (s[k].toNat : Int) ≤ 57 := by omega
        have q4 : ((s[k].toNat : Int) != 45) = false := by simp; omega
        have HQ := Lib.hid (HG.out (by unfold nameB; simp; omega))
        clear HB HG
        go_wp2_with fail
        go_roundw
        case rel => exact ⟨k + 1, by omega, by go_num, HQ.out, HBL.out⟩
        case measure => simp [intOf]; omega
      by_cases hu2 : s[k].toNat < 48
      · have q0 : (s[k].toNat : Int) < 97 := by omega
        have q1 : (s[k].toNat : Int) ≤ 122 := by omega
        have q2 : (s[k].toNat : Int) < 48 := by omega
        have q3 : (s[k].toNat : Int) ≤ 57 := by omega
        have q4 : ((s[k].toNat : Int) != 45) = true := by simp; omega
        have HQ := Lib.hid (HB.out (by unfold nameB; simp; omega))
        clear HB HG
        go_wp2_with fail
        go_ret
        exact ⟨by rw [HQ.out]; rfl, HBL.out⟩
      by_cases hu3 : s[k].toNat < 58
      · have q0 : (s[k].toNat : Int) < 97 := by omega
        have q1 : (s[k].toNat : Int) ≤ 122 := by omega
        have q2 : 48 ≤ (s[k].toNat : Int) := by omega
        have q3 : (s[k].toNat : Int) ≤ 57 := by omega
        have q4 : ((s[k].toNat : Int) != 45) = true := by simp; omega
        have HQ := Lib.hid (HG.out (by unfold nameB; simp; omega))
        clear HB HG
        go_wp2_with fail
        go_roundw
        case rel => exact ⟨k + 1, by omega, by go_num, HQ.out, HBL.out⟩
        case measure => simp [intOf]; omega
      by_cases hu4 : s[k].toNat < 97
      · have q0 : (s[k].toNat : Int) < 97 := by omega
        have q1 : (s[k].toNat : Int) ≤ 122 := by omega
        have q2 : 48 ≤ (s[k].toNat : Int) := by omega
        have q3 : 57 < (s[k].toNat : Int) := by omega
        have q4 : ((s[k].toNat : Int) != 45) = true := by simp; omega
        have HQ := Lib.hid (HB.out (by unfold nameB; simp; omega))
        clear HB HG
        go_wp2_with fail
        go_ret
        exact ⟨by rw [HQ.out]; rfl, HBL.out⟩
      by_cases hu5 : s[k].toNat < 123
      · have q0 : 97 ≤ (s[k].toNat : Int) := by omega
        have q1 : (s[k].toNat : Int) ≤ 122 := by omega
        have q2 : 48 ≤ (s[k].toNat : Int) := by omega
        have q3 : 57 < (s[k].toNat : Int) := by omega
        have q4 : ((s[k].toNat : Int) != 45) = true := by simp; omega
        have HQ := Lib.hid (HG.out (by unfold nameB; simp; omega))
        clear HB HG
        go_wp2_with fail
        go_roundw
        case rel => exact ⟨k + 1, by omega, by go_num, HQ.out, HBL.out⟩
        case measure => simp [intOf]; omega
      have q0 : 97 ≤ (s[k].toNat : Int) := by omega
      have q1 : 122 < (s[k].toNat : Int) := by omega
      have q2 : 48 ≤ (s[k].toNat : Int) := by omega
      have q3 : 57 < (s[k].toNat : Int) := by omega
      have q4 : ((s[k].toNat : Int) != 45) = true := by simp; omega
      have HQ := Lib.hid (HB.out (by unfold nameB; simp; omega))
      clear HB HG
      go_wp2_with fail
      go_ret
      exact ⟨by rw [HQ.out]; rfl, HBL.out⟩
    · have e : k = s.size := by omega
      subst e
      have hall : isName s.data.toList = true := by
        have := HT.out
        rw [← HL.out, List.take_length] at this
        exact HN.out.trans this
      have HQ := Lib.hid hall
      clear hall
      go_wp2_with fail
      go_ret
      exact ⟨by rw [HQ.out]; rfl, HBL.out⟩
end Go.Proofs.YtieccphckobhjaaDoor
