/- Names: sound.IsName and the reference's, both by one Lean function. -/
import Derived.Test.YtieccphckobhjaaDoorShelf
import Derived.Test.YtieccphckobhjaaDoorS0
namespace Go.Proofs.YtieccphckobhjaaDoor
open Go.RowKit Go.Shelf Go.Lib
attribute [local go_sem ↓] run_min_kept run_max_kept

/-- a to z, 0 to 9, the hyphen. -/
def nameB (b : UInt8) : Bool := (decide (97 ≤ b.toNat) && decide (b.toNat ≤ 122)) || (decide (48 ≤ b.toNat) && decide (b.toNat ≤ 57)) || decide (b.toNat = 45)
def headB (b : UInt8) : Bool := decide (97 ≤ b.toNat) && decide (b.toNat ≤ 122)
/-- What a name is. -/
def isName (l : List UInt8) : Bool := decide (1 ≤ l.length) && decide (l.length ≤ 40) && headB (l.headD 0) && l.all nameB

def letters : List UInt8 := [97, 98, 99, 100, 101, 102, 103, 104, 105, 106, 107, 108, 109, 110, 111, 112, 113, 114, 115, 116, 117, 118, 119, 120, 121, 122, 48, 49, 50, 51, 52, 53, 54, 55, 56, 57, 45]
theorem letters_nat : ∀ n : Fin 256, letters.contains (UInt8.ofNat n.val) = nameB (UInt8.ofNat n.val) := by decide +kernel
theorem letters_eq (b : UInt8) : letters.contains b = nameB b := by
  have := letters_nat ⟨b.toNat, b.toNat_lt⟩
  simpa using this

theorem dropWhile_nil {α : Type} (p : α → Bool) : ∀ l : List α, l.dropWhile p = [] ↔ l.all p = true
  | [] => by simp
  | x :: l => by
    cases h : p x
    · simp [h]
    · simp [h, dropWhile_nil p l]
theorem trim_nil (l : List UInt8) : (Lib.trimS l letters = []) ↔ l.all nameB = true := by
  have hf : (fun b => letters.contains b) = nameB := funext letters_eq
  unfold Lib.trimS Lib.trimLeftS Lib.trimRightS
  rw [dropWhile_nil, hf]
  constructor
  · intro h
    rw [List.all_reverse] at h
    have h2 : (l.reverse.dropWhile nameB) = [] := by
      cases hd : l.reverse.dropWhile nameB with
      | nil => rfl
      | cons x r =>
        have h3 := List.head?_dropWhile_not nameB l.reverse
        rw [hd] at h h3
        simp at h h3
        rw [h.1] at h3
        cases h3
    rw [dropWhile_nil, List.all_reverse] at h2
    exact h2
  · intro h
    have : l.reverse.dropWhile nameB = [] := by rw [dropWhile_nil, List.all_reverse]; exact h
    rw [this]; rfl

set_option maxHeartbeats 800000 in
theorem pName_any (s : ByteArray) (w : World) (hs : s.size ≤ 9223372036854775807) :
    Calls Tryd.prog 28 #[.string s] w fun e w' => e = .returned (.bool (isName s.data.toList)) ∧ Below w.heap.size w w' := by
  have hl : s.data.toList.length = s.size := by rw [Array.length_toList]; rfl
  by_cases h0 : s.size < 1
  · have HR := Lib.hid (show isName s.data.toList = false by unfold isName; rw [hl]; simp; omega)
    clear hl
    go_enter Tryd.func28, Tryd.ntmps28
    go_wp2_with fail
    go_ret
    exact ⟨by rw [HR.out]; rfl, Below.refl _ _⟩
  by_cases h1 : 40 < s.size
  · have HR := Lib.hid (show isName s.data.toList = false by unfold isName; rw [hl]; simp; omega)
    clear hl
    go_enter Tryd.func28, Tryd.ntmps28
    go_wp2_with fail
    go_ret
    exact ⟨by rw [HR.out]; rfl, Below.refl _ _⟩
  have hp : 0 < s.size := by omega
  have hh : s.data.toList.headD 0 = s[0] := by
    obtain ⟨⟨l⟩⟩ := s
    cases l with
    | nil => simp [ByteArray.size] at hp
    | cons x r => rfl
  have hlen : (decide (1 ≤ s.data.toList.length) && decide (s.data.toList.length ≤ 40)) = true := by rw [hl]; simp; omega
  have hname : isName s.data.toList = (headB s[0] && s.data.toList.all nameB) := by unfold isName; rw [hlen, hh, Bool.true_and]
  clear hl hlen hh
  by_cases ha : s[0].toNat < 97
  · have HR := Lib.hid (show isName s.data.toList = false by rw [hname]; unfold headB; simp; omega)
    clear hname
    go_enter Tryd.func28, Tryd.ntmps28
    go_wp2_with fail
    go_ret
    exact ⟨by rw [HR.out]; rfl, Below.refl _ _⟩
  by_cases hb : 122 < s[0].toNat
  · have HR := Lib.hid (show isName s.data.toList = false by rw [hname]; unfold headB; simp; omega)
    clear hname
    go_enter Tryd.func28, Tryd.ntmps28
    go_wp2_with fail
    go_ret
    exact ⟨by rw [HR.out]; rfl, Below.refl _ _⟩
  have hhd : headB s[0] = true := by unfold headB; simp; omega
  rw [hhd, Bool.true_and] at hname
  have hlet : (⟨letters.toArray⟩ : ByteArray).size < 4294967281 := by decide
  have hcon := Any.strings_Trim_laid Tryd.l160 (by kernel_rfl) s ⟨letters.toArray⟩ w hs hlet (ascii_of_all (by decide))
  change Calls Tryd.prog 76 #[.string s, .string ⟨#[97, 98, 99, 100, 101, 102, 103, 104, 105, 106, 107, 108, 109, 110, 111, 112, 113, 114, 115, 116, 117, 118, 119, 120, 121, 122, 48, 49, 50, 51, 52, 53, 54, 55, 56, 57, 45]⟩] w (fun e w' => e = .returned (.string ⟨(Lib.trimS s.data.toList letters).toArray⟩) ∧ Below w.heap.size w w') at hcon
  have ha' : 97 ≤ s[0].toNat := by omega
  have hb' : s[0].toNat ≤ 122 := by omega
  by_cases hall : s.data.toList.all nameB = true
  · have HR := Lib.hid (hname.trans hall)
    rw [(trim_nil s.data.toList).2 hall] at hcon
    have HC := Lib.hid hcon
    clear hname hall hcon hhd
    go_enter Tryd.func28, Tryd.ntmps28
    go_wp2_with fail
    refine HC.out.mono ?_
    rintro e w' ⟨rfl, hbel⟩
    go_wp2_with fail
    go_ret
    exact ⟨by rw [HR.out]; rfl, hbel⟩
  · have hne : (⟨(Lib.trimS s.data.toList letters).toArray⟩ : ByteArray) ≠ ⟨#[]⟩ := by
      intro h
      apply hall
      rw [← trim_nil]
      injection h with h
      simpa using h
    have HR := Lib.hid (hname.trans (by simpa using hall))
    have hneb : (⟨(Lib.trimS s.data.toList letters).toArray⟩ : ByteArray).toList.isEmpty = false := by
      rw [ByteArray.toList_eq]
      cases hl : (⟨(Lib.trimS s.data.toList letters).toArray⟩ : ByteArray).data.toList with
      | nil => exact absurd (by simp at hl; rw [hl]) hne
      | cons _ _ => rfl
    generalize (⟨(Lib.trimS s.data.toList letters).toArray⟩ : ByteArray) = r at *
    have HC := Lib.hid hcon
    clear hname hall hcon hhd
    go_enter Tryd.func28, Tryd.ntmps28
    go_wp2_with fail
    refine HC.out.mono ?_
    rintro e w' ⟨rfl, hbel⟩
    go_wp2_with fail
    go_ret
    exact ⟨by rw [HR.out]; rfl, hbel⟩
end Go.Proofs.YtieccphckobhjaaDoor
