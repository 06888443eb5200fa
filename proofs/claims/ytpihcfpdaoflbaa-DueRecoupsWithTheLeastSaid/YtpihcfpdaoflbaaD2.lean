/- slices.SortStableFunc at []int, fewer than 20 elements. -/
import Derived.Test.YtpihcfpdaoflbaaD1
namespace Go.Proofs.Ytpihcfpdaoflbaa
open Go.RowKit
attribute [local go_sem ↓] run_min_kept run_max_kept

set_option maxHeartbeats 1600000 in
theorem stable_small (f : FuncId) (cap : Array Value) (g : Nat) (K : World → Prop) (ok : Value → Prop) (cf : Value → Value → Int) (C : Cmp Try.prog f cap g K ok cf)
    (n c : Nat) (xs : List Value) (w : World) (hn : xs.length = n) (hbig : n < 20) (hseg : Seg w g 3 xs) (hK : K w) (hok : All ok xs) :
    Calls Try.prog 23 #[.slice (some ⟨g, 0, none⟩) n c, .int .i64 n, .func (.func f) #[] cap] w fun e w' => e = .returned (.tuple #[]) ∧
      Seg w' g 3 (insTo (ltOf cf) 0 xs (n - 1)) ∧ Wrote g w w' := by
  have HI := Lib.hid (insertionSort_any f cap g K ok cf C n c 0 n xs w hn (Nat.le_refl _) (Nat.zero_le _) (by omega) hseg hK hok)
  clear hseg hK hok hn C
  go_enter Try.func23, Try.ntmps23
  go_wp2_with fail
  go_loopw [7, 8] (fun a b wr => a = .int .i64 0 ∧ b = .int .i64 20 ∧ wr = w) (fun _ _ _ => 0)
  case atStart => exact ⟨rfl, rfl, rfl⟩
  case round =>
    obtain ⟨rfl, rfl, rfl⟩ := hrel
    go_wp2_with fail
    refine HI.out.mono ?_
    rintro e w' ⟨rfl, hs, hw⟩
    have HS := Lib.hid hs
    have HW := Lib.hid hw
    clear hs hw
    go_wp2_with fail
    go_loopw [6, 7, 8, 9] (fun a _ _ _ wr => a = .int .i64 20 ∧ wr = w') (fun _ _ _ _ _ => 0)
    case atStart => exact ⟨rfl, rfl⟩
    case round =>
      obtain ⟨rfl, rfl⟩ := hrel
      go_wp2_with fail
      go_end0
      exact ⟨rfl, HS.out, HW.out⟩

set_option maxHeartbeats 1600000 in
theorem sort_small (f : FuncId) (cap : Array Value) (g : Nat) (K : World → Prop) (ok : Value → Prop) (cf : Value → Value → Int) (C : Cmp Try.prog f cap g K ok cf)
    (n c : Nat) (xs : List Value) (w : World) (hn : xs.length = n) (hbig : n < 20) (hseg : Seg w g 3 xs) (hK : K w) (hok : All ok xs) :
    Calls Try.prog 17 #[.slice (some ⟨g, 0, none⟩) n c, .func (.func f) #[] cap] w fun e w' => e = .returned (.tuple #[]) ∧
      Seg w' g 3 (insTo (ltOf cf) 0 xs (n - 1)) ∧ Wrote g w w' := by
  have HI := Lib.hid (stable_small f cap g K ok cf C n c xs w hn hbig hseg hK hok)
  clear hseg hK hok hn C
  go_enter Try.func17, Try.ntmps17
  go_wp2_with fail
  refine HI.out.mono ?_
  rintro e w' ⟨rfl, hs, hw⟩
  have HS := Lib.hid hs
  have HW := Lib.hid hw
  clear hs hw
  go_wp2_with fail
  go_end0
  exact ⟨rfl, HS.out, HW.out⟩
end Go.Proofs.Ytpihcfpdaoflbaa
