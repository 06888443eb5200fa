/- Walks and laws over abstract values, merged by tools/merge.py. No statement of the seat. -/
import Derived.Lib.ConvBytes
import Derived.Lib.Strings
import Derived.Laws.Cover3
import Derived.Shelf.SlSortCmp.WholeK
import Derived.Lib.RowBridge
import Derived.StillTailTactics
import Derived.DeepKeys4
import Derived.Maps.Keyed
import Derived.Test.YtekenfknoakboaaDoorXP3

namespace Go.Proofs.YtekenfknoakboaaDoor
open Go.RowKit
set_option linter.unusedVariables false

/-! Types. -/
namespace TyU2
theorem st_9 : Tryd.prog.underlying 9 = some .string := by kernel_rfl
end TyU2
open TyU2


open Go.Lib
theorem c_pName (s : ByteArray) (hs : s.size ≤ 9223372036854775807) : ACall Tryd.prog 21 [.v (.string s)] (.v (.bool (nameOk s))) :=
  acall_exact (us := [_]) (.of Tryd.func21 (by kernel_rfl) rfl) fun w => pName_any s w hs
/-- The library's variable holds some number. -/
def MaxT (w : World) : Prop := ∃ m, w.cell? ⟨Tryd.l144_ren.g 1, 0, none⟩ = some (.int .i64 m)
theorem at0_ba {s : ByteArray} {i : Nat} (h : i < s.data.toList.length) : s.data.toList[i]? = some (at0 s.data.toList i) := by rw [at0_eq h, List.getElem?_eq_getElem h]
theorem emp_size {s : ByteArray} (h : s = ⟨#[]⟩) : s.size = 0 := by rw [h]; rfl
theorem nemp_size {s : ByteArray} (h : ¬ s = ⟨#[]⟩) : 0 < s.size := by
  rcases Nat.eq_zero_or_pos s.size with h0 | h0
  · exfalso; apply h
    apply ByteArray.ext
    have : s.data.toList = [] := List.eq_nil_of_length_eq_zero (by rw [← Lib.size_eq]; exact h0)
    exact Array.toList_inj.1 this
  · exact h0
theorem headD_at (l : List UInt8) : l.headD 0 = at0 l 0 := by cases l <;> rfl
theorem nm_len {s : ByteArray} (h : ¬ (1 ≤ s.data.toList.length ∧ s.data.toList.length ≤ 40)) : nameOk s = false := by
  unfold nameOk isName
  by_cases h1 : 1 ≤ s.data.toList.length
  · rw [decide_eq_false (show ¬ s.data.toList.length ≤ 40 by omega), Bool.and_false, Bool.false_and, Bool.false_and]
  · rw [decide_eq_false h1, Bool.false_and, Bool.false_and, Bool.false_and]
theorem nm_head {s : ByteArray} (h : ¬ (97 ≤ (at0 s.data.toList 0).toNat ∧ (at0 s.data.toList 0).toNat ≤ 122)) : nameOk s = false := by
  unfold nameOk isName
  rw [headD_at]
  have : headB (at0 s.data.toList 0) = false := by
    unfold headB
    rw [Bool.eq_false_iff]
    simp only [ne_eq, Bool.and_eq_true, decide_eq_true_eq]
    exact h
  rw [this, Bool.and_false, Bool.false_and]
theorem nameB_iff {c : UInt8} : nameB c = true ↔ (97 ≤ c.toNat ∧ c.toNat ≤ 122) ∨ (48 ≤ c.toNat ∧ c.toNat ≤ 57) ∨ c.toNat = 45 := by
  unfold nameB
  simp only [Bool.or_eq_true, Bool.and_eq_true, decide_eq_true_eq]
  omega
theorem all_nx {p : UInt8 → Bool} {l : List UInt8} {k : Nat} (hk : k < l.length) (h : ∀ c ∈ l.take k, p c = true) (h2 : p (at0 l k) = true) : ∀ c ∈ l.take (k + 1), p c = true := fun c hc => by
  rw [List.take_add_one, List.getElem?_eq_getElem hk, Option.toList_some, List.mem_append, List.mem_singleton] at hc
  rcases hc with hc | hc
  · exact h c hc
  · rw [hc, ← at0_eq hk]; exact h2
theorem all_end {p : UInt8 → Bool} {l : List UInt8} {k : Nat} (hk : l.length ≤ k) (h : ∀ c ∈ l.take k, p c = true) : l.all p = true := by
  rw [List.take_of_length_le hk] at h
  rw [List.all_eq_true]; exact h
theorem all_hit {p : UInt8 → Bool} {l : List UInt8} {k : Nat} (hk : k < l.length) (h : ¬ p (at0 l k) = true) : l.all p = false := by
  cases ha : l.all p with
  | false => rfl
  | true => exact absurd (by rw [at0_eq hk]; exact List.all_eq_true.1 ha _ (List.getElem_mem hk)) h
theorem nm_ch {s : ByteArray} {k : Nat} (hk : k < s.data.toList.length) (h : ¬ nameB (at0 s.data.toList k) = true) : nameOk s = false := by
  unfold nameOk isName
  rw [all_hit hk h, Bool.and_false]
theorem nm_ok {s : ByteArray} (h1 : 1 ≤ s.data.toList.length ∧ s.data.toList.length ≤ 40) (h2 : 97 ≤ (at0 s.data.toList 0).toNat ∧ (at0 s.data.toList 0).toNat ≤ 122) (h3 : s.data.toList.all nameB = true) : nameOk s = true := by
  unfold nameOk isName
  rw [headD_at, h3, decide_eq_true h1.1, decide_eq_true h1.2]
  unfold headB
  rw [decide_eq_true h2.1, decide_eq_true h2.2]; rfl
set_option maxRecDepth 100000 in
set_option maxHeartbeats 1000000 in
theorem c_rName (s : ByteArray) (hs : s.size ≤ 9223372036854775807) : ACall Tryd.prog 26 [.v (.string s)] (.v (.bool (nameOk s))) := by
  refine acall_of (n := 49) (ds' := [.v (.bool (nameOk s))]) Tryd.func26 rfl (by kernel_rfl) rfl [2] rfl rfl ?_
  intro B w0 F0 fr
  have hsz := Lib.size_eq s
  refine AWP.seq (AWP.region ?_)
  refine AOps.aD rfl rfl rfl rfl rfl (.nil ?_)
  refine AWP.seq ?_
  refine AWP.seq (AWP.region ?_)
  refine AOps.mD rfl rfl rfl rfl rfl ?_
  refine AOps.step rfl rfl rfl (AOp.seql rfl rfl rfl) ?_
  refine AOps.mD rfl rfl rfl rfl rfl ?_
  refine AOps.split 7 rfl (fun g1 => ?_) (fun g1 => ?_)
  · replace g1 := of_decide_eq_true g1
    have HR := nm_len (s := s) (by have := emp_size g1; omega)
    refine AOps.pass ⟨7, rfl, .inl ⟨_, rfl, rfl⟩⟩ rfl rfl ?_
    refine AOps.pass ⟨7, rfl, .inl ⟨_, rfl, rfl⟩⟩ rfl rfl ?_
    refine AOps.pass ⟨7, rfl, .inl ⟨_, rfl, rfl⟩⟩ rfl rfl ?_
    refine AOps.step rfl rfl rfl (AOp.pickT rfl rfl rfl) ?_
    refine AOps.mD rfl rfl rfl rfl rfl ?_
    refine AOps.pass ⟨12, rfl, .inl ⟨_, rfl, rfl⟩⟩ rfl rfl ?_
    refine AOps.pass ⟨12, rfl, .inl ⟨_, rfl, rfl⟩⟩ rfl rfl ?_
    refine AOps.pass ⟨12, rfl, .inl ⟨_, rfl, rfl⟩⟩ rfl rfl ?_
    refine AOps.step rfl rfl rfl (AOp.pickT rfl rfl rfl) ?_
    refine AOps.mD rfl rfl rfl rfl rfl ?_
    refine AOps.pass ⟨17, rfl, .inl ⟨_, rfl, rfl⟩⟩ rfl rfl ?_
    refine AOps.pass ⟨17, rfl, .inl ⟨_, rfl, rfl⟩⟩ rfl rfl ?_
    refine AOps.pass ⟨17, rfl, .inl ⟨_, rfl, rfl⟩⟩ rfl rfl ?_
    refine AOps.step rfl rfl rfl (AOp.pickT rfl rfl rfl) (.nil ?_)
    refine AWP.cond rfl (fun _ => ?_) (fun h => nomatch h)
    refine AWP.seq (AWP.region ?_)
    refine AOps.aD rfl rfl rfl rfl rfl (.nil ?_)
    refine AWP.ret ?_
    refine ⟨RetD.eq rfl ?_, trivial⟩
    all_goals (first | rw [HR] | rw [nm_ch hlt (fun hc => by have := nameB_iff.1 hc; omega)])
  replace g1 := of_decide_eq_false g1
  have hp := nemp_size g1
  refine AOps.step ⟨7, rfl, .inl ⟨_, rfl, rfl⟩⟩ rfl rfl (AOp.moveD rfl rfl) ?_
  refine AOps.step ⟨7, rfl, .inl ⟨_, rfl, rfl⟩⟩ rfl rfl (AOp.lenStr rfl st_9 rfl) ?_
  refine AOps.step ⟨7, rfl, .inl ⟨_, rfl, rfl⟩⟩ rfl rfl (AOp.gtr rfl rfl rfl) ?_
  refine AOps.step rfl rfl rfl (AOp.pickF rfl rfl rfl) ?_
  refine AOps.mD rfl rfl rfl rfl rfl ?_
  refine AOps.split 12 rfl (fun g2 => ?_) (fun g2 => ?_)
  · replace g2 := of_decide_eq_true g2
    have HR := nm_len (s := s) (by omega)
    refine AOps.pass ⟨12, rfl, .inl ⟨_, rfl, rfl⟩⟩ rfl rfl ?_
    refine AOps.pass ⟨12, rfl, .inl ⟨_, rfl, rfl⟩⟩ rfl rfl ?_
    refine AOps.pass ⟨12, rfl, .inl ⟨_, rfl, rfl⟩⟩ rfl rfl ?_
    refine AOps.step rfl rfl rfl (AOp.pickT rfl rfl rfl) ?_
    refine AOps.mD rfl rfl rfl rfl rfl ?_
    refine AOps.pass ⟨17, rfl, .inl ⟨_, rfl, rfl⟩⟩ rfl rfl ?_
    refine AOps.pass ⟨17, rfl, .inl ⟨_, rfl, rfl⟩⟩ rfl rfl ?_
    refine AOps.pass ⟨17, rfl, .inl ⟨_, rfl, rfl⟩⟩ rfl rfl ?_
    refine AOps.step rfl rfl rfl (AOp.pickT rfl rfl rfl) (.nil ?_)
    refine AWP.cond rfl (fun _ => ?_) (fun h => nomatch h)
    refine AWP.seq (AWP.region ?_)
    refine AOps.aD rfl rfl rfl rfl rfl (.nil ?_)
    refine AWP.ret ?_
    refine ⟨RetD.eq rfl ?_, trivial⟩
    all_goals (first | rw [HR] | rw [nm_ch hlt (fun hc => by have := nameB_iff.1 hc; omega)])
  replace g2 := of_decide_eq_false g2
  refine AOps.step ⟨12, rfl, .inl ⟨_, rfl, rfl⟩⟩ rfl rfl (AOp.moveD rfl rfl) ?_
  refine AOps.step ⟨12, rfl, .inl ⟨_, rfl, rfl⟩⟩ rfl rfl (AOp.indexStr rfl st_9 rfl rfl 0 rfl (at0_ba (by omega))) ?_
  refine AOps.step ⟨12, rfl, .inl ⟨_, rfl, rfl⟩⟩ rfl rfl (AOp.lss rfl rfl rfl) ?_
  refine AOps.step rfl rfl rfl (AOp.pickF rfl rfl rfl) ?_
  refine AOps.mD rfl rfl rfl rfl rfl ?_
  refine AOps.split 17 rfl (fun g3 => ?_) (fun g3 => ?_)
  · replace g3 := of_decide_eq_true g3
    have HR := nm_head (s := s) (by omega)
    refine AOps.pass ⟨17, rfl, .inl ⟨_, rfl, rfl⟩⟩ rfl rfl ?_
    refine AOps.pass ⟨17, rfl, .inl ⟨_, rfl, rfl⟩⟩ rfl rfl ?_
    refine AOps.pass ⟨17, rfl, .inl ⟨_, rfl, rfl⟩⟩ rfl rfl ?_
    refine AOps.step rfl rfl rfl (AOp.pickT rfl rfl rfl) (.nil ?_)
    refine AWP.cond rfl (fun _ => ?_) (fun h => nomatch h)
    refine AWP.seq (AWP.region ?_)
    refine AOps.aD rfl rfl rfl rfl rfl (.nil ?_)
    refine AWP.ret ?_
    refine ⟨RetD.eq rfl ?_, trivial⟩
    all_goals (first | rw [HR] | rw [nm_ch hlt (fun hc => by have := nameB_iff.1 hc; omega)])
  replace g3 := of_decide_eq_false g3
  refine AOps.step ⟨17, rfl, .inl ⟨_, rfl, rfl⟩⟩ rfl rfl (AOp.moveD rfl rfl) ?_
  refine AOps.step ⟨17, rfl, .inl ⟨_, rfl, rfl⟩⟩ rfl rfl (AOp.indexStr rfl st_9 rfl rfl 0 rfl (at0_ba (by omega))) ?_
  refine AOps.step ⟨17, rfl, .inl ⟨_, rfl, rfl⟩⟩ rfl rfl (AOp.gtr rfl rfl rfl) ?_
  refine AOps.step rfl rfl rfl (AOp.pickF rfl rfl rfl) (.nil ?_)
  refine AWP.cond rfl (fun h4 => ?_) (fun h4 => ?_)
  · replace h4 := of_decide_eq_true h4
    have HR := nm_head (s := s) (by omega)
    refine AWP.seq (AWP.region ?_)
    refine AOps.aD rfl rfl rfl rfl rfl (.nil ?_)
    refine AWP.ret ?_
    refine ⟨RetD.eq rfl ?_, trivial⟩
    all_goals (first | rw [HR] | rw [nm_ch hlt (fun hc => by have := nameB_iff.1 hc; omega)])
  replace h4 := of_decide_eq_false h4
  have hhd : 97 ≤ (at0 s.data.toList 0).toNat ∧ (at0 s.data.toList 0).toNat ≤ 122 := by omega
  refine AWP.skip ?_
  refine AWP.seq ?_
  refine AWP.seq (AWP.region ?_)
  refine AOps.mD rfl rfl rfl rfl rfl ?_
  refine AOps.step rfl rfl rfl (AOp.lenStr rfl st_9 rfl) ?_
  refine AOps.mD rfl rfl rfl rfl rfl (.nil ?_)
  refine AWP.block ?_
  refine AWP.loop (G := Nat) (fun k => Env.of [(24, .d (.v (.int .i64 (k : Int)))), (23, .d (.v (.int .i64 (s.size : Int)))), (0, .d (.v (.string s)))]) (fun k => []) (fun k => k ≤ s.size ∧ ∀ c ∈ s.data.toList.take k, nameB c = true) (fun k => s.size - k) 0 ⟨Nat.zero_le _, fun c h => by simp at h⟩ (Sub.less ⟨(SLe.of_eq rfl), SLe.refl _, SLe.refl _, trivial⟩ (fun _ h => h)) ?_
  intro k hk
  refine AWP.seq (AWP.region ?_)
  refine AOps.step rfl rfl rfl (AOp.lss rfl rfl rfl) (.nil ?_)
  refine AWP.seq ?_
  refine AWP.cond rfl (fun h5 => ?_) (fun h5 => ?_)
  · replace h5 := of_decide_eq_true h5
    have hlt : k < s.data.toList.length := by omega
    refine AWP.skip ?_
    refine AWP.seq ?_
    refine AWP.block ?_
    refine AWP.seq (AWP.region ?_)
    refine AOps.mD rfl rfl rfl rfl rfl ?_
    refine AOps.aD rfl rfl rfl rfl rfl (.nil ?_)
    refine AWP.seq (AWP.region ?_)
    refine AOps.mD rfl rfl rfl rfl rfl ?_
    refine AOps.mD rfl rfl rfl rfl rfl ?_
    refine AOps.step rfl rfl rfl (AOp.indexStr rfl st_9 rfl rfl k rfl (at0_ba hlt)) ?_
    refine AOps.aD rfl rfl rfl rfl rfl (.nil ?_)
    refine AWP.seq (AWP.region ?_)
    refine AOps.mD rfl rfl rfl rfl rfl ?_
    refine AOps.step rfl rfl rfl (AOp.lss rfl rfl rfl) ?_
    refine AOps.mD rfl rfl rfl rfl rfl ?_
    refine AOps.split 32 rfl (fun g6 => ?_) (fun g6 => ?_)
    · replace g6 := of_decide_eq_true g6
      refine AOps.pass ⟨32, rfl, .inl ⟨_, rfl, rfl⟩⟩ rfl rfl ?_
      refine AOps.pass ⟨32, rfl, .inl ⟨_, rfl, rfl⟩⟩ rfl rfl ?_
      refine AOps.step rfl rfl rfl (AOp.pickT rfl rfl rfl) ?_
      refine AOps.mD rfl rfl rfl rfl rfl ?_
      refine AOps.step ⟨36, rfl, .inl ⟨_, rfl, rfl⟩⟩ rfl rfl (AOp.moveD rfl rfl) ?_
      refine AOps.step ⟨36, rfl, .inl ⟨_, rfl, rfl⟩⟩ rfl rfl (AOp.lss rfl rfl rfl) ?_
      refine AOps.step ⟨36, rfl, .inl ⟨_, rfl, rfl⟩⟩ rfl rfl (AOp.moveD rfl rfl) ?_
      refine AOps.split 39 rfl (fun g7 => ?_) (fun g7 => ?_)
      · replace g7 := of_decide_eq_true g7
        refine AOps.pass ⟨39, rfl, .inl ⟨_, rfl, rfl⟩⟩ rfl rfl ?_
        refine AOps.pass ⟨39, rfl, .inl ⟨_, rfl, rfl⟩⟩ rfl rfl ?_
        refine AOps.step ⟨36, rfl, .inl ⟨_, rfl, rfl⟩⟩ rfl rfl (AOp.pickT rfl rfl rfl) ?_
        refine AOps.step rfl rfl rfl (AOp.pickT rfl rfl rfl) ?_
        refine AOps.mD rfl rfl rfl rfl rfl ?_
        refine AOps.step ⟨44, rfl, .inl ⟨_, rfl, rfl⟩⟩ rfl rfl (AOp.moveD rfl rfl) ?_
        refine AOps.step ⟨44, rfl, .inl ⟨_, rfl, rfl⟩⟩ rfl rfl (AOp.neq rfl rfl rfl) ?_
        refine AOps.step rfl rfl rfl (AOp.pickT rfl rfl rfl) (.nil ?_)
        refine AWP.cond rfl (fun h8 => ?_) (fun h8 => ?_)
        · replace h8 := of_decide_eq_true h8
          refine AWP.seq (AWP.region ?_)
          refine AOps.aD rfl rfl rfl rfl rfl (.nil ?_)
          refine AWP.ret ?_
          refine ⟨RetD.eq rfl ?_, trivial⟩
          all_goals (first | rw [HR] | rw [nm_ch hlt (fun hc => by have := nameB_iff.1 hc; omega)])
        replace h8 := of_decide_eq_false h8
        refine AWP.skip ?_
        refine AWP.region ?_
        refine AOps.step rfl rfl rfl (AOp.add64 rfl rfl rfl (by omega) (by omega)) ?_
        refine AOps.mD rfl rfl rfl rfl rfl (.nil ?_)
        refine ⟨k + 1, ⟨by omega, all_nx hlt hk.2 (nameB_iff.2 (by omega))⟩, (by dsimp only; omega), Sub.less ⟨(SLe.of_eq rfl), SLe.refl _, SLe.refl _, trivial⟩ (fun _ h => h)⟩
      replace g7 := of_decide_eq_false g7
      refine AOps.step ⟨39, rfl, .inl ⟨_, rfl, rfl⟩⟩ rfl rfl (AOp.moveD rfl rfl) ?_
      refine AOps.step ⟨39, rfl, .inl ⟨_, rfl, rfl⟩⟩ rfl rfl (AOp.gtr rfl rfl rfl) ?_
      refine AOps.step ⟨36, rfl, .inl ⟨_, rfl, rfl⟩⟩ rfl rfl (AOp.pickF rfl rfl rfl) ?_
      refine AOps.step rfl rfl rfl (AOp.pickT rfl rfl rfl) ?_
      refine AOps.mD rfl rfl rfl rfl rfl ?_
      refine AOps.split 44 rfl (fun g9 => ?_) (fun g9 => ?_)
      · replace g9 := of_decide_eq_true g9
        refine AOps.step ⟨44, rfl, .inl ⟨_, rfl, rfl⟩⟩ rfl rfl (AOp.moveD rfl rfl) ?_
        refine AOps.step ⟨44, rfl, .inl ⟨_, rfl, rfl⟩⟩ rfl rfl (AOp.neq rfl rfl rfl) ?_
        refine AOps.step rfl rfl rfl (AOp.pickT rfl rfl rfl) (.nil ?_)
        refine AWP.cond rfl (fun h10 => ?_) (fun h10 => ?_)
        · replace h10 := of_decide_eq_true h10
          refine AWP.seq (AWP.region ?_)
          refine AOps.aD rfl rfl rfl rfl rfl (.nil ?_)
          refine AWP.ret ?_
          refine ⟨RetD.eq rfl ?_, trivial⟩
          all_goals (first | rw [HR] | rw [nm_ch hlt (fun hc => by have := nameB_iff.1 hc; omega)])
        replace h10 := of_decide_eq_false h10
        refine AWP.skip ?_
        refine AWP.region ?_
        refine AOps.step rfl rfl rfl (AOp.add64 rfl rfl rfl (by omega) (by omega)) ?_
        refine AOps.mD rfl rfl rfl rfl rfl (.nil ?_)
        refine ⟨k + 1, ⟨by omega, all_nx hlt hk.2 (nameB_iff.2 (by omega))⟩, (by dsimp only; omega), Sub.less ⟨(SLe.of_eq rfl), SLe.refl _, SLe.refl _, trivial⟩ (fun _ h => h)⟩
      replace g9 := of_decide_eq_false g9
      refine AOps.pass ⟨44, rfl, .inl ⟨_, rfl, rfl⟩⟩ rfl rfl ?_
      refine AOps.pass ⟨44, rfl, .inl ⟨_, rfl, rfl⟩⟩ rfl rfl ?_
      refine AOps.step rfl rfl rfl (AOp.pickF rfl rfl rfl) (.nil ?_)
      refine AWP.cond rfl (fun h => nomatch h) (fun _ => ?_)
      refine AWP.skip ?_
      refine AWP.region ?_
      refine AOps.step rfl rfl rfl (AOp.add64 rfl rfl rfl (by omega) (by omega)) ?_
      refine AOps.mD rfl rfl rfl rfl rfl (.nil ?_)
      refine ⟨k + 1, ⟨by omega, all_nx hlt hk.2 (nameB_iff.2 (by omega))⟩, (by dsimp only; omega), Sub.less ⟨(SLe.of_eq rfl), SLe.refl _, SLe.refl _, trivial⟩ (fun _ h => h)⟩
    replace g6 := of_decide_eq_false g6
    refine AOps.step ⟨32, rfl, .inl ⟨_, rfl, rfl⟩⟩ rfl rfl (AOp.moveD rfl rfl) ?_
    refine AOps.step ⟨32, rfl, .inl ⟨_, rfl, rfl⟩⟩ rfl rfl (AOp.gtr rfl rfl rfl) ?_
    refine AOps.step rfl rfl rfl (AOp.pickF rfl rfl rfl) ?_
    refine AOps.mD rfl rfl rfl rfl rfl ?_
    refine AOps.split 36 rfl (fun g11 => ?_) (fun g11 => ?_)
    · replace g11 := of_decide_eq_true g11
      refine AOps.step ⟨36, rfl, .inl ⟨_, rfl, rfl⟩⟩ rfl rfl (AOp.moveD rfl rfl) ?_
      refine AOps.step ⟨36, rfl, .inl ⟨_, rfl, rfl⟩⟩ rfl rfl (AOp.lss rfl rfl rfl) ?_
      refine AOps.step ⟨36, rfl, .inl ⟨_, rfl, rfl⟩⟩ rfl rfl (AOp.moveD rfl rfl) ?_
      refine AOps.split 39 rfl (fun g12 => ?_) (fun g12 => ?_)
      · replace g12 := of_decide_eq_true g12
        refine AOps.pass ⟨39, rfl, .inl ⟨_, rfl, rfl⟩⟩ rfl rfl ?_
        refine AOps.pass ⟨39, rfl, .inl ⟨_, rfl, rfl⟩⟩ rfl rfl ?_
        refine AOps.step ⟨36, rfl, .inl ⟨_, rfl, rfl⟩⟩ rfl rfl (AOp.pickT rfl rfl rfl) ?_
        refine AOps.step rfl rfl rfl (AOp.pickT rfl rfl rfl) ?_
        refine AOps.mD rfl rfl rfl rfl rfl ?_
        refine AOps.step ⟨44, rfl, .inl ⟨_, rfl, rfl⟩⟩ rfl rfl (AOp.moveD rfl rfl) ?_
        refine AOps.step ⟨44, rfl, .inl ⟨_, rfl, rfl⟩⟩ rfl rfl (AOp.neq rfl rfl rfl) ?_
        refine AOps.step rfl rfl rfl (AOp.pickT rfl rfl rfl) (.nil ?_)
        refine AWP.cond rfl (fun h13 => ?_) (fun h13 => ?_)
        · replace h13 := of_decide_eq_true h13
          refine AWP.seq (AWP.region ?_)
          refine AOps.aD rfl rfl rfl rfl rfl (.nil ?_)
          refine AWP.ret ?_
          refine ⟨RetD.eq rfl ?_, trivial⟩
          all_goals (first | rw [HR] | rw [nm_ch hlt (fun hc => by have := nameB_iff.1 hc; omega)])
        replace h13 := of_decide_eq_false h13
        refine AWP.skip ?_
        refine AWP.region ?_
        refine AOps.step rfl rfl rfl (AOp.add64 rfl rfl rfl (by omega) (by omega)) ?_
        refine AOps.mD rfl rfl rfl rfl rfl (.nil ?_)
        refine ⟨k + 1, ⟨by omega, all_nx hlt hk.2 (nameB_iff.2 (by omega))⟩, (by dsimp only; omega), Sub.less ⟨(SLe.of_eq rfl), SLe.refl _, SLe.refl _, trivial⟩ (fun _ h => h)⟩
      replace g12 := of_decide_eq_false g12
      refine AOps.step ⟨39, rfl, .inl ⟨_, rfl, rfl⟩⟩ rfl rfl (AOp.moveD rfl rfl) ?_
      refine AOps.step ⟨39, rfl, .inl ⟨_, rfl, rfl⟩⟩ rfl rfl (AOp.gtr rfl rfl rfl) ?_
      refine AOps.step ⟨36, rfl, .inl ⟨_, rfl, rfl⟩⟩ rfl rfl (AOp.pickF rfl rfl rfl) ?_
      refine AOps.step rfl rfl rfl (AOp.pickT rfl rfl rfl) ?_
      refine AOps.mD rfl rfl rfl rfl rfl ?_
      refine AOps.split 44 rfl (fun g14 => ?_) (fun g14 => ?_)
      · replace g14 := of_decide_eq_true g14
        refine AOps.step ⟨44, rfl, .inl ⟨_, rfl, rfl⟩⟩ rfl rfl (AOp.moveD rfl rfl) ?_
        refine AOps.step ⟨44, rfl, .inl ⟨_, rfl, rfl⟩⟩ rfl rfl (AOp.neq rfl rfl rfl) ?_
        refine AOps.step rfl rfl rfl (AOp.pickT rfl rfl rfl) (.nil ?_)
        refine AWP.cond rfl (fun h15 => ?_) (fun h15 => ?_)
        · replace h15 := of_decide_eq_true h15
          refine AWP.seq (AWP.region ?_)
          refine AOps.aD rfl rfl rfl rfl rfl (.nil ?_)
          refine AWP.ret ?_
          refine ⟨RetD.eq rfl ?_, trivial⟩
          all_goals (first | rw [HR] | rw [nm_ch hlt (fun hc => by have := nameB_iff.1 hc; omega)])
        replace h15 := of_decide_eq_false h15
        refine AWP.skip ?_
        refine AWP.region ?_
        refine AOps.step rfl rfl rfl (AOp.add64 rfl rfl rfl (by omega) (by omega)) ?_
        refine AOps.mD rfl rfl rfl rfl rfl (.nil ?_)
        refine ⟨k + 1, ⟨by omega, all_nx hlt hk.2 (nameB_iff.2 (by omega))⟩, (by dsimp only; omega), Sub.less ⟨(SLe.of_eq rfl), SLe.refl _, SLe.refl _, trivial⟩ (fun _ h => h)⟩
      replace g14 := of_decide_eq_false g14
      refine AOps.pass ⟨44, rfl, .inl ⟨_, rfl, rfl⟩⟩ rfl rfl ?_
      refine AOps.pass ⟨44, rfl, .inl ⟨_, rfl, rfl⟩⟩ rfl rfl ?_
      refine AOps.step rfl rfl rfl (AOp.pickF rfl rfl rfl) (.nil ?_)
      refine AWP.cond rfl (fun h => nomatch h) (fun _ => ?_)
      refine AWP.skip ?_
      refine AWP.region ?_
      refine AOps.step rfl rfl rfl (AOp.add64 rfl rfl rfl (by omega) (by omega)) ?_
      refine AOps.mD rfl rfl rfl rfl rfl (.nil ?_)
      refine ⟨k + 1, ⟨by omega, all_nx hlt hk.2 (nameB_iff.2 (by omega))⟩, (by dsimp only; omega), Sub.less ⟨(SLe.of_eq rfl), SLe.refl _, SLe.refl _, trivial⟩ (fun _ h => h)⟩
    replace g11 := of_decide_eq_false g11
    refine AOps.pass ⟨36, rfl, .inl ⟨_, rfl, rfl⟩⟩ rfl rfl ?_
    refine AOps.pass ⟨36, rfl, .inl ⟨_, rfl, rfl⟩⟩ rfl rfl ?_
    refine AOps.pass ⟨36, rfl, .inl ⟨_, rfl, rfl⟩⟩ rfl rfl ?_
    refine AOps.pass ⟨39, rfl, .inr ⟨rfl, rfl⟩⟩ rfl rfl ?_
    refine AOps.pass ⟨39, rfl, .inr ⟨rfl, rfl⟩⟩ rfl rfl ?_
    refine AOps.pass ⟨36, rfl, .inl ⟨_, rfl, rfl⟩⟩ rfl rfl ?_
    refine AOps.step rfl rfl rfl (AOp.pickF rfl rfl rfl) ?_
    refine AOps.mD rfl rfl rfl rfl rfl ?_
    refine AOps.pass ⟨44, rfl, .inl ⟨_, rfl, rfl⟩⟩ rfl rfl ?_
    refine AOps.pass ⟨44, rfl, .inl ⟨_, rfl, rfl⟩⟩ rfl rfl ?_
    refine AOps.step rfl rfl rfl (AOp.pickF rfl rfl rfl) (.nil ?_)
    refine AWP.cond rfl (fun h => nomatch h) (fun _ => ?_)
    refine AWP.skip ?_
    refine AWP.region ?_
    refine AOps.step rfl rfl rfl (AOp.add64 rfl rfl rfl (by omega) (by omega)) ?_
    refine AOps.mD rfl rfl rfl rfl rfl (.nil ?_)
    refine ⟨k + 1, ⟨by omega, all_nx hlt hk.2 (nameB_iff.2 (by omega))⟩, (by dsimp only; omega), Sub.less ⟨(SLe.of_eq rfl), SLe.refl _, SLe.refl _, trivial⟩ (fun _ h => h)⟩
  replace h5 := of_decide_eq_false h5
  have HR := nm_ok (s := s) (by omega) hhd (all_end (by omega) hk.2)
  refine AWP.exit ?_
  refine AWP.seq (AWP.region ?_)
  refine AOps.aD rfl rfl rfl rfl rfl (.nil ?_)
  refine AWP.ret ?_
  refine ⟨RetD.eq rfl ?_, trivial⟩
  all_goals (first | rw [HR] | rw [nm_ch hlt (fun hc => by have := nameB_iff.1 hc; omega)])

set_option maxRecDepth 100000 in
set_option maxHeartbeats 1000000 in
theorem c_pIn (n a b : Int) : ACall Tryd.prog 22 [.v (.int .i64 n), .v (.int .i64 a), .v (.int .i64 b)] (.v (.bool (decide (a ≤ n ∧ n ≤ b)))) := by
  refine acall_of (n := 15) (ds' := [.v (.bool (decide (a ≤ n ∧ n ≤ b)))]) Tryd.func22 rfl (by kernel_rfl) rfl [6] rfl rfl ?_
  intro B w0 F0 fr
  refine AWP.seq (AWP.region ?_)
  refine AOps.aD rfl rfl rfl rfl rfl (.nil ?_)
  refine AWP.seq (AWP.region ?_)
  refine AOps.mD rfl rfl rfl rfl rfl ?_
  refine AOps.mD rfl rfl rfl rfl rfl ?_
  refine AOps.step rfl rfl rfl (AOp.geq rfl rfl rfl) ?_
  refine AOps.mD rfl rfl rfl rfl rfl ?_
  refine AOps.split 10 rfl (fun g1 => ?_) (fun g1 => ?_)
  · replace g1 := of_decide_eq_true g1
    refine AOps.step ⟨10, rfl, .inl ⟨_, rfl, rfl⟩⟩ rfl rfl (AOp.moveD rfl rfl) ?_
    refine AOps.step ⟨10, rfl, .inl ⟨_, rfl, rfl⟩⟩ rfl rfl (AOp.moveD rfl rfl) ?_
    refine AOps.step ⟨10, rfl, .inl ⟨_, rfl, rfl⟩⟩ rfl rfl (AOp.leq rfl rfl rfl) ?_
    refine AOps.step rfl rfl rfl (AOp.pickT rfl rfl rfl) ?_
    refine AOps.aD rfl rfl rfl rfl rfl (.nil ?_)
    refine AWP.ret ?_
    refine ⟨RetD.eq rfl ?_, trivial⟩
    all_goals (simp; omega)
  replace g1 := of_decide_eq_false g1
  refine AOps.pass ⟨10, rfl, .inl ⟨_, rfl, rfl⟩⟩ rfl rfl ?_
  refine AOps.pass ⟨10, rfl, .inl ⟨_, rfl, rfl⟩⟩ rfl rfl ?_
  refine AOps.pass ⟨10, rfl, .inl ⟨_, rfl, rfl⟩⟩ rfl rfl ?_
  refine AOps.step rfl rfl rfl (AOp.pickF rfl rfl rfl) ?_
  refine AOps.aD rfl rfl rfl rfl rfl (.nil ?_)
  refine AWP.ret ?_
  refine ⟨RetD.eq rfl ?_, trivial⟩
  all_goals (simp; omega)

set_option maxRecDepth 100000 in
set_option maxHeartbeats 1000000 in
theorem c_rIn (n a b : Int) : ACall Tryd.prog 27 [.v (.int .i64 n), .v (.int .i64 a), .v (.int .i64 b)] (.v (.bool (decide (a ≤ n ∧ n ≤ b)))) := by
  refine acall_of (n := 15) (ds' := [.v (.bool (decide (a ≤ n ∧ n ≤ b)))]) Tryd.func27 rfl (by kernel_rfl) rfl [6] rfl rfl ?_
  intro B w0 F0 fr
  refine AWP.seq (AWP.region ?_)
  refine AOps.aD rfl rfl rfl rfl rfl (.nil ?_)
  refine AWP.seq (AWP.region ?_)
  refine AOps.mD rfl rfl rfl rfl rfl ?_
  refine AOps.mD rfl rfl rfl rfl rfl ?_
  refine AOps.step rfl rfl rfl (AOp.leq rfl rfl rfl) ?_
  refine AOps.mD rfl rfl rfl rfl rfl ?_
  refine AOps.split 10 rfl (fun g1 => ?_) (fun g1 => ?_)
  · replace g1 := of_decide_eq_true g1
    refine AOps.step ⟨10, rfl, .inl ⟨_, rfl, rfl⟩⟩ rfl rfl (AOp.moveD rfl rfl) ?_
    refine AOps.step ⟨10, rfl, .inl ⟨_, rfl, rfl⟩⟩ rfl rfl (AOp.moveD rfl rfl) ?_
    refine AOps.step ⟨10, rfl, .inl ⟨_, rfl, rfl⟩⟩ rfl rfl (AOp.leq rfl rfl rfl) ?_
    refine AOps.step rfl rfl rfl (AOp.pickT rfl rfl rfl) ?_
    refine AOps.aD rfl rfl rfl rfl rfl (.nil ?_)
    refine AWP.ret ?_
    refine ⟨RetD.eq rfl ?_, trivial⟩
    all_goals (simp; omega)
  replace g1 := of_decide_eq_false g1
  refine AOps.pass ⟨10, rfl, .inl ⟨_, rfl, rfl⟩⟩ rfl rfl ?_
  refine AOps.pass ⟨10, rfl, .inl ⟨_, rfl, rfl⟩⟩ rfl rfl ?_
  refine AOps.pass ⟨10, rfl, .inl ⟨_, rfl, rfl⟩⟩ rfl rfl ?_
  refine AOps.step rfl rfl rfl (AOp.pickF rfl rfl rfl) ?_
  refine AOps.aD rfl rfl rfl rfl rfl (.nil ?_)
  refine AWP.ret ?_
  refine ⟨RetD.eq rfl ?_, trivial⟩
  all_goals (simp; omega)

end Go.Proofs.YtekenfknoakboaaDoor


namespace Go.Proofs.YtekenfknoakboaaDoor
open Go.RowKit
set_option linter.unusedVariables false

/-- The type of bytes. -/
structure U8T (P : Program) (t : TypeId) : Prop where
  hu : P.underlying t = some (.int .u8)
def at0' (l : List UInt8) (i : Nat) : UInt8 := l.getD i 0
section
variable {cx : Cx} {ops : Array Oper} {o : Oper} {rest : List Oper} {e : Env} {σ : Obs} {Q : Post}
end

section
variable {P : Program} {B : Nat} {ops : Array Oper} {o : Oper} {e : Env} {σ : Obs}
end

section
variable {P : Program} {B : Nat} {ops : Array Oper} {o : Oper} {e : Env} {σ : Obs}
end
end Go.Proofs.YtekenfknoakboaaDoor


namespace Go.Proofs.YtekenfknoakboaaDoor
open Go.RowKit
set_option linter.unusedVariables false

/-! Types. -/
namespace TyU3
theorem et_63 : ElemTy Tryd.prog 63 3 1 8 (.int .i64 0) := ⟨by kernel_rfl, by kernel_rfl, by kernel_rfl, by decide⟩
theorem sc_3 : Scal Tryd.prog 3 := .of (by kernel_rfl)
theorem sc_9 : Scal Tryd.prog 9 := .of (by kernel_rfl)
end TyU3
open TyU3


open Go.Lib
def orI (l : List Int) : Int := (l.find? fun x => decide (x ≠ 0)).getD 0
end Go.Proofs.YtekenfknoakboaaDoor


namespace Go.Proofs.YtekenfknoakboaaDoor
open Go.RowKit
set_option linter.unusedVariables false

/-! Types. -/
namespace TyU4

end TyU4
open TyU4


open Go.Lib
/-- The number of the first one; -1: there is none. -/
def idxBy {α : Type} (p : α → Bool) (l : List α) : Int := if l.any p then (l.findIdx p : Int) else -1
def grpFB (g : Grp) (b : ByteArray) : Int := if nameOk g.name = false then 5 else if sle g.name b = true then 8 else grpF0 g
def dealFB (c : Ctr) (d : Deal) (b : ByteArray) : Int := if nameOk d.name = false then 5 else if sle d.name b = true then 8 else dealF0 c d
def okGrp (g : Grp) : Prop := g.name.size ≤ 9223372036854775807 ∧ ∀ s ∈ g.cut, s.party.size ≤ 9223372036854775807


end Go.Proofs.YtekenfknoakboaaDoor


namespace Go.Proofs.YtekenfknoakboaaDoor
open Go.RowKit
set_option linter.unusedVariables false

/-- f, called with what reads as ds, returns a new row whose elements read as els, and that nobody else has. -/
def OCall (P : Program) (f : FuncId) (ds : List D) (ee size : Nat) (els : List (List D)) : Prop := Enters P f ∧
  ∀ (F : Nat → Prop) (w : World) (vs : List Value), (∀ b, F b → b < w.heap.size) → RepL F w vs ds →
    Calls P f vs.toArray w fun r w' => ∃ v F', r = .returned v ∧ Ext F w F' w' ∧ ObOk w.heap.size F' (fun _ => v) w' 0 (.row ee size els)

section
variable {cx : Cx} {ops : Array Oper} {o : Oper} {rest : List Oper} {e : Env} {σ : Obs} {Q : Post}
end

section
variable {P : Program} {B : Nat} {ops : Array Oper} {o : Oper} {e : Env} {σ : Obs}
end

/-! ## Contracts -/
def RetO (t ee size : Nat) (els : List (List D)) : Post := fun ex e σ => match ex with
  | .ret => ∃ id, e t = .own id ∧ (id, Ob.row ee size els) ∈ σ
  | .normal => ∃ id, e t = .own id ∧ (id, Ob.row ee size els) ∈ σ
  | _ => False
end Go.Proofs.YtekenfknoakboaaDoor


namespace Go.Proofs.YtekenfknoakboaaDoor
open Go.RowKit
set_option linter.unusedVariables false

/-- One operation, from worlds that keep what was there at the beginning. -/
def AOpK (cx : Cx) (ops : Array Oper) (o : Oper) (e : Env) (σ : Obs) (s : S) : Prop :=
  ∀ (F : Nat → Prop) (ρ : Nat → Value) (w : World) (a : Act), Kept cx.fr cx.w0 w → (∀ b, F b → b < w.heap.size) → (∀ t, t ∈ o.looksAt ops → RepS F ρ w (a.tmps.getD t undef) (e t)) → ObsOk cx.B F ρ w σ →
    o.wp cx.P a w (fun a' w' => ∃ v F', a' = a.put o.dst v ∧ RepS F' ρ w' v s ∧ Ext F w F' w') (fun _ _ _ => False)
theorem AOp.toK {cx : Cx} {ops : Array Oper} {o : Oper} {e : Env} {σ : Obs} {s : S} (h : AOp cx.P cx.B ops o e σ s) : AOpK cx ops o e σ s := fun F ρ w a _ => h F ρ w a
theorem AOpK.callT {cx : Cx} {ops : Array Oper} {o : Oper} {e : Env} {σ : Obs} {T : World → Prop} {f : FuncId} {xs : List Operand} {ts : Array TypeId} {ds : List D} {d : D} (hst : Stays T) (hfr : cx.fr = fun b => cx.w0.heap.size ≤ b) (hT : T cx.w0)
    (ho : o.op = .call { callee := .value (.func f), args := xs.toArray, argTypes := ts }) (ha : ArgsOk e xs ds) (h : ACallT cx.P T f ds d) : AOpK cx ops o e σ (.d d) := by
  intro F ρ w a hK hF hr _
  have h1 : RepL F w (xs.map a.eval) ds := ha.rep (ρ := ρ) fun t ht => hr t (looks_op (by rw [ho]; simp [Op.operands, Call.operands, ht]))
  rw [hfr] at hK
  have h2 := h.2 F w _ (hst _ _ hK hT) hF h1
  have h3 := h.1 (xs.map a.eval).toArray w
  have hx : (execOp a.eval o).run cx.P w = .ok (.enter f (xs.map a.eval).toArray) w := by
    unfold execOp
    simp only [ho, resolve, Deferred.ofValue, Act.eval, invoke, Sem.run_bind, Sem.run_pure, Result.andThen_ok]
    simpa using h3
  unfold Oper.wp
  rw [hx]
  exact h2.mono fun _ w' ⟨v, F', he, hv, hE⟩ => by subst he; exact ⟨v, F', rfl, .d hv, hE⟩

def KRun (cx : Cx) (ops : Array Oper) (σ : Obs) : List Oper → Env → (Env → Prop) → Prop
  | [], e, Qe => Qe e
  | o :: l, e, Qe => DstOk cx.N o ∧ ((∃ s, GW ops o e true ∧ AOpK cx ops o e σ s ∧ KRun cx ops σ l (e.put o.dst s) Qe) ∨ (GW ops o e false ∧ KRun cx ops σ l (e.put o.dst (.d (.v undef))) Qe))

theorem KRun.nil {cx : Cx} {ops : Array Oper} {σ : Obs} {e : Env} {Qe : Env → Prop} (h : Qe e) : KRun cx ops σ [] e Qe := h
theorem KRun.cons {cx : Cx} {ops : Array Oper} {σ : Obs} {e : Env} {Qe : Env → Prop} {o : Oper} {l : List Oper} {s : S} (hg : GW ops o e true) (hd : DstOk cx.N o) (h : AOpK cx ops o e σ s)
    (k : KRun cx ops σ l (e.put o.dst s) Qe) : KRun cx ops σ (o :: l) e Qe := ⟨hd, .inl ⟨s, hg, h, k⟩⟩
theorem KRun.step {cx : Cx} {ops : Array Oper} {σ : Obs} {e : Env} {Qe : Env → Prop} {o : Oper} {l : List Oper} {s : S} {t : Nat} (hg : GW ops o e true) (ht : o.dst = some t) (hd : Nat.blt t cx.N = true) (h : AOpK cx ops o e σ s)
    (k : KRun cx ops σ l (e.put (some t) s) Qe) : KRun cx ops σ (o :: l) e Qe := .cons hg (by unfold DstOk; rw [ht]; exact hd) h (by rw [ht]; exact k)
def KStep (cx : Cx) (ops : Array Oper) (σ : Obs) (o : Oper) (e : Env) (s : S) : Prop :=
  (GW ops o e true ∧ AOpK cx ops o e σ s) ∨ (GW ops o e false ∧ s = .d (.v undef))

theorem KStep.same {cx : Cx} {ops : Array Oper} {σ : Obs} {o : Oper} {e e' : Env} {s : S} (h : KStep cx ops σ o e s) (he : ∀ t, t ∈ o.looksAt ops → e' t = e t) : KStep cx ops σ o e' s := by
  rcases h with ⟨h1, h2⟩ | ⟨h1, h2⟩
  · exact .inl ⟨h1.same he, fun F ρ w a hK hF ha hσ => h2 F ρ w a hK hF (fun t ht => by rw [← he t ht]; exact ha t ht) hσ⟩
  · exact .inr ⟨h1.same he, h2⟩

def anyK (cx : Cx) (ops : Array Oper) (σ : Obs) (Qe : Env → Prop) : Nat → Array Bool → Env → Prop
  | 0, listed, e => Region.ready .any ops listed = [] ∧ Qe e
  | fuel + 1, listed, e => (Region.ready .any ops listed = [] → Qe e) ∧
      ∀ i ∈ Region.ready .any ops listed, ∀ o, ops[i]? = some o → ∃ s, KStep cx ops σ o e s ∧ anyK cx ops σ Qe fuel (listed.setIfInBounds i true) (e.put o.dst s)

theorem anyK_first {cx : Cx} {ops : Array Oper} {σ : Obs} {Qe : Env → Prop} {i : Nat} {oi : Oper} {s : S} (hi : ops[i]? = some oi) :
    ∀ (fuel : Nat) (listed : Array Bool) (e : Env),
      (∀ j oj, ops[j]? = some oj → j ≠ i → listed.getD j true = false → (∀ e ∈ oj.after, Region.binds .any e = true → e.on ≠ i) → oi.apart ops oj = true) →
      i ∈ Region.ready .any ops listed → KStep cx ops σ oi e s → anyK cx ops σ Qe fuel (listed.setIfInBounds i true) (e.put oi.dst s) → anyK cx ops σ Qe (fuel + 1) listed e := by
  intro fuel
  induction fuel with
  | zero =>
    intro listed e _ hr hy H
    refine ⟨fun h => (by rw [h] at hr; cases hr), fun j hj o ho => ?_⟩
    by_cases hji : j = i
    · subst hji
      rw [hi] at ho; cases ho
      exact ⟨s, hy, H⟩
    · have := ready_mono hj hji
      rw [H.1] at this
      cases this
  | succ fuel ih =>
    intro listed e hfree hr hy H
    refine ⟨fun h => (by rw [h] at hr; cases hr), fun j hj oj hoj => ?_⟩
    by_cases hji : j = i
    · subst hji
      rw [hi] at hoj; cases hoj
      exact ⟨s, hy, H⟩
    · obtain ⟨sj, h1, h2⟩ := H.2 j (ready_mono hj hji) oj hoj
      obtain ⟨hjun, oj', hoj', hall⟩ := mem_ready.1 hj
      rw [hoj] at hoj'; cases hoj'
      have hnot : ∀ e ∈ oj.after, Region.binds .any e = true → e.on ≠ i := fun e he hb heq => by
        have h1 := hall e he hb
        have h0 := (mem_ready.1 hr).1
        rw [heq] at h1
        rcases Nat.lt_or_ge i listed.size with h' | h'
        · simp [h'] at h0 h1; rw [h0] at h1; cases h1
        · simp [Array.getElem?_eq_none h'] at h1
      obtain ⟨a1, a2, a3⟩ := Oper.apart_spec (hfree j oj hoj hji hjun hnot)
      refine ⟨sj, h1.same (fun t ht => (put_looks a1 t ht).symm), ?_⟩
      refine ih (listed.setIfInBounds j true) (e.put oj.dst sj) (fun k ok hk hki hun hno => ?_) (ready_mono hr (Ne.symm hji)) (hy.same (put_looks a3)) ?_
      · refine hfree k ok hk hki ?_ hno
        by_cases hjk : j = k
        · subst hjk; exact hjun
        · rw [getD_set_ne true hjk] at hun; exact hun
      · rw [Array.setIfInBounds_comm _ _ hji, ← Env.put_comm e oi.dst oj.dst s sj a2]
        exact h2

theorem anyK_lex {cx : Cx} {ops : Array Oper} {σ : Obs} {Qe : Env → Prop} : ∀ (l : List Oper) (k : Nat) (listed : Array Bool) (e : Env), (∀ j, l[j]? = ops[k + j]?) →
    Region.lexFrom .any ops l.length k listed = true → KRun cx ops σ l e Qe → anyK cx ops σ Qe l.length listed e
  | [], _, _, _, _, hB, h => ⟨by simpa [Region.lexFrom] using hB, h⟩
  | o :: l, k, listed, e, hl, hB, h => by
    have h0 : ops[k]? = some o := by simpa using (hl 0).symm
    simp only [List.length_cons, Region.lexFrom, Bool.and_eq_true] at hB
    obtain ⟨⟨hr, hf⟩, hB'⟩ := hB
    have hl' : ∀ j, l[j]? = ops[k + 1 + j]? := fun j => by have := hl (j + 1); simpa [Nat.add_assoc, Nat.add_comm 1 j] using this
    obtain ⟨_, ⟨s, hg, ho, hK⟩ | ⟨hg, hK⟩⟩ := h
    · exact anyK_first h0 l.length listed e (Region.free_spec h0 hf) (by simpa using hr) (.inl ⟨hg, ho⟩) (anyK_lex l (k + 1) _ _ hl' hB' hK)
    · exact anyK_first h0 l.length listed e (Region.free_spec h0 hf) (by simpa using hr) (.inr ⟨hg, rfl⟩) (anyK_lex l (k + 1) _ _ hl' hB' hK)

theorem KRun.dsts {cx : Cx} {ops : Array Oper} {σ : Obs} {Qe : Env → Prop} : ∀ (l : List Oper) (e : Env), KRun cx ops σ l e Qe → ∀ o ∈ l, DstOk cx.N o
  | [], _, _, o, ho => by cases ho
  | x :: l, e, h, o, ho => by
    obtain ⟨h1, ⟨_, _, _, h2⟩ | ⟨_, h2⟩⟩ := h <;> (cases ho with
      | head => exact h1
      | tail _ ho => exact KRun.dsts l _ h2 o ho)

theorem wpAny_of_K {cx : Cx} {ops : Array Oper} {σ : Obs} {Q : Post} (hd : ∀ o ∈ ops.toList, DstOk cx.N o) : ∀ (fuel : Nat) (listed : Array Bool) (e : Env) (a : Act) (w : World), R cx e σ a w →
    anyK cx ops σ (fun e => Q .normal e σ) fuel listed e → wpAny cx.P .any ops (lift cx Q) fuel listed a w
  | 0, _, e, _, _, hr, h => ⟨h.1, e, σ, h.2, hr⟩
  | fuel + 1, listed, e, a, w, hr, h => by
    refine ⟨fun h0 => ⟨e, σ, h.1 h0, hr⟩, fun i hi => ?_⟩
    obtain ⟨_, o, ho, _⟩ := mem_ready.1 hi
    obtain ⟨s, hs, hk⟩ := h.2 i hi o ho
    have hdo : DstOk cx.N o := hd o (Array.mem_toList_iff.2 (Array.mem_of_getElem? ho))
    unfold wpOp
    simp only [ho]
    obtain ⟨F, ρ, hr⟩ := hr
    rcases hs with ⟨hg, hop⟩ | ⟨hg, rfl⟩
    · rw [if_pos (hg.wanted (fun t _ => hr.env t))]
      refine .inl (wp_to ?_ (fun _ _ _ => False.elim) (hop F ρ w a hr.below hr.lt (fun t _ => hr.env t) hr.obs))
      rintro a' w' ⟨v, F', rfl, hv, he⟩
      exact wpAny_of_K hd fuel _ _ _ _ ⟨F', ρ, hr.put he hv hdo⟩ hk
    · rw [if_neg (by rw [hg.wanted (fun t _ => hr.env t)]; simp)]
      exact wpAny_of_K hd fuel _ _ _ _ ⟨F, ρ, hr.put (Ext.refl hr.lt) repS_undef hdo⟩ hk

/-- A region that draws its order, walked once, in the order of the text. -/
theorem AWP.drawK {cx : Cx} {id : Nat} {l : List Oper} {e : Env} {σ : Obs} {Q : Post} (hm : cx.P.follows .mixedOrders = true) (hB : Region.lexB .any l.toArray = true)
    (h : KRun cx l.toArray σ l e (fun e => Q .normal e σ)) : AWP cx (.region id l.toArray true) e σ Q := by
  intro a w ⟨F, ρ, hr⟩
  simp only [Region.lexB, Bool.and_eq_true] at hB
  have h1 := anyK_lex l 0 (Array.replicate l.toArray.size false) e (by simp) (by simpa using hB.2) h
  exact wp_region_any hm (wpAny_of_K (by simpa using KRun.dsts l e h) _ _ e a _ ⟨F, ρ, hr.drew⟩ (by simpa using h1))


end Go.Proofs.YtekenfknoakboaaDoor


namespace Go.Proofs.YtekenfknoakboaaDoor
open Go.RowKit
set_option linter.unusedVariables false

/-- What it is as data, while the own objects rest. -/
inductive Snap (σ : Obs) : S → D → Prop where
  | d (x : D) : Snap σ (.d x) x
  | any (s : S) : Snap σ s .any
  | le {s : S} {d d' : D} (h : Snap σ s d) (k : Le d d') : Snap σ s d'
  | row {id e size : Nat} {els : List (List D)} (h : (id, Ob.row e size els) ∈ σ) : Snap σ (.own id) (.sl els)
  | rowS {id e size : Nat} {els : List (List S)} {ds : List (List D)} (h : (id, Ob.rowS e size els) ∈ σ) (hl : els.length = ds.length) (hs : ∀ i (h1 : i < els.length) (h2 : i < ds.length), els[i].length = ds[i].length)
      (hr : ∀ i (h1 : i < els.length) (h2 : i < ds.length) j (h3 : j < els[i].length) (h4 : j < ds[i].length), Snap σ els[i][j] ds[i][j]) : Snap σ (.own id) (.sl ds)
  | val {id : Nat} {ss : List S} {ds : List D} (h : (id, Ob.val ss) ∈ σ) (hl : ss.length = ds.length) (hr : ∀ i (h1 : i < ss.length) (h2 : i < ds.length), Snap σ ss[i] ds[i]) : Snap σ (.own id) (.agg ds)
  | ptr {id off : Nat} {ss : List S} {ds : List D} (h : (id, Ob.cells ss) ∈ σ) (hl : off + ds.length ≤ ss.length) (hr : ∀ i (h1 : off + i < ss.length) (h2 : i < ds.length), Snap σ ss[off + i] ds[i]) : Snap σ (.ptr id off) (.fp ds)
  | ptrS {id e size k : Nat} {els : List (List S)} {ds : List D} (h : (id, Ob.rowS e size els) ∈ σ) (hk : k < els.length) (hl : els[k].length = ds.length) (hr : ∀ j (h1 : j < els[k].length) (h2 : j < ds.length), Snap σ els[k][j] ds[j]) : Snap σ (.ptr id (k * size)) (.fp ds)
  | clo {f : FuncId} {caps : List Cap} {ds : List D} (hl : caps.length = ds.length) (hr : ∀ i (h1 : i < caps.length) (h2 : i < ds.length), Snap σ caps[i].toS ds[i]) : Snap σ (.clo f caps) (.clo (.func f) ds)

/-- Data that holds no memory. -/
inductive Plain : D → Prop where
  | v (x : Value) : Plain (.v x)
  | any : Plain .any
  | agg (ds : List D) (h : ∀ d ∈ ds, Plain d) : Plain (.agg ds)
  | tup (ds : List D) (h : ∀ d ∈ ds, Plain d) : Plain (.tup ds)
def SnapArgs (e : Env) (σ : Obs) : List Operand → List D → Prop
  | [], [] => True
  | x :: xs, d :: ds => Snap σ (e.ev x) d ∧ SnapArgs e σ xs ds
  | _, _ => False
section
variable {P : Program} {B : Nat} {ops : Array Oper} {o : Oper} {e : Env} {σ : Obs}
/-- What of it is data. -/
def S.weak : S → D
  | .d x => x
  | _ => .any
def Ob.weak : Ob → Ob
  | .rowS e size els => .row e size (els.map fun ss => ss.map S.weak)
  | o => o
def Obs.weak : Obs → Obs
  | [] => []
  | p :: l => (p.1, p.2.weak) :: Obs.weak l
end
section
variable {cx : Cx} {ops : Array Oper} {o : Oper} {rest : List Oper} {e : Env} {σ : Obs} {Q : Post}
/-- Own objects, told anew. -/
theorem AWP.obs {c : Code} {σ' : Obs} (h : ∀ p ∈ σ', p ∈ σ) (k : AWP cx c e σ' Q) : AWP cx c e σ Q := fun a w ⟨F, ρ, hr⟩ => k a w ⟨F, ρ, hr.size, hr.defers, hr.lt, hr.base, hr.new, hr.below, hr.hB, hr.env, hr.obs.sub h, hr.up, fun p hp => hr.kown p (h p hp), hr.fixed⟩
theorem AllIn.of {σ : Obs} : ∀ {l : Obs}, (∀ p ∈ l, p ∈ σ) → AllIn σ l
  | [], _ => trivial
  | x :: l, h => ⟨h x (by simp), AllIn.of fun p hp => h p (List.mem_cons_of_mem _ hp)⟩
end
end Go.Proofs.YtekenfknoakboaaDoor


namespace Go.Proofs.YtekenfknoakboaaDoor
open Go.RowKit
set_option linter.unusedVariables false

/-- One cell's worth. -/
def OneS (σ : Obs) (s : S) : Prop := (∃ x : D, s = .d x ∧ x.one = true ∧ x.parts = [x]) ∨ ∃ i ee size els, s = .own i ∧ (i, Ob.row ee size els) ∈ σ
section
variable {cx : Cx} {ops : Array Oper} {o : Oper} {rest : List Oper} {e : Env} {σ : Obs} {Q : Post}
end
/-! A family of own rows: the numbers b + k, b + k + 1, .. -/
def fam (e size : Nat) : Nat → List (List (List D)) → Obs
  | _, [] => []
  | b, x :: l => (b, .row e size x) :: fam e size (b + 1) l
end Go.Proofs.YtekenfknoakboaaDoor


namespace Go.Proofs.YtekenfknoakboaaDoor
open Go.RowKit Go.Shelf Go.Lib Go.Sort
set_option linter.unusedVariables false
set_option linter.unusedSimpArgs false

theorem rngK {α : Type} [Inhabited α] (n : Nat) (i : Nat) (h : i < n) : (Array.range n)[i]! = i := by
  rw [getElem!_pos (Array.range n) i (by simpa using h)]; simp
/-! ## A row of structs, by its elements' numbers -/
section
variable {α : Type} [Inhabited α]
theorem put_blockG (enc : α → List Value) (k : Nat) {w : World} {g n e : Nat} {cur : Array Value} {os : Array Obj} {zs : Array α} (h : w.heap[g]? = some (.cells cur e (0, 0))) :
    (Sort.grow (putRowK enc k (Sort.ahead w n) g 0 zs) os).heap[g]? = some (.cells (Sort.putCells id 0 (flatK enc k zs) cur) e (0, 0)) ∧
    (∀ j, j < w.heap.size → j ≠ g → (Sort.grow (putRowK enc k (Sort.ahead w n) g 0 zs) os).heap[j]? = w.heap[j]?) := by
  unfold putRowK
  have hg : g < w.heap.size := (Array.getElem?_eq_some_iff.1 h).1
  have hs : ∀ j, j < w.heap.size → (Sort.grow (Sort.putRow id (Sort.ahead w n) g 0 (flatK enc k zs)) os).heap[j]? = (Sort.putRow id (Sort.ahead w n) g 0 (flatK enc k zs)).heap[j]? := fun j hj => Sort.heap_grow_old _ _ (by rw [Sort.size_putRow]; exact hj)
  refine ⟨?_, fun j hj hne => ?_⟩
  · rw [hs g hg]
    show (w.heap.modify g _)[g]? = _
    rw [Array.getElem?_modify, if_pos rfl, h]
    rfl
  · rw [hs j hj]
    show (w.heap.modify g _)[j]? = _
    rw [Array.getElem?_modify, if_neg (Ne.symm hne)]
theorem put_cellsG (enc : α → List Value) (k : Nat) (zs : Array α) (cur : Array Value) (hl : zs.size * k ≤ cur.size) (i c : Nat) (hi : i < zs.size) (hc : c < k) : (Sort.putCells id 0 (flatK enc k zs) cur)[i * k + c]? = some ((enc zs[i]!)[c]!) := by
  have hk0 : 0 < k := by omega
  have hb : i * k + c < zs.size * k := by
    have := Nat.mul_le_mul_right k (show i + 1 ≤ zs.size by omega)
    rw [Nat.add_mul, Nat.one_mul] at this
    omega
  unfold Sort.putCells
  rw [Array.getElem?_mapIdx, Array.getElem?_eq_getElem (by omega), Option.map_some, if_pos ⟨Nat.zero_le _, by rw [size_flatK]; omega⟩]
  rw [Nat.sub_zero, get_flatK enc k zs _ hb]
  have e1 : (i * k + c) / k = i := by rw [Nat.mul_comm, Nat.mul_add_div hk0, Nat.div_eq_of_lt hc, Nat.add_zero]
  have e2 : (i * k + c) % k = c := by rw [Nat.mul_comm, Nat.mul_add_mod, Nat.mod_eq_of_lt hc]
  rw [e1, e2]
  rfl
end
theorem repSL_fn {F : Nat → Prop} {ρ : Nat → Value} {w : World} {vs : List Value} {id : Nat} {f : Fn} (h : RepSL F ρ w vs [.own id, .d (.clo f [])]) : vs = [ρ id, .func f #[] #[]] := by
  obtain ⟨v, u, rfl⟩ : ∃ v u, vs = [v, u] := by
    match vs, h.1 with
    | [v, u], _ => exact ⟨v, u, rfl⟩
  have h1 := h.2 0 (by simp) (by simp)
  have h2 := h.2 1 (by simp) (by simp)
  simp only [List.getElem_cons_zero, List.getElem_cons_succ] at h1 h2
  cases h1
  have h3 := repS_d h2
  cases h3 with
  | clo _ cs _ hl _ =>
    have : cs = [] := List.eq_nil_of_length_eq_zero hl
    subst this
    rfl

/-! ## Sorted lists, whatever the order -/
section
variable {α : Type} (cf : α → α → Int)
def sortF (l : List α) : List α := l.mergeSort fun x y => !(ltOf cf y x)
def DistF (l : List α) : Prop := l.Pairwise fun x y => ltOf cf x y = true ∨ ltOf cf y x = true
def RiseF (l : List α) : Prop := l.Pairwise fun x y => ltOf cf x y = true
variable {cf}
theorem sortF_perm (l : List α) : (sortF cf l).Perm l := List.mergeSort_perm l _
theorem sortF_pw (hO : SWO (ltOf cf)) (l : List α) : (sortF cf l).Pairwise fun x y => ltOf cf y x = false := by
  unfold sortF
  have := List.pairwise_mergeSort (le := fun x y => !(ltOf cf y x)) (fun a b c h1 h2 => by
    simp only [Bool.not_eq_true'] at h1 h2 ⊢
    exact hO.ntrans _ _ _ h2 h1) (fun a b => by
    rw [Bool.or_eq_true, Bool.not_eq_true', Bool.not_eq_true']
    cases h : ltOf cf b a with
    | false => exact .inl rfl
    | true => exact .inr (hO.asymmA h)) l
  exact this.imp fun h => by simpa using h
theorem distF_symm {l r : List α} (hp : l.Perm r) (h : DistF cf l) : DistF cf r := (hp.pairwise_iff (fun {a b} h => h.symm)).1 h
theorem riseF_of {l : List α} (hd : DistF cf l) (hs : l.Pairwise fun x y => ltOf cf y x = false) : RiseF cf l := by
  refine (List.Pairwise.and hd hs).imp fun {a b} ⟨h2, h3⟩ => ?_
  rcases h2 with h2 | h2
  · exact h2
  · rw [h3] at h2; cases h2
theorem sortF_rise (hO : SWO (ltOf cf)) {l : List α} (h : DistF cf l) : RiseF cf (sortF cf l) := riseF_of (distF_symm (sortF_perm l).symm h) (sortF_pw hO l)
theorem riseF_uniq (hO : SWO (ltOf cf)) {l r : List α} (h1 : RiseF cf l) (h2 : RiseF cf r) (hm : ∀ x, x ∈ l ↔ x ∈ r) : l = r := by
  have nd : ∀ {l : List α}, RiseF cf l → l.Nodup := fun h => h.imp fun {a b} hab e => by rw [e, hO.irrefl] at hab; cases hab
  have hp : l.Perm r := (List.perm_ext_iff_of_nodup (nd h1) (nd h2)).2 hm
  refine List.Perm.eq_of_pairwise (le := fun x y => ltOf cf x y = true) (fun a b _ _ h3 h4 => ?_) h1 h2 hp
  have := hO.asymmA h3
  rw [h4] at this
  cases this
theorem sortF_uniq (hO : SWO (ltOf cf)) {l r : List α} (hd : DistF cf l) (hp : r.Perm l) (hs : r.Pairwise fun x y => ltOf cf y x = false) : r = sortF cf l := by
  refine riseF_uniq hO (riseF_of (distF_symm hp.symm hd) hs) (sortF_rise hO hd) fun x => ?_
  rw [hp.mem_iff, (sortF_perm l).mem_iff]
end
/-- slices.SortFunc at structs of k cells, in whatever world. -/
structure SortT (P : Program) (sf k : Nat) : Prop where
  ent : ∀ args w, (callFunc sf args).run P w = .ok (.enter sf args) w
  nil : ∀ fv w, Calls P sf #[.slice none 0 0, fv] w fun e w' => e = .returned (.tuple #[]) ∧ w' = w
  all : ∀ (enc : Nat → List Value), (∀ x, (enc x).length = k) → (∀ x, ∀ v ∈ enc x, v.oneCell' = true) → ∀ (cf : Nat → Nat → Int), SWO (ltOf cf) → ∀ (g blk cap : Nat) (d : Array Nat) (w : World), (∀ args w, (callFunc g args).run P w = .ok (.enter g args) w) → CmpLays P g #[] enc k cf blk 0 d.size w → HoldsK enc k w blk 0 d → blk < w.heap.size → d.size < 4611686018427387904 →
    Calls P sf #[.slice (some ⟨blk, 0, none⟩) d.size cap, .func (.func g) #[] #[]] w fun e w' => e = .returned (.tuple #[]) ∧ ∃ d' n os, PermIn 0 d.size d d' ∧ SortedIn (ltOf cf) 0 d.size d' ∧ w' = sortWorldK enc k w blk 0 n d' os
section
variable {α : Type} [Inhabited α] (dz : α → List D) (k : Nat) (cf : α → α → Int)
/-- The elements' order, by a closure that looks at their cells. -/
def CmpT (P : Program) (g k : Nat) (dz : α → List D) (cf : α → α → Int) : Prop := ∀ (F : Nat → Prop) (w0 W : World) (x y : α) (xs ys : List Value), xs.length = k → ys.length = k → (∀ i (h : i < xs.length) (h' : i < (dz x).length), Rep F w0 xs[i] (dz x)[i]) → (∀ i (h : i < ys.length) (h' : i < (dz y).length), Rep F w0 ys[i] (dz y)[i]) →
  Calls P g #[.agg xs.toArray, .agg ys.toArray] W fun e w' => e = .returned (.int .i64 (cf x y)) ∧ ∃ q os', w' = grow (W.drewN q) os'
variable {dz k cf}
/-- The cells of the element with a number. -/
def encF (ys : Nat → Nat → Value) (zs : List Value) (k n i : Nat) : List Value := if i < n then (List.range k).map (ys i) else zs
def cfF (cf : α → α → Int) (xs : List α) (i j : Nat) : Int := cf (xs.getD i default) (xs.getD j default)
theorem swoF (hO : SWO (ltOf cf)) (xs : List α) : SWO (ltOf (cfF cf xs)) where
  irrefl x := hO.irrefl (xs.getD x default)
  trans x y z h1 h2 := hO.trans (xs.getD x default) (xs.getD y default) (xs.getD z default) h1 h2
  ntrans x y z h1 h2 := hO.ntrans (xs.getD x default) (xs.getD y default) (xs.getD z default) h1 h2
set_option maxHeartbeats 2000000 in
theorem sort_rcall {P : Program} {sf g : Nat} (T : SortT P sf k) (hO : SWO (ltOf cf)) (eg : ∀ args w, (callFunc g args).run P w = .ok (.enter g args) w) (hC : CmpT P g k dz cf) (hdz : ∀ x, (dz x).length = k)
    (zs : List Value) (hzl : zs.length = k) (hz1 : ∀ v ∈ zs, v.oneCell' = true) (hzr : ∀ F w i (h : i < zs.length) (h' : i < (dz default).length), Rep F w zs[i] (dz default)[i])
    (xs : List α) (hn : xs.length < 4611686018427387904) (hd : DistF cf xs) (e : Nat) : RCall P sf e k (xs.map dz) ((sortF cf xs).map dz) [.clo (.func g) []] (.tup []) := by
  intro id
  refine ⟨T.ent, fun F ρ B w vs hF hB hσ hv => ?_⟩
  obtain rfl := repSL_fn hv
  have hsl : (sortF cf xs).length = xs.length := (sortF_perm xs).length_eq
  have hl : (xs.map dz).length = xs.length := List.length_map ..
  obtain ⟨ys, h1, h2, h3, h4⟩ := hσ.ok _ (List.mem_singleton.2 rfl)
  rw [hl] at h1
  have h1' : w.ownsRow B e k (ρ id) xs.length (flat ys xs.length k) := h1
  have hcell : ∀ i, (hi : i < xs.length) → ∀ c, (hc : c < k) → (ys i c).oneCell' = true ∧ Rep F w (ys i c) ((dz xs[i])[c]'(by rw [hdz]; exact hc)) := fun i hi c hc => by
    have := h3 i (by rw [hl]; exact hi) c (by rw [List.getElem_map, hdz]; exact hc)
    simpa only [List.getElem_map] using this
  rcases h1'.2 with ⟨h5, h6⟩ | ⟨g0, cap, cur, h5, h6, h7, h8, h9, h10, h11⟩
  · have h6' := List.eq_nil_of_length_eq_zero h6
    subst h6'
    rw [h5]
    refine (T.nil (.func (.func g) #[] #[]) w).mono fun e' w' ⟨he, hw⟩ => ?_
    subst hw
    refine ⟨_, F, ρ, he, .tup [] [] rfl (fun i h1 => by simp at h1), fun _ hb => hb, fun _ hb => .inl hb, hF, Kept.refl _ _, ?_, ?_, fun _ _ => rfl⟩
    · have : (sortF cf ([] : List α)).map dz = ([] : List α).map dz := by unfold sortF; rw [List.mergeSort_nil]
      rw [this]
      exact hσ
    · intro p hp b hb
      have : p = (id, .row e k ((sortF cf ([] : List α)).map dz)) := by simpa using hp
      subst this
      rw [h5] at hb
      simp [blk] at hb
  · rw [h5]
    have hg : g0 < w.heap.size := (Array.getElem?_eq_some_iff.1 h7).1
    have hcur : ∀ i c, i < xs.length → c < k → cur[i * k + c]? = some (ys i c) := fun i c hi hc => by
      have hcc := row_cell h1' h5 h7 hi hc
      rwa [cell_of_row w g0 (i * k + c) cur e (0, 0) h7] at hcc
    have hdm : ∀ j, j < xs.length * k → j / k < xs.length ∧ j % k < k ∧ j / k * k + j % k = j := fun j hj => by
      have hk0 : 0 < k := Nat.pos_of_ne_zero fun h => by subst h; simp at hj
      exact ⟨(Nat.div_lt_iff_lt_mul hk0).2 hj, Nat.mod_lt _ hk0, by rw [Nat.mul_comm]; exact Nat.div_add_mod j k⟩
    have hE : ∀ i, (encF ys zs k xs.length i).length = k := fun i => by
      unfold encF
      split
      · simp
      · exact hzl
    have hEat : ∀ i c, i < xs.length → c < k → (encF ys zs k xs.length i)[c]! = ys i c := fun i c hi hc => by
      unfold encF
      rw [if_pos hi, getElem!_pos _ c (by simpa using hc)]
      simp
    have hH : HoldsK (encF ys zs k xs.length) k w g0 0 (Array.range xs.length) := by
      intro j hj
      have hj' : j < xs.length * k := by simpa using hj
      obtain ⟨hpi, hpc, hpe⟩ := hdm j hj'
      have h12 := hcur (j / k) (j % k) hpi hpc
      rw [hpe] at h12
      rw [Nat.zero_add, cell_of_row w g0 j cur e (0, 0) h7, h12, get_flatK _ k _ _ (by simpa using hj'), rngK (α := Nat) _ _ hpi]
      refine ⟨by rw [hEat _ _ hpi hpc]; rfl, ?_⟩
      unfold World.frozen?
      rw [h7]
      simp
    have hRep : ∀ x, ∀ i (h : i < (encF ys zs k xs.length x).length) (h' : i < (dz (xs.getD x default)).length), Rep F w (encF ys zs k xs.length x)[i] (dz (xs.getD x default))[i] := fun x i h h' => by
      have hi : i < k := by rw [hE] at h; exact h
      by_cases hx : x < xs.length
      · have e1 : (encF ys zs k xs.length x)[i] = ys x i := by
          have := hEat x i hx hi
          rwa [getElem!_pos _ i h] at this
        have e2 : xs.getD x default = xs[x] := by rw [List.getD_eq_getElem?_getD, List.getElem?_eq_getElem hx]; rfl
        simp only [e1, e2]
        exact (hcell x hx i hi).2
      · have e1 : encF ys zs k xs.length x = zs := if_neg hx
        have e2 : xs.getD x default = default := by rw [List.getD_eq_getElem?_getD, List.getElem?_eq_none (by omega)]; rfl
        simp only [e1, e2]
        exact hzr F w i (by rw [hzl]; exact hi) _
    have hL : CmpLays P g #[] (encF ys zs k xs.length) k (cfF cf xs) g0 0 (Array.range xs.length).size w := fun m os dk _ x y =>
      hC F w _ (xs.getD x default) (xs.getD y default) _ _ (hE x) (hE y) (hRep x) (hRep y)
    have h := T.all (encF ys zs k xs.length) hE
      (fun x v hv => by
        unfold encF at hv
        by_cases hx : x < xs.length
        · rw [if_pos hx] at hv
          obtain ⟨c, hc, rfl⟩ := List.mem_map.1 hv
          exact (hcell x hx c (List.mem_range.1 hc)).1
        · rw [if_neg hx] at hv
          exact hz1 v hv) (cfF cf xs) (swoF hO xs) g g0 cap (Array.range xs.length) w eg hL hH hg (by simpa using hn)
    rw [show (Array.range xs.length).size = xs.length by simp] at h
    refine h.mono fun e' w' ⟨he, d', n, os, hp, hs, hw⟩ => ?_
    obtain ⟨hp1, _, hp3⟩ := hp
    have hds : d'.size = xs.length := by rw [hp1]; simp
    have hperm : d'.toList.Perm (List.range xs.length) := by
      have e1 : d'.extract 0 xs.length = d' := by rw [← hds]; exact Array.extract_size
      have e2 : (Array.range xs.length).extract 0 xs.length = Array.range xs.length := by
        have := Array.extract_size (xs := Array.range xs.length)
        rwa [show (Array.range xs.length).size = xs.length by simp] at this
      rw [e1, e2] at hp3
      simpa using hp3
    have hlt : ∀ i, i < xs.length → d'[i]! < xs.length := fun i hi => by
      rw [getElem!_pos d' i (by omega)]
      have : d'[i] ∈ d'.toList := by rw [Array.mem_toList_iff]; exact Array.getElem_mem _
      exact List.mem_range.1 (hperm.mem_iff.1 this)
    have hsort : (d'.toList.map fun i => xs.getD i default) = sortF cf xs := by
      refine sortF_uniq hO hd ?_ ?_
      · have h12 := hperm.map fun i => xs.getD i default
        have h13 : (List.range xs.length).map (fun i => xs.getD i default) = xs := by
          apply List.ext_getElem
          · simp
          · intro i a1 a2
            simp [List.getD_eq_getElem?_getD, List.getElem?_eq_getElem a2]
        rwa [h13] at h12
      · rw [List.pairwise_map, List.pairwise_iff_getElem]
        intro i j hi hj hij
        have hj' : j < xs.length := by rw [← hds]; simpa using hj
        have h12 := hs i j (Nat.zero_le _) hij (by rw [← hds]; simpa using hj)
        rw [getElem!_pos d' i (by omega), getElem!_pos d' j (by omega)] at h12
        have h13 : ltOf cf (xs.getD d'[j] default) (xs.getD d'[i] default) = false := h12
        simpa using h13
    have hat : ∀ i, (hi : i < xs.length) → (sortF cf xs)[i]'(by rw [hsl]; exact hi) = xs[d'[i]!]'(hlt i hi) := fun i hi => by
      have h12 : (d'.toList.map fun i => xs.getD i default)[i]? = some (xs[d'[i]!]'(hlt i hi)) := by
        rw [List.getElem?_map, Array.getElem?_toList, Array.getElem?_eq_getElem (by omega)]
        have := hlt i hi
        rw [getElem!_pos d' i (by omega)] at this
        simp only [Option.map_some, List.getD_eq_getElem?_getD, List.getElem?_eq_getElem this, Option.getD_some]
        congr 1
        simp [getElem!_pos d' i (by omega)]
      rw [hsort, List.getElem?_eq_getElem (by rw [hsl]; exact hi)] at h12
      exact Option.some.inj h12
    have hw2 : w' = Sort.grow (putRowK (encF ys zs k xs.length) k (Sort.ahead w n) g0 0 d') os := hw
    obtain ⟨hb1, hb2⟩ := put_blockG (encF ys zs k xs.length) k (n := n) (os := os) (zs := d') h7
    have hsz : w.heap.size ≤ w'.heap.size := by rw [hw2, Sort.size_grow, size_putRowK]; exact Nat.le_add_right _ _
    have hob : ownB [(id, Ob.row e k (xs.map dz))] ρ g0 := ⟨_, List.mem_singleton.2 rfl, by rw [h5]; rfl⟩
    have hnF : ¬ F g0 := h4 g0 (by rw [h5]; rfl)
    have hkeep : ∀ b, F b → w'.heap[b]? = w.heap[b]? := fun b hb => by
      rw [hw2]
      exact hb2 b (hF b hb) (fun e => hnF (e ▸ hb))
    refine ⟨_, F, ρ, he, .tup [] [] rfl (fun i h1 => by simp at h1), fun _ hb => hb, fun _ hb => .inl hb, fun b hb => Nat.lt_of_lt_of_le (hF b hb) hsz, ⟨by rw [hw2]; rfl, by rw [hw2]; rfl, by rw [hw2]; rfl, hsz, fun k hk hne => ?_⟩, ?_, ?_, fun _ _ => rfl⟩
    · rw [hw2]
      exact hb2 k hk (fun he => hne (.inr (he ▸ hob)))
    · refine ⟨fun p hp => ?_, fun p hp q hq hne => ?_, fun p hp q hq _ => ?_⟩
      · have : p = (id, .row e k ((sortF cf xs).map dz)) := by simpa using hp
        subst this
        have hl2 : ((sortF cf xs).map dz).length = xs.length := by rw [List.length_map, hsl]
        have hc2 : ∀ i c, i < xs.length → c < k → (Sort.putCells _root_.id 0 (flatK (encF ys zs k xs.length) k d') cur)[i * k + c]? = some (ys d'[i]! c) := fun i c hi hc => by
          rw [put_cellsG (encF ys zs k xs.length) k d' cur (by rw [hds, h10]; exact Nat.mul_le_mul_right k h8) i c (by omega) hc, hEat _ _ (hlt i hi) hc]
        refine ⟨fun i c => ys d'[i]! c, ?_, fun i hi => by rw [List.getElem_map, hdz], fun i hi c hc => ?_, fun g' hg' => ?_⟩
        · rw [hl2]
          refine ⟨flat_length _ _ _, .inr ⟨g0, cap, _, h5, h6, by rw [hw2]; exact hb1, h8, h9, by simp [Sort.putCells, h10], ?_⟩⟩
          apply List.ext_getElem?
          intro p
          by_cases hp : p < xs.length * k
          · obtain ⟨hpi, hpc, hpe⟩ := hdm p hp
            have := flatten_get (fun i c => ys d'[i]! c) k xs.length (p / k) (p % k) hpi hpc
            rw [hpe] at this
            have h12 := hc2 (p / k) (p % k) hpi hpc
            rw [hpe] at h12
            rw [this, List.getElem?_take, if_pos hp, Array.getElem?_toList, h12]
          · rw [List.getElem?_eq_none (by rw [List.length_take]; omega)]
            exact (List.getElem?_eq_none (by have := flat_length (fun i c => ys d'[i]! c) xs.length k; unfold flat at this; rw [this]; omega)).symm
        · rw [hl2] at hi
          have hc5 : c < k := by rw [List.getElem_map, hdz] at hc; exact hc
          have h12 := hcell d'[i]! (hlt i hi) c hc5
          refine ⟨h12.1, ?_⟩
          simp only [List.getElem_map]
          have h13 := h12.2.mono (F' := F) (w' := w') (fun _ h => h) hkeep
          have e1 := hat i hi
          simp only [e1]
          exact h13
        · rw [h5] at hg'
          simp [blk] at hg'
          subst hg'
          exact hnF
      · have h1 : p = (id, .row e k ((sortF cf xs).map dz)) := by simpa using hp
        have h2 : q = (id, .row e k ((sortF cf xs).map dz)) := by simpa using hq
        rw [h1, h2] at hne
        exact absurd rfl hne
      · have h1 : p = (id, .row e k ((sortF cf xs).map dz)) := by simpa using hp
        have h2 : q = (id, .row e k ((sortF cf xs).map dz)) := by simpa using hq
        rw [h1, h2]
    · intro p hp g' hg'
      have : p = (id, .row e k ((sortF cf xs).map dz)) := by simpa using hp
      subst this
      exact .inr ⟨_, List.mem_singleton.2 rfl, hg'⟩
end
end Go.Proofs.YtekenfknoakboaaDoor


namespace Go.Proofs.YtekenfknoakboaaDoor
open Go.RowKit
set_option linter.unusedVariables false

/-! Types. -/
namespace TyM1

end TyM1
open TyM1


structure Usd where
  title : ByteArray
  units : Int
  money : Int
deriving DecidableEq
structure Rpt where
  source : ByteArray
  no : Int
  period : Int
  corrects : Int
  lines : List Usd
deriving DecidableEq
instance : Inhabited Usd := ⟨⟨⟨#[]⟩, 0, 0⟩⟩
instance : Inhabited Rpt := ⟨⟨⟨#[]⟩, 0, 0, 0, []⟩⟩
def Usd.ds (x : Usd) : List D := [.v (.string x.title), .v (.int .i64 x.units), .v (.int .i64 x.money)]
def Rpt.ds (x : Rpt) : List D := [.v (.string x.source), .v (.int .i64 x.no), .v (.int .i64 x.period), .v (.int .i64 x.corrects), .sl (x.lines.map Usd.ds)]

/-- The fault of a line, behind the one ahead of it. -/
def usdF (l : List Usd) (k : Nat) : Int :=
  if h : k < l.length then
    if titleOk l[k].title = false then 3
    else if ¬ ((0 ≤ l[k].units ∧ l[k].units ≤ 1000000000) ∧ 0 ≤ l[k].money ∧ l[k].money ≤ 1000000000) then 1
    else if 0 < k ∧ sle l[k].title (l[k-1]'(by omega)).title = true then 8 else 0
  else 0
def rptF (x : Rpt) : Int :=
  if nameOk x.source = false then 5
  else if ¬ ((1 ≤ x.no ∧ x.no ≤ 1000000) ∧ (0 ≤ x.period ∧ x.period ≤ 2400) ∧ 0 ≤ x.corrects ∧ x.corrects ≤ x.no - 1) then 1
  else if 100 < x.lines.length then 2
  else ffst (usdF x.lines) x.lines.length

open Go.Sort Go.Lib
def rCmp (a b : Rpt) : Int := if compareBytes a.source.data.toList b.source.data.toList = 0 then compareInt a.no b.no else compareBytes a.source.data.toList b.source.data.toList
def ltR (a b : Rpt) : Bool := decide (rCmp a b < 0)
def sameK (a b : Rpt) : Bool := decide (a.source = b.source) && decide (a.no = b.no)
theorem cbLt : ∀ a b : List UInt8, compareBytes a b < 0 ↔ a < b
  | [], [] => by simp [compareBytes]
  | [], _ :: _ => by simp [compareBytes]
  | _ :: _, [] => by simp [compareBytes]
  | x :: a, y :: b => by
    unfold compareBytes
    rw [List.cons_lt_cons_iff]
    by_cases h1 : x < y
    · simp [h1]
    · rw [if_neg h1]
      by_cases h2 : y < x
      · rw [if_pos h2]
        have : x ≠ y := fun e => by subst e; exact UInt8.lt_irrefl _ h2
        simp [h1, this]
      · rw [if_neg h2, cbLt a b]
        have : x = y := UInt8.le_antisymm (UInt8.not_lt.1 h2) (UInt8.not_lt.1 h1)
        simp [this, UInt8.lt_irrefl]
theorem baEq {a b : ByteArray} : a.data.toList = b.data.toList ↔ a = b := by
  refine ⟨fun h => ?_, fun h => by rw [h]⟩
  cases a; cases b
  exact congrArg ByteArray.mk (Array.toList_inj.1 h)
/-! ## Logs -/
def Rise (l : List Rpt) : Prop := l.Pairwise fun x y => ltR x y = true
def Dist (l : List Rpt) : Prop := l.Pairwise fun x y => sameK x y = false
def sortR (l : List Rpt) : List Rpt := l.mergeSort fun x y => !(ltR y x)
def hasK (a : List Rpt) (x : Rpt) : Bool := a.any fun y => sameK y x
def newK (a b : List Rpt) : List Rpt := b.filter fun x => !(hasK a x)
def clashB (a b : List Rpt) : Bool := b.any fun x => a.any fun y => sameK y x && !(decide (y = x))
def uniK (a b : List Rpt) : List Rpt := sortR (a ++ newK a b)
/-- The fault of a report in a log. -/
def repF (l : List Rpt) (k : Nat) : Int :=
  if h : k < l.length then
    if rptF l[k] ≠ 0 then rptF l[k]
    else if 0 < k ∧ 0 ≤ rCmp (l[k-1]'(by omega)) l[k] then 8 else 0
  else 0
def logF (l : List Rpt) : Int := if 300 < l.length then 2 else ffst (repF l) l.length
structure Log (l : List Rpt) : Prop where
  len : l.length ≤ 300
  ok : ∀ x ∈ l, rptF x = 0
  rise : Rise l
/-- The fault of two logs that are joined, and what comes of them. -/
def joinF (a b : List Rpt) : Int := if logF a ≠ 0 then logF a else if logF b ≠ 0 then logF b else if clashB a b = true then 12 else if 300 < (a ++ newK a b).length then 2 else 0
def joinR (a b : List Rpt) : List Rpt := if joinF a b = 0 then uniK a b else []
structure Joins (a b : List Rpt) : Prop where
  la : Log a
  lb : Log b
  no : clashB a b = false
  len : (uniK a b).length ≤ 300
end Go.Proofs.YtekenfknoakboaaDoor


namespace Go.Proofs.YtekenfknoakboaaDoor
open Go.RowKit
set_option linter.unusedVariables false

/-! Types. -/
namespace TyM2
theorem et_63 : ElemTy Tryd.prog 63 3 1 8 (.int .i64 0) := ⟨by kernel_rfl, by kernel_rfl, by kernel_rfl, by decide⟩
theorem sc_3 : Scal Tryd.prog 3 := .of (by kernel_rfl)
theorem sc_9 : Scal Tryd.prog 9 := .of (by kernel_rfl)
end TyM2
open TyM2


open Go.Lib
def okRpt (x : Rpt) : Prop := x.source.size ≤ 9223372036854775807 ∧ ∀ u ∈ x.lines, u.title.size ≤ 9223372036854775807
end Go.Proofs.YtekenfknoakboaaDoor


namespace Go.Proofs.YtekenfknoakboaaDoor
open Go.RowKit
set_option linter.unusedVariables false

/-! Types. -/
namespace TyM3
end TyM3
open TyM3


open Go.Lib
theorem SLe.fn (f : Nat) : SLe (.d (.v (.func (.func f) #[] #[]))) (.d (.clo (.func f) [])) := fun F ρ w x h => by
  cases repS_v h
  exact .d (.clo _ [] [] rfl (fun i h => absurd h (Nat.not_lt_zero i)))
theorem row_sameM {i e s : Nat} {els els' : List (List D)} {τ : Obs} (h : els = els') : ∀ p ∈ [(i, Ob.row e s els')], p ∈ (i, Ob.row e s els) :: τ := fun p hp => by
  subst h
  rw [List.mem_singleton] at hp; subst hp; exact .head _
/-- The binary search: the number to which it comes. -/
def bsr (lt : Nat → Bool) (i j : Nat) : Nat := if h : i < j then (if lt ((i + j) / 2) = true then bsr lt ((i + j) / 2 + 1) j else bsr lt i ((i + j) / 2)) else i
termination_by j - i
decreasing_by all_goals omega
def ltQ (l : List Rpt) (t : Rpt) (k : Nat) : Bool := decide (k < l.length) && decide (rCmp (l.getD k default) t < 0)
def posR (l : List Rpt) (t : Rpt) : Nat := bsr (ltQ l t) 0 l.length
def hasR (l : List Rpt) (t : Rpt) : Bool := decide (posR l t < l.length) && decide (rCmp (l.getD (posR l t) default) t = 0)
end Go.Proofs.YtekenfknoakboaaDoor


namespace Go.Proofs.YtekenfknoakboaaDoor
open Go.RowKit Go.MapKept
set_option linter.unusedVariables false
set_option linter.unusedSimpArgs false

/-- v, ok := m[key]. -/
def MGetOk (M : List (Value × D)) (key : Value) (z d : D) (ok : Bool) : Prop := (ok = true ∧ ∃ i, M[i]? = some (key, d) ∧ ∀ (j : Nat) (p : Value × D), M[j]? = some p → p.1 = key → j = i) ∨ (ok = false ∧ (∀ p ∈ M, p.1 ≠ key) ∧ d = z)
section
variable {cx : Cx} {ops : Array Oper} {o : Oper} {rest : List Oper} {e : Env} {σ σ' : Obs} {Q : Post} {P : Program} {B : Nat}
end
end Go.Proofs.YtekenfknoakboaaDoor
