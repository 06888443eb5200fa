/- Walks and laws over abstract values, merged by tools/merge.py. No statement of the seat. -/
import Derived.Lib.ConvBytes
import Derived.Lib.Strings
import Derived.Laws.Cover3
import Derived.Shelf.SlSortCmp.WholeK
import Derived.Lib.RowBridge
import Derived.StillTailTactics
import Derived.DeepKeys4
import Derived.Maps.Keyed
import Derived.Test.YtekenfknoakboaaDoorXN3

namespace Go.Proofs.YtekenfknoakboaaDoor
open Go.RowKit
set_option linter.unusedVariables false

/-! Types. -/
namespace TyU2
theorem st_9 : Tryd.prog.underlying 9 = some .string := by kernel_rfl
end TyU2
open TyU2


open Go.Lib
theorem c_pName (s : ByteArray) (hs : s.size ≤ 9223372036854775807) : ACall Tryd.prog 21 [.v (.string s)] (.v (.bool (nameOk s))) :=
  acall_exact (us := [_]) (.of Tryd.func21 (by kernel_rfl) rfl) fun w => pName_any s w hs
theorem c_strCmp (a b : ByteArray) : ACall Tryd.prog 25 [.v (.string a), .v (.string b)] (.v (.int .i64 (strCmp a b))) :=
  acall_exact (us := [_, _]) (.of Tryd.func25 (by kernel_rfl) rfl) fun w => by
    have h := Any.strings_Compare Tryd.l106 a b w
    change Calls Tryd.prog 25 #[.string a, .string b] w _ at h
    exact h.mono fun _ _ ⟨h1, h2⟩ => ⟨h1, h2 ▸ Below.refl _ _⟩
/-- The library's variable holds some number. -/
def MaxT (w : World) : Prop := ∃ m, w.cell? ⟨Tryd.l144_ren.g 1, 0, none⟩ = some (.int .i64 m)
theorem maxT_stays : Stays MaxT := fun w w' k ⟨m, hm⟩ => by
  refine ⟨m, ?_⟩
  have hlt := World.block_lt_of_cell? _ _ hm
  dsimp only at hlt
  rw [World.cell?_of_block (k.block _ hlt (fun h => by have h2 : w.heap.size ≤ Tryd.l144_ren.g 1 := h; omega))]
  exact hm
theorem c_contains (s p : ByteArray) (hs : s.size < 4294967281) : ACallT Tryd.prog MaxT 82 [.v (.string s), .v (.string p)] (.v (.bool (Lib.contains s.data.toList p.data.toList))) :=
  ⟨.of Tryd.func82 (by kernel_rfl) rfl, fun F w vs hT hF hv => by
    rw [repL_v (us := [.string s, .string p]) hv]
    obtain ⟨m, hm⟩ := hT
    have h := Any.strings_Contains { Tryd.l144 with } s p m w hs hm
    change Calls Tryd.prog 82 #[.string s, .string p] w _ at h
    refine h.mono fun e w' ⟨h1, h2⟩ => ?_
    subst h2
    exact ⟨_, F, h1, .v _, Ext.refl hF⟩⟩
theorem c_contains2 (s : ByteArray) (hs : s.size ≤ 100) : ACallT Tryd.prog MaxT 82 [.v (.string s), .v (.string ⟨#[32, 32]⟩)] (.v (.bool (Lib.contains s.data.toList [32, 32]))) := c_contains s ⟨#[32, 32]⟩ (by omega)
theorem at0_ba {s : ByteArray} {i : Nat} (h : i < s.data.toList.length) : s.data.toList[i]? = some (at0 s.data.toList i) := by rw [at0_eq h, List.getElem?_eq_getElem h]
theorem emp_size {s : ByteArray} (h : s = ⟨#[]⟩) : s.size = 0 := by rw [h]; rfl
theorem nemp_size {s : ByteArray} (h : ¬ s = ⟨#[]⟩) : 0 < s.size := by
  rcases Nat.eq_zero_or_pos s.size with h0 | h0
  · exfalso; apply h
    apply ByteArray.ext
    have : s.data.toList = [] := List.eq_nil_of_length_eq_zero (by rw [← Lib.size_eq]; exact h0)
    exact Array.toList_inj.1 this
  · exact h0
theorem headD_at (l : List UInt8) : l.headD 0 = at0 l 0 := by cases l <;> rfl
theorem nm_len {s : ByteArray} (h : ¬ (1 ≤ s.data.toList.length ∧ s.data.toList.length ≤ 40)) : nameOk s = false := by
  unfold nameOk isName
  by_cases h1 : 1 ≤ s.data.toList.length
  · rw [decide_eq_false (show ¬ s.data.toList.length ≤ 40 by omega), Bool.and_false, Bool.false_and, Bool.false_and]
  · rw [decide_eq_false h1, Bool.false_and, Bool.false_and, Bool.false_and]
theorem nm_head {s : ByteArray} (h : ¬ (97 ≤ (at0 s.data.toList 0).toNat ∧ (at0 s.data.toList 0).toNat ≤ 122)) : nameOk s = false := by
  unfold nameOk isName
  rw [headD_at]
  have : headB (at0 s.data.toList 0) = false := by
    unfold headB
    rw [Bool.eq_false_iff]
    simp only [ne_eq, Bool.and_eq_true, decide_eq_true_eq]
    exact h
  rw [this, Bool.and_false, Bool.false_and]
theorem nameB_iff {c : UInt8} : nameB c = true ↔ (97 ≤ c.toNat ∧ c.toNat ≤ 122) ∨ (48 ≤ c.toNat ∧ c.toNat ≤ 57) ∨ c.toNat = 45 := by
  unfold nameB
  simp only [Bool.or_eq_true, Bool.and_eq_true, decide_eq_true_eq]
  omega
theorem all_nx {p : UInt8 → Bool} {l : List UInt8} {k : Nat} (hk : k < l.length) (h : ∀ c ∈ l.take k, p c = true) (h2 : p (at0 l k) = true) : ∀ c ∈ l.take (k + 1), p c = true := fun c hc => by
  rw [List.take_add_one, List.getElem?_eq_getElem hk, Option.toList_some, List.mem_append, List.mem_singleton] at hc
  rcases hc with hc | hc
  · exact h c hc
  · rw [hc, ← at0_eq hk]; exact h2
theorem all_end {p : UInt8 → Bool} {l : List UInt8} {k : Nat} (hk : l.length ≤ k) (h : ∀ c ∈ l.take k, p c = true) : l.all p = true := by
  rw [List.take_of_length_le hk] at h
  rw [List.all_eq_true]; exact h
theorem all_hit {p : UInt8 → Bool} {l : List UInt8} {k : Nat} (hk : k < l.length) (h : ¬ p (at0 l k) = true) : l.all p = false := by
  cases ha : l.all p with
  | false => rfl
  | true => exact absurd (by rw [at0_eq hk]; exact List.all_eq_true.1 ha _ (List.getElem_mem hk)) h
theorem nm_ch {s : ByteArray} {k : Nat} (hk : k < s.data.toList.length) (h : ¬ nameB (at0 s.data.toList k) = true) : nameOk s = false := by
  unfold nameOk isName
  rw [all_hit hk h, Bool.and_false]
theorem nm_ok {s : ByteArray} (h1 : 1 ≤ s.data.toList.length ∧ s.data.toList.length ≤ 40) (h2 : 97 ≤ (at0 s.data.toList 0).toNat ∧ (at0 s.data.toList 0).toNat ≤ 122) (h3 : s.data.toList.all nameB = true) : nameOk s = true := by
  unfold nameOk isName
  rw [headD_at, h3, decide_eq_true h1.1, decide_eq_true h1.2]
  unfold headB
  rw [decide_eq_true h2.1, decide_eq_true h2.2]; rfl
theorem tt_no {l : List UInt8} (h : ¬ (1 ≤ l.length ∧ l.length ≤ 100 ∧ at0 l 0 ≠ 32 ∧ at0 l (l.length - 1) ≠ 32 ∧ Lib.contains l [32, 32] = false ∧ l.all prB = true)) : titleB l = false := by
  rw [Bool.eq_false_iff]
  intro hb
  unfold titleB at hb
  simp only [Bool.and_eq_true, decide_eq_true_eq, Bool.not_eq_true', decide_eq_false_iff_not] at hb
  exact h ⟨hb.1.1.1.1.1, hb.1.1.1.1.2, hb.1.1.1.2, hb.1.1.2, hb.1.2, hb.2⟩
theorem tt_yes {l : List UInt8} (h1 : 1 ≤ l.length) (h2 : l.length ≤ 100) (h3 : at0 l 0 ≠ 32) (h4 : at0 l (l.length - 1) ≠ 32) (h5 : Lib.contains l [32, 32] = false) (h6 : l.all prB = true) : titleB l = true := by
  unfold titleB
  simp only [h1, h2, h3, h4, h5, h6, decide_true, decide_false, Bool.not_false, Bool.and_true]
theorem u32' {x : UInt8} (h : (x.toNat : Int) = 32) : x = 32 := UInt8.toNat_inj.1 (by show x.toNat = 32; omega)
theorem u32n {x : UInt8} (h : ¬ (x.toNat : Int) = 32) : x ≠ 32 := fun e => h (by rw [e]; rfl)
theorem prB_iff {c : UInt8} : prB c = true ↔ 32 ≤ c.toNat ∧ c.toNat ≤ 126 := by unfold prB; simp


set_option maxRecDepth 100000 in
set_option maxHeartbeats 1000000 in
theorem c_rName (s : ByteArray) (hs : s.size ≤ 9223372036854775807) : ACall Tryd.prog 26 [.v (.string s)] (.v (.bool (nameOk s))) := by
  refine acall_of (n := 49) (ds' := [.v (.bool (nameOk s))]) Tryd.func26 rfl (by kernel_rfl) rfl [2] rfl rfl ?_
  intro B w0 F0 fr
  have hsz := Lib.size_eq s
  refine AWP.seq ?_
  refine AWP.region ?_
  refine AOps.step rfl rfl rfl (AOp.assignD rfl rfl) ?_
  refine AOps.nil ?_
  refine AWP.seq ?_
  refine AWP.seq ?_
  refine AWP.region ?_
  refine AOps.step rfl rfl rfl (AOp.moveD rfl rfl) ?_
  refine AOps.step rfl rfl rfl (AOp.seql rfl rfl rfl) ?_
  refine AOps.step rfl rfl rfl (AOp.moveD rfl rfl) ?_
  refine AOps.split 7 rfl (fun g1 => ?_) (fun g1 => ?_)
  · replace g1 := of_decide_eq_true g1
    have HR := nm_len (s := s) (by have := emp_size g1; omega)
    refine AOps.pass ⟨7, rfl, .inl ⟨_, rfl, rfl⟩⟩ rfl rfl ?_
    refine AOps.pass ⟨7, rfl, .inl ⟨_, rfl, rfl⟩⟩ rfl rfl ?_
    refine AOps.pass ⟨7, rfl, .inl ⟨_, rfl, rfl⟩⟩ rfl rfl ?_
    refine AOps.step rfl rfl rfl (AOp.pickT rfl rfl rfl) ?_
    refine AOps.step rfl rfl rfl (AOp.moveD rfl rfl) ?_
    refine AOps.pass ⟨12, rfl, .inl ⟨_, rfl, rfl⟩⟩ rfl rfl ?_
    refine AOps.pass ⟨12, rfl, .inl ⟨_, rfl, rfl⟩⟩ rfl rfl ?_
    refine AOps.pass ⟨12, rfl, .inl ⟨_, rfl, rfl⟩⟩ rfl rfl ?_
    refine AOps.step rfl rfl rfl (AOp.pickT rfl rfl rfl) ?_
    refine AOps.step rfl rfl rfl (AOp.moveD rfl rfl) ?_
    refine AOps.pass ⟨17, rfl, .inl ⟨_, rfl, rfl⟩⟩ rfl rfl ?_
    refine AOps.pass ⟨17, rfl, .inl ⟨_, rfl, rfl⟩⟩ rfl rfl ?_
    refine AOps.pass ⟨17, rfl, .inl ⟨_, rfl, rfl⟩⟩ rfl rfl ?_
    refine AOps.step rfl rfl rfl (AOp.pickT rfl rfl rfl) ?_
    refine AOps.nil ?_
    refine AWP.cond rfl (fun _ => ?_) (fun h => nomatch h)
    refine AWP.seq ?_
    refine AWP.region ?_
    refine AOps.step rfl rfl rfl (AOp.assignD rfl rfl) ?_
    refine AOps.nil ?_
    refine AWP.ret ?_
    refine ⟨RetD.eq rfl ?_, trivial⟩
    all_goals (first | rw [HR] | rw [nm_ch hlt (fun hc => by have := nameB_iff.1 hc; omega)])
  · replace g1 := of_decide_eq_false g1
    have hp := nemp_size g1
    refine AOps.step ⟨7, rfl, .inl ⟨_, rfl, rfl⟩⟩ rfl rfl (AOp.moveD rfl rfl) ?_
    refine AOps.step ⟨7, rfl, .inl ⟨_, rfl, rfl⟩⟩ rfl rfl (AOp.lenStr rfl st_9 rfl) ?_
    refine AOps.step ⟨7, rfl, .inl ⟨_, rfl, rfl⟩⟩ rfl rfl (AOp.gtr rfl rfl rfl) ?_
    refine AOps.step rfl rfl rfl (AOp.pickF rfl rfl rfl) ?_
    refine AOps.step rfl rfl rfl (AOp.moveD rfl rfl) ?_
    refine AOps.split 12 rfl (fun g2 => ?_) (fun g2 => ?_)
    · replace g2 := of_decide_eq_true g2
      have HR := nm_len (s := s) (by omega)
      refine AOps.pass ⟨12, rfl, .inl ⟨_, rfl, rfl⟩⟩ rfl rfl ?_
      refine AOps.pass ⟨12, rfl, .inl ⟨_, rfl, rfl⟩⟩ rfl rfl ?_
      refine AOps.pass ⟨12, rfl, .inl ⟨_, rfl, rfl⟩⟩ rfl rfl ?_
      refine AOps.step rfl rfl rfl (AOp.pickT rfl rfl rfl) ?_
      refine AOps.step rfl rfl rfl (AOp.moveD rfl rfl) ?_
      refine AOps.pass ⟨17, rfl, .inl ⟨_, rfl, rfl⟩⟩ rfl rfl ?_
      refine AOps.pass ⟨17, rfl, .inl ⟨_, rfl, rfl⟩⟩ rfl rfl ?_
      refine AOps.pass ⟨17, rfl, .inl ⟨_, rfl, rfl⟩⟩ rfl rfl ?_
      refine AOps.step rfl rfl rfl (AOp.pickT rfl rfl rfl) ?_
      refine AOps.nil ?_
      refine AWP.cond rfl (fun _ => ?_) (fun h => nomatch h)
      refine AWP.seq ?_
      refine AWP.region ?_
      refine AOps.step rfl rfl rfl (AOp.assignD rfl rfl) ?_
      refine AOps.nil ?_
      refine AWP.ret ?_
      refine ⟨RetD.eq rfl ?_, trivial⟩
      all_goals (first | rw [HR] | rw [nm_ch hlt (fun hc => by have := nameB_iff.1 hc; omega)])
    · replace g2 := of_decide_eq_false g2
      refine AOps.step ⟨12, rfl, .inl ⟨_, rfl, rfl⟩⟩ rfl rfl (AOp.moveD rfl rfl) ?_
      refine AOps.step ⟨12, rfl, .inl ⟨_, rfl, rfl⟩⟩ rfl rfl (AOp.indexStr rfl st_9 rfl rfl 0 rfl (at0_ba (by omega))) ?_
      refine AOps.step ⟨12, rfl, .inl ⟨_, rfl, rfl⟩⟩ rfl rfl (AOp.lss rfl rfl rfl) ?_
      refine AOps.step rfl rfl rfl (AOp.pickF rfl rfl rfl) ?_
      refine AOps.step rfl rfl rfl (AOp.moveD rfl rfl) ?_
      refine AOps.split 17 rfl (fun g3 => ?_) (fun g3 => ?_)
      · replace g3 := of_decide_eq_true g3
        have HR := nm_head (s := s) (by omega)
        refine AOps.pass ⟨17, rfl, .inl ⟨_, rfl, rfl⟩⟩ rfl rfl ?_
        refine AOps.pass ⟨17, rfl, .inl ⟨_, rfl, rfl⟩⟩ rfl rfl ?_
        refine AOps.pass ⟨17, rfl, .inl ⟨_, rfl, rfl⟩⟩ rfl rfl ?_
        refine AOps.step rfl rfl rfl (AOp.pickT rfl rfl rfl) ?_
        refine AOps.nil ?_
        refine AWP.cond rfl (fun _ => ?_) (fun h => nomatch h)
        refine AWP.seq ?_
        refine AWP.region ?_
        refine AOps.step rfl rfl rfl (AOp.assignD rfl rfl) ?_
        refine AOps.nil ?_
        refine AWP.ret ?_
        refine ⟨RetD.eq rfl ?_, trivial⟩
        all_goals (first | rw [HR] | rw [nm_ch hlt (fun hc => by have := nameB_iff.1 hc; omega)])
      · replace g3 := of_decide_eq_false g3
        refine AOps.step ⟨17, rfl, .inl ⟨_, rfl, rfl⟩⟩ rfl rfl (AOp.moveD rfl rfl) ?_
        refine AOps.step ⟨17, rfl, .inl ⟨_, rfl, rfl⟩⟩ rfl rfl (AOp.indexStr rfl st_9 rfl rfl 0 rfl (at0_ba (by omega))) ?_
        refine AOps.step ⟨17, rfl, .inl ⟨_, rfl, rfl⟩⟩ rfl rfl (AOp.gtr rfl rfl rfl) ?_
        refine AOps.step rfl rfl rfl (AOp.pickF rfl rfl rfl) ?_
        refine AOps.nil ?_
        refine AWP.cond rfl (fun h4 => ?_) (fun h4 => ?_)
        · replace h4 := of_decide_eq_true h4
          have HR := nm_head (s := s) (by omega)
          refine AWP.seq ?_
          refine AWP.region ?_
          refine AOps.step rfl rfl rfl (AOp.assignD rfl rfl) ?_
          refine AOps.nil ?_
          refine AWP.ret ?_
          refine ⟨RetD.eq rfl ?_, trivial⟩
          all_goals (first | rw [HR] | rw [nm_ch hlt (fun hc => by have := nameB_iff.1 hc; omega)])
        · replace h4 := of_decide_eq_false h4
          have hhd : 97 ≤ (at0 s.data.toList 0).toNat ∧ (at0 s.data.toList 0).toNat ≤ 122 := by omega
          refine AWP.skip ?_
          refine AWP.seq ?_
          refine AWP.seq ?_
          refine AWP.region ?_
          refine AOps.step rfl rfl rfl (AOp.moveD rfl rfl) ?_
          refine AOps.step rfl rfl rfl (AOp.lenStr rfl st_9 rfl) ?_
          refine AOps.step rfl rfl rfl (AOp.moveD rfl rfl) ?_
          refine AOps.nil ?_
          refine AWP.block ?_
          refine AWP.loop (G := Nat) (fun k => Env.of [(24, .d (.v (.int .i64 (k : Int)))), (23, .d (.v (.int .i64 (s.size : Int)))), (0, .d (.v (.string s)))]) (fun k => []) (fun k => k ≤ s.size ∧ ∀ c ∈ s.data.toList.take k, nameB c = true) (fun k => s.size - k) 0 ⟨Nat.zero_le _, fun c h => by simp at h⟩ (Sub.less ⟨(SLe.of_eq rfl), SLe.refl _, SLe.refl _, trivial⟩ (fun _ h => h)) ?_
          intro k hk
          refine AWP.seq ?_
          refine AWP.region ?_
          refine AOps.step rfl rfl rfl (AOp.lss rfl rfl rfl) ?_
          refine AOps.nil ?_
          refine AWP.seq ?_
          refine AWP.cond rfl (fun h5 => ?_) (fun h5 => ?_)
          · replace h5 := of_decide_eq_true h5
            have hlt : k < s.data.toList.length := by omega
            refine AWP.skip ?_
            refine AWP.seq ?_
            refine AWP.block ?_
            refine AWP.seq ?_
            refine AWP.region ?_
            refine AOps.step rfl rfl rfl (AOp.moveD rfl rfl) ?_
            refine AOps.step rfl rfl rfl (AOp.assignD rfl rfl) ?_
            refine AOps.nil ?_
            refine AWP.seq ?_
            refine AWP.region ?_
            refine AOps.step rfl rfl rfl (AOp.moveD rfl rfl) ?_
            refine AOps.step rfl rfl rfl (AOp.moveD rfl rfl) ?_
            refine AOps.step rfl rfl rfl (AOp.indexStr rfl st_9 rfl rfl k rfl (at0_ba hlt)) ?_
            refine AOps.step rfl rfl rfl (AOp.assignD rfl rfl) ?_
            refine AOps.nil ?_
            refine AWP.seq ?_
            refine AWP.region ?_
            refine AOps.step rfl rfl rfl (AOp.moveD rfl rfl) ?_
            refine AOps.step rfl rfl rfl (AOp.lss rfl rfl rfl) ?_
            refine AOps.step rfl rfl rfl (AOp.moveD rfl rfl) ?_
            refine AOps.split 32 rfl (fun g6 => ?_) (fun g6 => ?_)
            · replace g6 := of_decide_eq_true g6
              refine AOps.pass ⟨32, rfl, .inl ⟨_, rfl, rfl⟩⟩ rfl rfl ?_
              refine AOps.pass ⟨32, rfl, .inl ⟨_, rfl, rfl⟩⟩ rfl rfl ?_
              refine AOps.step rfl rfl rfl (AOp.pickT rfl rfl rfl) ?_
              refine AOps.step rfl rfl rfl (AOp.moveD rfl rfl) ?_
              refine AOps.step ⟨36, rfl, .inl ⟨_, rfl, rfl⟩⟩ rfl rfl (AOp.moveD rfl rfl) ?_
              refine AOps.step ⟨36, rfl, .inl ⟨_, rfl, rfl⟩⟩ rfl rfl (AOp.lss rfl rfl rfl) ?_
              refine AOps.step ⟨36, rfl, .inl ⟨_, rfl, rfl⟩⟩ rfl rfl (AOp.moveD rfl rfl) ?_
              refine AOps.split 39 rfl (fun g7 => ?_) (fun g7 => ?_)
              · replace g7 := of_decide_eq_true g7
                refine AOps.pass ⟨39, rfl, .inl ⟨_, rfl, rfl⟩⟩ rfl rfl ?_
                refine AOps.pass ⟨39, rfl, .inl ⟨_, rfl, rfl⟩⟩ rfl rfl ?_
                refine AOps.step ⟨36, rfl, .inl ⟨_, rfl, rfl⟩⟩ rfl rfl (AOp.pickT rfl rfl rfl) ?_
                refine AOps.step rfl rfl rfl (AOp.pickT rfl rfl rfl) ?_
                refine AOps.step rfl rfl rfl (AOp.moveD rfl rfl) ?_
                refine AOps.step ⟨44, rfl, .inl ⟨_, rfl, rfl⟩⟩ rfl rfl (AOp.moveD rfl rfl) ?_
                refine AOps.step ⟨44, rfl, .inl ⟨_, rfl, rfl⟩⟩ rfl rfl (AOp.neq rfl rfl rfl) ?_
                refine AOps.step rfl rfl rfl (AOp.pickT rfl rfl rfl) ?_
                refine AOps.nil ?_
                refine AWP.cond rfl (fun h8 => ?_) (fun h8 => ?_)
                · replace h8 := of_decide_eq_true h8
                  refine AWP.seq ?_
                  refine AWP.region ?_
                  refine AOps.step rfl rfl rfl (AOp.assignD rfl rfl) ?_
                  refine AOps.nil ?_
                  refine AWP.ret ?_
                  refine ⟨RetD.eq rfl ?_, trivial⟩
                  all_goals (first | rw [HR] | rw [nm_ch hlt (fun hc => by have := nameB_iff.1 hc; omega)])
                · replace h8 := of_decide_eq_false h8
                  refine AWP.skip ?_
                  refine AWP.region ?_
                  refine AOps.step rfl rfl rfl (AOp.add64 rfl rfl rfl (by omega) (by omega)) ?_
                  refine AOps.step rfl rfl rfl (AOp.moveD rfl rfl) ?_
                  refine AOps.nil ?_
                  refine ⟨k + 1, ⟨by omega, all_nx hlt hk.2 (nameB_iff.2 (by omega))⟩, (by dsimp only; omega), Sub.less ⟨(SLe.of_eq rfl), SLe.refl _, SLe.refl _, trivial⟩ (fun _ h => h)⟩
              · replace g7 := of_decide_eq_false g7
                refine AOps.step ⟨39, rfl, .inl ⟨_, rfl, rfl⟩⟩ rfl rfl (AOp.moveD rfl rfl) ?_
                refine AOps.step ⟨39, rfl, .inl ⟨_, rfl, rfl⟩⟩ rfl rfl (AOp.gtr rfl rfl rfl) ?_
                refine AOps.step ⟨36, rfl, .inl ⟨_, rfl, rfl⟩⟩ rfl rfl (AOp.pickF rfl rfl rfl) ?_
                refine AOps.step rfl rfl rfl (AOp.pickT rfl rfl rfl) ?_
                refine AOps.step rfl rfl rfl (AOp.moveD rfl rfl) ?_
                refine AOps.split 44 rfl (fun g9 => ?_) (fun g9 => ?_)
                · replace g9 := of_decide_eq_true g9
                  refine AOps.step ⟨44, rfl, .inl ⟨_, rfl, rfl⟩⟩ rfl rfl (AOp.moveD rfl rfl) ?_
                  refine AOps.step ⟨44, rfl, .inl ⟨_, rfl, rfl⟩⟩ rfl rfl (AOp.neq rfl rfl rfl) ?_
                  refine AOps.step rfl rfl rfl (AOp.pickT rfl rfl rfl) ?_
                  refine AOps.nil ?_
                  refine AWP.cond rfl (fun h10 => ?_) (fun h10 => ?_)
                  · replace h10 := of_decide_eq_true h10
                    refine AWP.seq ?_
                    refine AWP.region ?_
                    refine AOps.step rfl rfl rfl (AOp.assignD rfl rfl) ?_
                    refine AOps.nil ?_
                    refine AWP.ret ?_
                    refine ⟨RetD.eq rfl ?_, trivial⟩
                    all_goals (first | rw [HR] | rw [nm_ch hlt (fun hc => by have := nameB_iff.1 hc; omega)])
                  · replace h10 := of_decide_eq_false h10
                    refine AWP.skip ?_
                    refine AWP.region ?_
                    refine AOps.step rfl rfl rfl (AOp.add64 rfl rfl rfl (by omega) (by omega)) ?_
                    refine AOps.step rfl rfl rfl (AOp.moveD rfl rfl) ?_
                    refine AOps.nil ?_
                    refine ⟨k + 1, ⟨by omega, all_nx hlt hk.2 (nameB_iff.2 (by omega))⟩, (by dsimp only; omega), Sub.less ⟨(SLe.of_eq rfl), SLe.refl _, SLe.refl _, trivial⟩ (fun _ h => h)⟩
                · replace g9 := of_decide_eq_false g9
                  refine AOps.pass ⟨44, rfl, .inl ⟨_, rfl, rfl⟩⟩ rfl rfl ?_
                  refine AOps.pass ⟨44, rfl, .inl ⟨_, rfl, rfl⟩⟩ rfl rfl ?_
                  refine AOps.step rfl rfl rfl (AOp.pickF rfl rfl rfl) ?_
                  refine AOps.nil ?_
                  refine AWP.cond rfl (fun h => nomatch h) (fun _ => ?_)
                  refine AWP.skip ?_
                  refine AWP.region ?_
                  refine AOps.step rfl rfl rfl (AOp.add64 rfl rfl rfl (by omega) (by omega)) ?_
                  refine AOps.step rfl rfl rfl (AOp.moveD rfl rfl) ?_
                  refine AOps.nil ?_
                  refine ⟨k + 1, ⟨by omega, all_nx hlt hk.2 (nameB_iff.2 (by omega))⟩, (by dsimp only; omega), Sub.less ⟨(SLe.of_eq rfl), SLe.refl _, SLe.refl _, trivial⟩ (fun _ h => h)⟩
            · replace g6 := of_decide_eq_false g6
              refine AOps.step ⟨32, rfl, .inl ⟨_, rfl, rfl⟩⟩ rfl rfl (AOp.moveD rfl rfl) ?_
              refine AOps.step ⟨32, rfl, .inl ⟨_, rfl, rfl⟩⟩ rfl rfl (AOp.gtr rfl rfl rfl) ?_
              refine AOps.step rfl rfl rfl (AOp.pickF rfl rfl rfl) ?_
              refine AOps.step rfl rfl rfl (AOp.moveD rfl rfl) ?_
              refine AOps.split 36 rfl (fun g11 => ?_) (fun g11 => ?_)
              · replace g11 := of_decide_eq_true g11
                refine AOps.step ⟨36, rfl, .inl ⟨_, rfl, rfl⟩⟩ rfl rfl (AOp.moveD rfl rfl) ?_
                refine AOps.step ⟨36, rfl, .inl ⟨_, rfl, rfl⟩⟩ rfl rfl (AOp.lss rfl rfl rfl) ?_
                refine AOps.step ⟨36, rfl, .inl ⟨_, rfl, rfl⟩⟩ rfl rfl (AOp.moveD rfl rfl) ?_
                refine AOps.split 39 rfl (fun g12 => ?_) (fun g12 => ?_)
                · replace g12 := of_decide_eq_true g12
                  refine AOps.pass ⟨39, rfl, .inl ⟨_, rfl, rfl⟩⟩ rfl rfl ?_
                  refine AOps.pass ⟨39, rfl, .inl ⟨_, rfl, rfl⟩⟩ rfl rfl ?_
                  refine AOps.step ⟨36, rfl, .inl ⟨_, rfl, rfl⟩⟩ rfl rfl (AOp.pickT rfl rfl rfl) ?_
                  refine AOps.step rfl rfl rfl (AOp.pickT rfl rfl rfl) ?_
                  refine AOps.step rfl rfl rfl (AOp.moveD rfl rfl) ?_
                  refine AOps.step ⟨44, rfl, .inl ⟨_, rfl, rfl⟩⟩ rfl rfl (AOp.moveD rfl rfl) ?_
                  refine AOps.step ⟨44, rfl, .inl ⟨_, rfl, rfl⟩⟩ rfl rfl (AOp.neq rfl rfl rfl) ?_
                  refine AOps.step rfl rfl rfl (AOp.pickT rfl rfl rfl) ?_
                  refine AOps.nil ?_
                  refine AWP.cond rfl (fun h13 => ?_) (fun h13 => ?_)
                  · replace h13 := of_decide_eq_true h13
                    refine AWP.seq ?_
                    refine AWP.region ?_
                    refine AOps.step rfl rfl rfl (AOp.assignD rfl rfl) ?_
                    refine AOps.nil ?_
                    refine AWP.ret ?_
                    refine ⟨RetD.eq rfl ?_, trivial⟩
                    all_goals (first | rw [HR] | rw [nm_ch hlt (fun hc => by have := nameB_iff.1 hc; omega)])
                  · replace h13 := of_decide_eq_false h13
                    refine AWP.skip ?_
                    refine AWP.region ?_
                    refine AOps.step rfl rfl rfl (AOp.add64 rfl rfl rfl (by omega) (by omega)) ?_
                    refine AOps.step rfl rfl rfl (AOp.moveD rfl rfl) ?_
                    refine AOps.nil ?_
                    refine ⟨k + 1, ⟨by omega, all_nx hlt hk.2 (nameB_iff.2 (by omega))⟩, (by dsimp only; omega), Sub.less ⟨(SLe.of_eq rfl), SLe.refl _, SLe.refl _, trivial⟩ (fun _ h => h)⟩
                · replace g12 := of_decide_eq_false g12
                  refine AOps.step ⟨39, rfl, .inl ⟨_, rfl, rfl⟩⟩ rfl rfl (AOp.moveD rfl rfl) ?_
                  refine AOps.step ⟨39, rfl, .inl ⟨_, rfl, rfl⟩⟩ rfl rfl (AOp.gtr rfl rfl rfl) ?_
                  refine AOps.step ⟨36, rfl, .inl ⟨_, rfl, rfl⟩⟩ rfl rfl (AOp.pickF rfl rfl rfl) ?_
                  refine AOps.step rfl rfl rfl (AOp.pickT rfl rfl rfl) ?_
                  refine AOps.step rfl rfl rfl (AOp.moveD rfl rfl) ?_
                  refine AOps.split 44 rfl (fun g14 => ?_) (fun g14 => ?_)
                  · replace g14 := of_decide_eq_true g14
                    refine AOps.step ⟨44, rfl, .inl ⟨_, rfl, rfl⟩⟩ rfl rfl (AOp.moveD rfl rfl) ?_
                    refine AOps.step ⟨44, rfl, .inl ⟨_, rfl, rfl⟩⟩ rfl rfl (AOp.neq rfl rfl rfl) ?_
                    refine AOps.step rfl rfl rfl (AOp.pickT rfl rfl rfl) ?_
                    refine AOps.nil ?_
                    refine AWP.cond rfl (fun h15 => ?_) (fun h15 => ?_)
                    · replace h15 := of_decide_eq_true h15
                      refine AWP.seq ?_
                      refine AWP.region ?_
                      refine AOps.step rfl rfl rfl (AOp.assignD rfl rfl) ?_
                      refine AOps.nil ?_
                      refine AWP.ret ?_
                      refine ⟨RetD.eq rfl ?_, trivial⟩
                      all_goals (first | rw [HR] | rw [nm_ch hlt (fun hc => by have := nameB_iff.1 hc; omega)])
                    · replace h15 := of_decide_eq_false h15
                      refine AWP.skip ?_
                      refine AWP.region ?_
                      refine AOps.step rfl rfl rfl (AOp.add64 rfl rfl rfl (by omega) (by omega)) ?_
                      refine AOps.step rfl rfl rfl (AOp.moveD rfl rfl) ?_
                      refine AOps.nil ?_
                      refine ⟨k + 1, ⟨by omega, all_nx hlt hk.2 (nameB_iff.2 (by omega))⟩, (by dsimp only; omega), Sub.less ⟨(SLe.of_eq rfl), SLe.refl _, SLe.refl _, trivial⟩ (fun _ h => h)⟩
                  · replace g14 := of_decide_eq_false g14
                    refine AOps.pass ⟨44, rfl, .inl ⟨_, rfl, rfl⟩⟩ rfl rfl ?_
                    refine AOps.pass ⟨44, rfl, .inl ⟨_, rfl, rfl⟩⟩ rfl rfl ?_
                    refine AOps.step rfl rfl rfl (AOp.pickF rfl rfl rfl) ?_
                    refine AOps.nil ?_
                    refine AWP.cond rfl (fun h => nomatch h) (fun _ => ?_)
                    refine AWP.skip ?_
                    refine AWP.region ?_
                    refine AOps.step rfl rfl rfl (AOp.add64 rfl rfl rfl (by omega) (by omega)) ?_
                    refine AOps.step rfl rfl rfl (AOp.moveD rfl rfl) ?_
                    refine AOps.nil ?_
                    refine ⟨k + 1, ⟨by omega, all_nx hlt hk.2 (nameB_iff.2 (by omega))⟩, (by dsimp only; omega), Sub.less ⟨(SLe.of_eq rfl), SLe.refl _, SLe.refl _, trivial⟩ (fun _ h => h)⟩
              · replace g11 := of_decide_eq_false g11
                refine AOps.pass ⟨36, rfl, .inl ⟨_, rfl, rfl⟩⟩ rfl rfl ?_
                refine AOps.pass ⟨36, rfl, .inl ⟨_, rfl, rfl⟩⟩ rfl rfl ?_
                refine AOps.pass ⟨36, rfl, .inl ⟨_, rfl, rfl⟩⟩ rfl rfl ?_
                refine AOps.pass ⟨39, rfl, .inr ⟨rfl, rfl⟩⟩ rfl rfl ?_
                refine AOps.pass ⟨39, rfl, .inr ⟨rfl, rfl⟩⟩ rfl rfl ?_
                refine AOps.pass ⟨36, rfl, .inl ⟨_, rfl, rfl⟩⟩ rfl rfl ?_
                refine AOps.step rfl rfl rfl (AOp.pickF rfl rfl rfl) ?_
                refine AOps.step rfl rfl rfl (AOp.moveD rfl rfl) ?_
                refine AOps.pass ⟨44, rfl, .inl ⟨_, rfl, rfl⟩⟩ rfl rfl ?_
                refine AOps.pass ⟨44, rfl, .inl ⟨_, rfl, rfl⟩⟩ rfl rfl ?_
                refine AOps.step rfl rfl rfl (AOp.pickF rfl rfl rfl) ?_
                refine AOps.nil ?_
                refine AWP.cond rfl (fun h => nomatch h) (fun _ => ?_)
                refine AWP.skip ?_
                refine AWP.region ?_
                refine AOps.step rfl rfl rfl (AOp.add64 rfl rfl rfl (by omega) (by omega)) ?_
                refine AOps.step rfl rfl rfl (AOp.moveD rfl rfl) ?_
                refine AOps.nil ?_
                refine ⟨k + 1, ⟨by omega, all_nx hlt hk.2 (nameB_iff.2 (by omega))⟩, (by dsimp only; omega), Sub.less ⟨(SLe.of_eq rfl), SLe.refl _, SLe.refl _, trivial⟩ (fun _ h => h)⟩
          · replace h5 := of_decide_eq_false h5
            have HR := nm_ok (s := s) (by omega) hhd (all_end (by omega) hk.2)
            refine AWP.exit ?_
            refine AWP.seq ?_
            refine AWP.region ?_
            refine AOps.step rfl rfl rfl (AOp.assignD rfl rfl) ?_
            refine AOps.nil ?_
            refine AWP.ret ?_
            refine ⟨RetD.eq rfl ?_, trivial⟩
            all_goals (first | rw [HR] | rw [nm_ch hlt (fun hc => by have := nameB_iff.1 hc; omega)])

set_option maxRecDepth 100000 in
set_option maxHeartbeats 1000000 in
theorem c_pTitle (s : ByteArray) (hs : s.size ≤ 9223372036854775807) : ACallT Tryd.prog MaxT 56 [.v (.string s)] (.v (.bool (titleOk s))) := by
  refine acall_ofT (n := 45) (ds' := [.v (.bool (titleOk s))]) Tryd.func56 rfl (by kernel_rfl) rfl [2] rfl rfl ?_
  intro B w0 F0 hT
  have hsz := Lib.size_eq s
  refine AWP.seq ?_
  refine AWP.region ?_
  refine AOps.step rfl rfl rfl (AOp.assignD rfl rfl) ?_
  refine AOps.nil ?_
  refine AWP.seq ?_
  refine AWP.seq ?_
  refine AWP.region ?_
  refine AOps.step rfl rfl rfl (AOp.moveD rfl rfl) ?_
  refine AOps.step rfl rfl rfl (AOp.lenStr rfl st_9 rfl) ?_
  refine AOps.step rfl rfl rfl (AOp.lss rfl rfl rfl) ?_
  refine AOps.step rfl rfl rfl (AOp.moveD rfl rfl) ?_
  refine AOps.split 7 rfl (fun g1 => ?_) (fun g1 => ?_)
  · replace g1 := of_decide_eq_true g1
    have HR : titleOk s = false := tt_no (fun hh => by omega)
    refine AOps.pass ⟨7, rfl, .inl ⟨_, rfl, rfl⟩⟩ rfl rfl ?_
    refine AOps.pass ⟨7, rfl, .inl ⟨_, rfl, rfl⟩⟩ rfl rfl ?_
    refine AOps.pass ⟨7, rfl, .inl ⟨_, rfl, rfl⟩⟩ rfl rfl ?_
    refine AOps.step rfl rfl rfl (AOp.pickT rfl rfl rfl) ?_
    refine AOps.step rfl rfl rfl (AOp.moveD rfl rfl) ?_
    refine AOps.pass ⟨12, rfl, .inl ⟨_, rfl, rfl⟩⟩ rfl rfl ?_
    refine AOps.pass ⟨12, rfl, .inl ⟨_, rfl, rfl⟩⟩ rfl rfl ?_
    refine AOps.pass ⟨12, rfl, .inl ⟨_, rfl, rfl⟩⟩ rfl rfl ?_
    refine AOps.step rfl rfl rfl (AOp.pickT rfl rfl rfl) ?_
    refine AOps.step rfl rfl rfl (AOp.moveD rfl rfl) ?_
    refine AOps.pass ⟨17, rfl, .inl ⟨_, rfl, rfl⟩⟩ rfl rfl ?_
    refine AOps.pass ⟨17, rfl, .inl ⟨_, rfl, rfl⟩⟩ rfl rfl ?_
    refine AOps.pass ⟨17, rfl, .inl ⟨_, rfl, rfl⟩⟩ rfl rfl ?_
    refine AOps.pass ⟨17, rfl, .inl ⟨_, rfl, rfl⟩⟩ rfl rfl ?_
    refine AOps.pass ⟨17, rfl, .inl ⟨_, rfl, rfl⟩⟩ rfl rfl ?_
    refine AOps.pass ⟨17, rfl, .inl ⟨_, rfl, rfl⟩⟩ rfl rfl ?_
    refine AOps.step rfl rfl rfl (AOp.pickT rfl rfl rfl) ?_
    refine AOps.step rfl rfl rfl (AOp.moveD rfl rfl) ?_
    refine AOps.pass ⟨25, rfl, .inl ⟨_, rfl, rfl⟩⟩ rfl rfl ?_
    refine AOps.pass ⟨25, rfl, .inl ⟨_, rfl, rfl⟩⟩ rfl rfl ?_
    refine AOps.step rfl rfl rfl (AOp.pickT rfl rfl rfl) ?_
    refine AOps.nil ?_
    refine AWP.cond rfl (fun _ => ?_) (fun h => nomatch h)
    refine AWP.seq ?_
    refine AWP.region ?_
    refine AOps.step rfl rfl rfl (AOp.assignD rfl rfl) ?_
    refine AOps.nil ?_
    refine AWP.ret ?_
    refine ⟨RetD.eq rfl ?_, trivial⟩
    all_goals (first | rw [HR] | rw [show titleOk s = false from tt_no (fun hh => by rw [all_hit hlt (fun hc => by have := prB_iff.1 hc; omega)] at hh; exact absurd hh.2.2.2.2.2 (by decide))])
  · replace g1 := of_decide_eq_false g1
    have hp : 0 < s.size := by omega
    refine AOps.step ⟨7, rfl, .inl ⟨_, rfl, rfl⟩⟩ rfl rfl (AOp.moveD rfl rfl) ?_
    refine AOps.step ⟨7, rfl, .inl ⟨_, rfl, rfl⟩⟩ rfl rfl (AOp.lenStr rfl st_9 rfl) ?_
    refine AOps.step ⟨7, rfl, .inl ⟨_, rfl, rfl⟩⟩ rfl rfl (AOp.gtr rfl rfl rfl) ?_
    refine AOps.step rfl rfl rfl (AOp.pickF rfl rfl rfl) ?_
    refine AOps.step rfl rfl rfl (AOp.moveD rfl rfl) ?_
    refine AOps.split 12 rfl (fun g2 => ?_) (fun g2 => ?_)
    · replace g2 := of_decide_eq_true g2
      have HR : titleOk s = false := tt_no (fun hh => by omega)
      refine AOps.pass ⟨12, rfl, .inl ⟨_, rfl, rfl⟩⟩ rfl rfl ?_
      refine AOps.pass ⟨12, rfl, .inl ⟨_, rfl, rfl⟩⟩ rfl rfl ?_
      refine AOps.pass ⟨12, rfl, .inl ⟨_, rfl, rfl⟩⟩ rfl rfl ?_
      refine AOps.step rfl rfl rfl (AOp.pickT rfl rfl rfl) ?_
      refine AOps.step rfl rfl rfl (AOp.moveD rfl rfl) ?_
      refine AOps.pass ⟨17, rfl, .inl ⟨_, rfl, rfl⟩⟩ rfl rfl ?_
      refine AOps.pass ⟨17, rfl, .inl ⟨_, rfl, rfl⟩⟩ rfl rfl ?_
      refine AOps.pass ⟨17, rfl, .inl ⟨_, rfl, rfl⟩⟩ rfl rfl ?_
      refine AOps.pass ⟨17, rfl, .inl ⟨_, rfl, rfl⟩⟩ rfl rfl ?_
      refine AOps.pass ⟨17, rfl, .inl ⟨_, rfl, rfl⟩⟩ rfl rfl ?_
      refine AOps.pass ⟨17, rfl, .inl ⟨_, rfl, rfl⟩⟩ rfl rfl ?_
      refine AOps.step rfl rfl rfl (AOp.pickT rfl rfl rfl) ?_
      refine AOps.step rfl rfl rfl (AOp.moveD rfl rfl) ?_
      refine AOps.pass ⟨25, rfl, .inl ⟨_, rfl, rfl⟩⟩ rfl rfl ?_
      refine AOps.pass ⟨25, rfl, .inl ⟨_, rfl, rfl⟩⟩ rfl rfl ?_
      refine AOps.step rfl rfl rfl (AOp.pickT rfl rfl rfl) ?_
      refine AOps.nil ?_
      refine AWP.cond rfl (fun _ => ?_) (fun h => nomatch h)
      refine AWP.seq ?_
      refine AWP.region ?_
      refine AOps.step rfl rfl rfl (AOp.assignD rfl rfl) ?_
      refine AOps.nil ?_
      refine AWP.ret ?_
      refine ⟨RetD.eq rfl ?_, trivial⟩
      all_goals (first | rw [HR] | rw [show titleOk s = false from tt_no (fun hh => by rw [all_hit hlt (fun hc => by have := prB_iff.1 hc; omega)] at hh; exact absurd hh.2.2.2.2.2 (by decide))])
    · replace g2 := of_decide_eq_false g2
      have hq : s.size ≤ 100 := by omega
      refine AOps.step ⟨12, rfl, .inl ⟨_, rfl, rfl⟩⟩ rfl rfl (AOp.moveD rfl rfl) ?_
      refine AOps.step ⟨12, rfl, .inl ⟨_, rfl, rfl⟩⟩ rfl rfl (AOp.indexStr rfl st_9 rfl rfl 0 rfl (at0_ba (by omega))) ?_
      refine AOps.step ⟨12, rfl, .inl ⟨_, rfl, rfl⟩⟩ rfl rfl (AOp.eql rfl rfl rfl) ?_
      refine AOps.step rfl rfl rfl (AOp.pickF rfl rfl rfl) ?_
      refine AOps.step rfl rfl rfl (AOp.moveD rfl rfl) ?_
      refine AOps.split 17 rfl (fun g3 => ?_) (fun g3 => ?_)
      · replace g3 := of_decide_eq_true g3
        have HR : titleOk s = false := tt_no (fun hh => hh.2.2.1 (u32' g3))
        refine AOps.pass ⟨17, rfl, .inl ⟨_, rfl, rfl⟩⟩ rfl rfl ?_
        refine AOps.pass ⟨17, rfl, .inl ⟨_, rfl, rfl⟩⟩ rfl rfl ?_
        refine AOps.pass ⟨17, rfl, .inl ⟨_, rfl, rfl⟩⟩ rfl rfl ?_
        refine AOps.pass ⟨17, rfl, .inl ⟨_, rfl, rfl⟩⟩ rfl rfl ?_
        refine AOps.pass ⟨17, rfl, .inl ⟨_, rfl, rfl⟩⟩ rfl rfl ?_
        refine AOps.pass ⟨17, rfl, .inl ⟨_, rfl, rfl⟩⟩ rfl rfl ?_
        refine AOps.step rfl rfl rfl (AOp.pickT rfl rfl rfl) ?_
        refine AOps.step rfl rfl rfl (AOp.moveD rfl rfl) ?_
        refine AOps.pass ⟨25, rfl, .inl ⟨_, rfl, rfl⟩⟩ rfl rfl ?_
        refine AOps.pass ⟨25, rfl, .inl ⟨_, rfl, rfl⟩⟩ rfl rfl ?_
        refine AOps.step rfl rfl rfl (AOp.pickT rfl rfl rfl) ?_
        refine AOps.nil ?_
        refine AWP.cond rfl (fun _ => ?_) (fun h => nomatch h)
        refine AWP.seq ?_
        refine AWP.region ?_
        refine AOps.step rfl rfl rfl (AOp.assignD rfl rfl) ?_
        refine AOps.nil ?_
        refine AWP.ret ?_
        refine ⟨RetD.eq rfl ?_, trivial⟩
        all_goals (first | rw [HR] | rw [show titleOk s = false from tt_no (fun hh => by rw [all_hit hlt (fun hc => by have := prB_iff.1 hc; omega)] at hh; exact absurd hh.2.2.2.2.2 (by decide))])
      · replace g3 := of_decide_eq_false g3
        have hf := u32n g3
        refine AOps.step ⟨17, rfl, .inl ⟨_, rfl, rfl⟩⟩ rfl rfl (AOp.moveD rfl rfl) ?_
        refine AOps.step ⟨17, rfl, .inl ⟨_, rfl, rfl⟩⟩ rfl rfl (AOp.moveD rfl rfl) ?_
        refine AOps.step ⟨17, rfl, .inl ⟨_, rfl, rfl⟩⟩ rfl rfl (AOp.lenStr rfl st_9 rfl) ?_
        refine AOps.step ⟨17, rfl, .inl ⟨_, rfl, rfl⟩⟩ rfl rfl (AOp.sub64 rfl rfl rfl (by omega) (by omega)) ?_
        refine AOps.step ⟨17, rfl, .inl ⟨_, rfl, rfl⟩⟩ rfl rfl (AOp.indexStr rfl st_9 rfl rfl (s.data.toList.length - 1) (by omega) (at0_ba (by omega))) ?_
        refine AOps.step ⟨17, rfl, .inl ⟨_, rfl, rfl⟩⟩ rfl rfl (AOp.eql rfl rfl rfl) ?_
        refine AOps.step rfl rfl rfl (AOp.pickF rfl rfl rfl) ?_
        refine AOps.step rfl rfl rfl (AOp.moveD rfl rfl) ?_
        refine AOps.split 25 rfl (fun g4 => ?_) (fun g4 => ?_)
        · replace g4 := of_decide_eq_true g4
          have HR : titleOk s = false := tt_no (fun hh => hh.2.2.2.1 (u32' g4))
          refine AOps.pass ⟨25, rfl, .inl ⟨_, rfl, rfl⟩⟩ rfl rfl ?_
          refine AOps.pass ⟨25, rfl, .inl ⟨_, rfl, rfl⟩⟩ rfl rfl ?_
          refine AOps.step rfl rfl rfl (AOp.pickT rfl rfl rfl) ?_
          refine AOps.nil ?_
          refine AWP.cond rfl (fun _ => ?_) (fun h => nomatch h)
          refine AWP.seq ?_
          refine AWP.region ?_
          refine AOps.step rfl rfl rfl (AOp.assignD rfl rfl) ?_
          refine AOps.nil ?_
          refine AWP.ret ?_
          refine ⟨RetD.eq rfl ?_, trivial⟩
          all_goals (first | rw [HR] | rw [show titleOk s = false from tt_no (fun hh => by rw [all_hit hlt (fun hc => by have := prB_iff.1 hc; omega)] at hh; exact absurd hh.2.2.2.2.2 (by decide))])
        · replace g4 := of_decide_eq_false g4
          have hl := u32n g4
          refine AOps.step ⟨25, rfl, .inl ⟨_, rfl, rfl⟩⟩ rfl rfl (AOp.moveD rfl rfl) ?_
          -- wants the world
          refine AOps.callT ⟨25, rfl, .inl ⟨_, rfl, rfl⟩⟩ rfl rfl hT maxT_stays rfl (.cons (ArgOk.rfl' rfl) (.cons (ArgOk.rfl' rfl) .nil)) (c_contains2 s hq) ?_
          refine AOps.step rfl rfl rfl (AOp.pickF rfl rfl rfl) ?_
          refine AOps.nil ?_
          refine AWP.cond rfl (fun h5 => ?_) (fun h5 => ?_)
          · skip
            have HR : titleOk s = false := tt_no (fun hh => by rw [hh.2.2.2.2.1] at h5; cases h5)
            refine AWP.seq ?_
            refine AWP.region ?_
            refine AOps.step rfl rfl rfl (AOp.assignD rfl rfl) ?_
            refine AOps.nil ?_
            refine AWP.ret ?_
            refine ⟨RetD.eq rfl ?_, trivial⟩
            all_goals (first | rw [HR] | rw [show titleOk s = false from tt_no (fun hh => by rw [all_hit hlt (fun hc => by have := prB_iff.1 hc; omega)] at hh; exact absurd hh.2.2.2.2.2 (by decide))])
          · skip
            have hcn := h5
            refine AWP.skip ?_
            refine AWP.seq ?_
            refine AWP.seq ?_
            refine AWP.region ?_
            refine AOps.step rfl rfl rfl (AOp.moveD rfl rfl) ?_
            refine AOps.step rfl rfl rfl (AOp.lenStr rfl st_9 rfl) ?_
            refine AOps.step rfl rfl rfl (AOp.moveD rfl rfl) ?_
            refine AOps.nil ?_
            refine AWP.block ?_
            refine AWP.loop (G := Nat) (fun k => Env.of [(31, .d (.v (.int .i64 (k : Int)))), (30, .d (.v (.int .i64 (s.size : Int)))), (0, .d (.v (.string s)))]) (fun k => []) (fun k => k ≤ s.size ∧ ∀ c ∈ s.data.toList.take k, prB c = true) (fun k => s.size - k) 0 ⟨Nat.zero_le _, fun c h => by simp at h⟩ (Sub.less ⟨(SLe.of_eq rfl), SLe.refl _, SLe.refl _, trivial⟩ (fun _ h => h)) ?_
            intro k hk
            refine AWP.seq ?_
            refine AWP.region ?_
            refine AOps.step rfl rfl rfl (AOp.lss rfl rfl rfl) ?_
            refine AOps.nil ?_
            refine AWP.seq ?_
            refine AWP.cond rfl (fun h6 => ?_) (fun h6 => ?_)
            · replace h6 := of_decide_eq_true h6
              have hlt : k < s.data.toList.length := by omega
              refine AWP.skip ?_
              refine AWP.seq ?_
              refine AWP.block ?_
              refine AWP.seq ?_
              refine AWP.region ?_
              refine AOps.step rfl rfl rfl (AOp.moveD rfl rfl) ?_
              refine AOps.step rfl rfl rfl (AOp.assignD rfl rfl) ?_
              refine AOps.nil ?_
              refine AWP.seq ?_
              refine AWP.region ?_
              refine AOps.step rfl rfl rfl (AOp.moveD rfl rfl) ?_
              refine AOps.step rfl rfl rfl (AOp.moveD rfl rfl) ?_
              refine AOps.step rfl rfl rfl (AOp.indexStr rfl st_9 rfl rfl k rfl (at0_ba hlt)) ?_
              refine AOps.step rfl rfl rfl (AOp.lss rfl rfl rfl) ?_
              refine AOps.step rfl rfl rfl (AOp.moveD rfl rfl) ?_
              refine AOps.split 38 rfl (fun g7 => ?_) (fun g7 => ?_)
              · replace g7 := of_decide_eq_true g7
                refine AOps.pass ⟨38, rfl, .inl ⟨_, rfl, rfl⟩⟩ rfl rfl ?_
                refine AOps.pass ⟨38, rfl, .inl ⟨_, rfl, rfl⟩⟩ rfl rfl ?_
                refine AOps.pass ⟨38, rfl, .inl ⟨_, rfl, rfl⟩⟩ rfl rfl ?_
                refine AOps.pass ⟨38, rfl, .inl ⟨_, rfl, rfl⟩⟩ rfl rfl ?_
                refine AOps.step rfl rfl rfl (AOp.pickT rfl rfl rfl) ?_
                refine AOps.nil ?_
                refine AWP.cond rfl (fun _ => ?_) (fun h => nomatch h)
                refine AWP.seq ?_
                refine AWP.region ?_
                refine AOps.step rfl rfl rfl (AOp.assignD rfl rfl) ?_
                refine AOps.nil ?_
                refine AWP.ret ?_
                refine ⟨RetD.eq rfl ?_, trivial⟩
                all_goals (first | rw [HR] | rw [show titleOk s = false from tt_no (fun hh => by rw [all_hit hlt (fun hc => by have := prB_iff.1 hc; omega)] at hh; exact absurd hh.2.2.2.2.2 (by decide))])
              · replace g7 := of_decide_eq_false g7
                refine AOps.step ⟨38, rfl, .inl ⟨_, rfl, rfl⟩⟩ rfl rfl (AOp.moveD rfl rfl) ?_
                refine AOps.step ⟨38, rfl, .inl ⟨_, rfl, rfl⟩⟩ rfl rfl (AOp.moveD rfl rfl) ?_
                refine AOps.step ⟨38, rfl, .inl ⟨_, rfl, rfl⟩⟩ rfl rfl (AOp.indexStr rfl st_9 rfl rfl k rfl (at0_ba hlt)) ?_
                refine AOps.step ⟨38, rfl, .inl ⟨_, rfl, rfl⟩⟩ rfl rfl (AOp.gtr rfl rfl rfl) ?_
                refine AOps.step rfl rfl rfl (AOp.pickF rfl rfl rfl) ?_
                refine AOps.nil ?_
                refine AWP.cond rfl (fun h8 => ?_) (fun h8 => ?_)
                · replace h8 := of_decide_eq_true h8
                  refine AWP.seq ?_
                  refine AWP.region ?_
                  refine AOps.step rfl rfl rfl (AOp.assignD rfl rfl) ?_
                  refine AOps.nil ?_
                  refine AWP.ret ?_
                  refine ⟨RetD.eq rfl ?_, trivial⟩
                  all_goals (first | rw [HR] | rw [show titleOk s = false from tt_no (fun hh => by rw [all_hit hlt (fun hc => by have := prB_iff.1 hc; omega)] at hh; exact absurd hh.2.2.2.2.2 (by decide))])
                · replace h8 := of_decide_eq_false h8
                  refine AWP.skip ?_
                  refine AWP.region ?_
                  refine AOps.step rfl rfl rfl (AOp.add64 rfl rfl rfl (by omega) (by omega)) ?_
                  refine AOps.step rfl rfl rfl (AOp.moveD rfl rfl) ?_
                  refine AOps.nil ?_
                  refine ⟨k + 1, ⟨by omega, all_nx hlt hk.2 (prB_iff.2 (by omega))⟩, (by dsimp only; omega), Sub.less ⟨(SLe.of_eq rfl), SLe.refl _, SLe.refl _, trivial⟩ (fun _ h => h)⟩
            · replace h6 := of_decide_eq_false h6
              have HR : titleOk s = true := tt_yes (by omega) (by omega) hf hl hcn (all_end (by omega) hk.2)
              refine AWP.exit ?_
              refine AWP.seq ?_
              refine AWP.region ?_
              refine AOps.step rfl rfl rfl (AOp.assignD rfl rfl) ?_
              refine AOps.nil ?_
              refine AWP.ret ?_
              refine ⟨RetD.eq rfl ?_, trivial⟩
              all_goals (first | rw [HR] | rw [show titleOk s = false from tt_no (fun hh => by rw [all_hit hlt (fun hc => by have := prB_iff.1 hc; omega)] at hh; exact absurd hh.2.2.2.2.2 (by decide))])

set_option maxRecDepth 100000 in
set_option maxHeartbeats 1000000 in
theorem c_pIn (n a b : Int) : ACall Tryd.prog 22 [.v (.int .i64 n), .v (.int .i64 a), .v (.int .i64 b)] (.v (.bool (decide (a ≤ n ∧ n ≤ b)))) := by
  refine acall_of (n := 15) (ds' := [.v (.bool (decide (a ≤ n ∧ n ≤ b)))]) Tryd.func22 rfl (by kernel_rfl) rfl [6] rfl rfl ?_
  intro B w0 F0 fr
  refine AWP.seq ?_
  refine AWP.region ?_
  refine AOps.step rfl rfl rfl (AOp.assignD rfl rfl) ?_
  refine AOps.nil ?_
  refine AWP.seq ?_
  refine AWP.region ?_
  refine AOps.step rfl rfl rfl (AOp.moveD rfl rfl) ?_
  refine AOps.step rfl rfl rfl (AOp.moveD rfl rfl) ?_
  refine AOps.step rfl rfl rfl (AOp.geq rfl rfl rfl) ?_
  refine AOps.step rfl rfl rfl (AOp.moveD rfl rfl) ?_
  refine AOps.split 10 rfl (fun g1 => ?_) (fun g1 => ?_)
  · replace g1 := of_decide_eq_true g1
    refine AOps.step ⟨10, rfl, .inl ⟨_, rfl, rfl⟩⟩ rfl rfl (AOp.moveD rfl rfl) ?_
    refine AOps.step ⟨10, rfl, .inl ⟨_, rfl, rfl⟩⟩ rfl rfl (AOp.moveD rfl rfl) ?_
    refine AOps.step ⟨10, rfl, .inl ⟨_, rfl, rfl⟩⟩ rfl rfl (AOp.leq rfl rfl rfl) ?_
    refine AOps.step rfl rfl rfl (AOp.pickT rfl rfl rfl) ?_
    refine AOps.step rfl rfl rfl (AOp.assignD rfl rfl) ?_
    refine AOps.nil ?_
    refine AWP.ret ?_
    refine ⟨RetD.eq rfl ?_, trivial⟩
    all_goals (simp; omega)
  · replace g1 := of_decide_eq_false g1
    refine AOps.pass ⟨10, rfl, .inl ⟨_, rfl, rfl⟩⟩ rfl rfl ?_
    refine AOps.pass ⟨10, rfl, .inl ⟨_, rfl, rfl⟩⟩ rfl rfl ?_
    refine AOps.pass ⟨10, rfl, .inl ⟨_, rfl, rfl⟩⟩ rfl rfl ?_
    refine AOps.step rfl rfl rfl (AOp.pickF rfl rfl rfl) ?_
    refine AOps.step rfl rfl rfl (AOp.assignD rfl rfl) ?_
    refine AOps.nil ?_
    refine AWP.ret ?_
    refine ⟨RetD.eq rfl ?_, trivial⟩
    all_goals (simp; omega)

set_option maxRecDepth 100000 in
set_option maxHeartbeats 1000000 in
theorem c_rIn (n a b : Int) : ACall Tryd.prog 27 [.v (.int .i64 n), .v (.int .i64 a), .v (.int .i64 b)] (.v (.bool (decide (a ≤ n ∧ n ≤ b)))) := by
  refine acall_of (n := 15) (ds' := [.v (.bool (decide (a ≤ n ∧ n ≤ b)))]) Tryd.func27 rfl (by kernel_rfl) rfl [6] rfl rfl ?_
  intro B w0 F0 fr
  refine AWP.seq ?_
  refine AWP.region ?_
  refine AOps.step rfl rfl rfl (AOp.assignD rfl rfl) ?_
  refine AOps.nil ?_
  refine AWP.seq ?_
  refine AWP.region ?_
  refine AOps.step rfl rfl rfl (AOp.moveD rfl rfl) ?_
  refine AOps.step rfl rfl rfl (AOp.moveD rfl rfl) ?_
  refine AOps.step rfl rfl rfl (AOp.leq rfl rfl rfl) ?_
  refine AOps.step rfl rfl rfl (AOp.moveD rfl rfl) ?_
  refine AOps.split 10 rfl (fun g1 => ?_) (fun g1 => ?_)
  · replace g1 := of_decide_eq_true g1
    refine AOps.step ⟨10, rfl, .inl ⟨_, rfl, rfl⟩⟩ rfl rfl (AOp.moveD rfl rfl) ?_
    refine AOps.step ⟨10, rfl, .inl ⟨_, rfl, rfl⟩⟩ rfl rfl (AOp.moveD rfl rfl) ?_
    refine AOps.step ⟨10, rfl, .inl ⟨_, rfl, rfl⟩⟩ rfl rfl (AOp.leq rfl rfl rfl) ?_
    refine AOps.step rfl rfl rfl (AOp.pickT rfl rfl rfl) ?_
    refine AOps.step rfl rfl rfl (AOp.assignD rfl rfl) ?_
    refine AOps.nil ?_
    refine AWP.ret ?_
    refine ⟨RetD.eq rfl ?_, trivial⟩
    all_goals (simp; omega)
  · replace g1 := of_decide_eq_false g1
    refine AOps.pass ⟨10, rfl, .inl ⟨_, rfl, rfl⟩⟩ rfl rfl ?_
    refine AOps.pass ⟨10, rfl, .inl ⟨_, rfl, rfl⟩⟩ rfl rfl ?_
    refine AOps.pass ⟨10, rfl, .inl ⟨_, rfl, rfl⟩⟩ rfl rfl ?_
    refine AOps.step rfl rfl rfl (AOp.pickF rfl rfl rfl) ?_
    refine AOps.step rfl rfl rfl (AOp.assignD rfl rfl) ?_
    refine AOps.nil ?_
    refine AWP.ret ?_
    refine ⟨RetD.eq rfl ?_, trivial⟩
    all_goals (simp; omega)

end Go.Proofs.YtekenfknoakboaaDoor


namespace Go.Proofs.YtekenfknoakboaaDoor
open Go.RowKit
set_option linter.unusedVariables false

/-- A new own object that is told by a value. -/
theorem R0.newOb {cx : Cx} {F : Nat → Prop} {ρ : Nat → Value} {e : Env} {σ : Obs} {a : Act} {w w' : World} (hr : R0 cx F ρ e σ a w) {id dst : Nat} {ob : Ob} {v : Value} (hid : ∀ p ∈ σ, p.1 ≠ id) (hd : dst < cx.N) (hbel : Below w.heap.size w w')
    (hob : ObOk cx.B F (fun j => if j = id then v else ρ j) w' id ob) (hnew : ∀ g, blk v = some g → w.heap.size ≤ g) (hfx : cx.free id = true) :
    ∃ ρ', R0 cx F ρ' ((e.kill id).put (some dst) (.own id)) ((id, ob) :: Obs.kill id σ) (a.put (some dst) v) w' := by
  refine ⟨fun j => if j = id then v else ρ j, ?_⟩
  have hE : Ext F w F w' := Ext.of_below hr.lt hbel
  have h2 := hr.turn (ρ' := fun j => if j = id then v else ρ j) (id := id) (ob := ob) (row := none) (w' := w') (F' := F) (fun j hj => by simp [hj])
    ⟨hE.below.os, hE.below.tape, hE.below.output, hE.below.size, fun k hk _ => hE.below.block k hk⟩ hfx (fun g hg => by simp at hg) (fun b hb => hb) (fun b hb => .inl hb) hE.lt hob
    (fun g hg => by rw [if_pos rfl] at hg; exact .inr (hnew g hg)) ((id, ob) :: Obs.kill id σ) (fun p hp => by
      cases hp with
      | head => exact .inl rfl
      | tail _ hp => obtain ⟨q, hq, rfl⟩ := Obs.mem_kill hp; exact .inr ⟨q, hq, hid q hq, rfl⟩)
  exact h2.put (o := ⟨some dst, .ready 0, 0, "", #[], none⟩) (v := v) (s := .own id) (Ext.refl h2.lt) (by
      have := RepS.own (F := F) (ρ := fun j => if j = id then v else ρ j) (w := w') id
      simpa using this) (by simpa [DstOk, Nat.blt_eq] using hd)

/-- The type of bytes. -/
structure U8T (P : Program) (t : TypeId) : Prop where
  hu : P.underlying t = some (.int .u8)
def at0' (l : List UInt8) (i : Nat) : UInt8 := l.getD i 0
section
variable {cx : Cx} {ops : Array Oper} {o : Oper} {rest : List Oper} {e : Env} {σ : Obs} {Q : Post}
/-- []byte(s). -/
theorem AOps.bytesOf {s t el dst : Nat} {x : Operand} {b : ByteArray} (id : Nat) (hg : o.guard = none) (ht : o.dst = some dst) (hdn : Nat.blt dst cx.N = true) (ho : o.op = .convert s t x) (hs : cx.P.underlying s = some .string) (hd : cx.P.underlying t = some (.slice el)) (he : cx.P.underlying el = some (.int .u8))
    (hx : e.ev x = .d (.v (.string b))) (hlen : b.size ≤ 281474976710656) (hid : Obs.fresh id σ = true)
    (k : AOps cx ops rest ((e.kill id).put (some dst) (.own id)) ((id, .bts b.data.toList) :: Obs.kill id σ) Q) (hfx : cx.free id = true := by rfl) : AOps cx ops (o :: rest) e σ Q := by
  intro a w ⟨F, ρ, hr⟩
  have hdn' : dst < cx.N := by simpa [Nat.blt_eq] using hdn
  have r1 := ev_rep (e := e) (x := x) (a := a) (fun t _ => hr.env t)
  rw [hx] at r1
  have hrun := Lib.run_convert_string_bytes w s t el b hs hd he
  have hsz : b.data.toList.length = b.size := (Lib.size_eq b).symm
  have hbel : Below w.heap.size w (Lib.bytesWorld w el b) := ⟨rfl, rfl, rfl, by rw [Lib.bytesWorld_size]; omega, fun j hj => Lib.bytesWorld_at_old w el b j hj⟩
  have hC : BtsC b.data.toList (grownCap w b.size 0 el) (Lib.bytesCells w el b) ((Lib.bytesCells w el b).size, (Lib.bytesCells w el b).size + 1) := by
    refine ⟨?_, by rw [hsz]; exact grownCap_ge _ _ _ _, grownCap_le_maxLen _ _ _ _ (by unfold maxLen; omega), fun j hj => ?_⟩
    · show _ ≤ (Lib.bytesCells w el b).size
      unfold Lib.bytesCells
      rw [Array.size_append, Array.size_map, hsz]
      exact Nat.le_add_right _ _
    · unfold Lib.bytesCells
      rw [Array.getElem?_append_left (by rw [Array.size_map]; simpa using hj)]
      have hj' : j < b.data.size := by simpa using hj
      rw [Array.getElem?_map, Array.getElem?_eq_getElem hj']
      simp
  obtain ⟨ρ', h5⟩ := hr.newOb (ob := .bts b.data.toList) (v := .slice (some ⟨w.heap.size, 0, none⟩) b.size (grownCap w b.size 0 el)) (Obs.fresh_spec hid) hdn' hbel
    ⟨w.heap.size, el, _, _, _, by dsimp only; rw [if_pos rfl, hsz], hr.hB, fun hf => (by have := hr.lt _ hf; omega), Lib.bytesWorld_at_new w el b, hC⟩ (fun g hg => by simp [blk] at hg; omega) hfx
  refine wpList_plain hg fun K hK => ?_
  unfold Oper.wp execOp
  simp only [ho, repS_v r1, Sem.run_bind, hrun, Result.andThen_ok, Sem.run_pure]
  have := k _ _ ⟨F, ρ', h5⟩
  rw [← ht] at this
  exact hK _ _ this

/-- b[k] = c. -/
theorem EOp.storeBts {t id k : Nat} {x y : Operand} {l : List UInt8} {c : UInt8} (ht : o.dst = none) (ho : o.op = .store t x y) (hs : ∀ w, (sizeOf t).run cx.P w = .ok 1 w) (hx : e.ev x = .ptr id k) (hm : (id, Ob.bts l) ∈ σ)
    (hy : e.ev y = .d (.v (.int .u8 (c.toNat : Int)))) (hk : k < l.length) : EOp cx ops o e σ (Obs.upd id (.bts (l.set k c)) σ) := by
  intro F ρ a w e0 hr ha
  have hop : ∀ y ∈ o.op.operands.toList, RepS F ρ w (a.eval y) (e.ev y) := fun y hy => ev_rep fun t ht => ha t (looks_op (by rw [← ht]; exact hy))
  have r1 := hop x (by rw [ho]; simp [Op.operands])
  have r2 := hop y (by rw [ho]; simp [Op.operands])
  rw [hx] at r1
  rw [hy] at r2
  obtain ⟨g, ee, cap, cur, fz, hv, hB, hnF, hh, hC⟩ := hr.obs.ok _ hm
  dsimp only at hv
  have hblk : blk (ρ id) = some g := by rw [hv]; rfl
  have hxv := ptr_at r1 hblk
  have hyv := repS_v r2
  have hcell : w.cell? ⟨g, k, none⟩ = some (.int .u8 (l[k].toNat : Int)) := by rw [cell_of_row w g k cur ee fz hh]; exact hC.hcur k hk
  have hfr : w.frozen? ⟨g, k, none⟩ = false := by
    unfold World.frozen?
    rw [hh]
    have := hC.hfz
    simp
    omega
  have hst : (storeVar t ⟨g, k, none⟩ (.int .u8 (c.toNat : Int))).run cx.P w = .ok () (w.setCell ⟨g, k, none⟩ (.int .u8 (c.toNat : Int))) := by
    have hcs : (Value.int .u8 (c.toNat : Int)).cells = #[.int .u8 (c.toNat : Int)] := rfl
    unfold storeVar
    simp only [Sem.run_bind, hs w, Result.andThen_ok, hcs, List.size_toArray, List.length_cons, List.length_nil, Nat.zero_add, ne_eq, not_true_eq_false, if_false]
    simp only [storeCells, Sem.run_bind, addr_add, Nat.add_zero, run_store cx.P w _ _ _ (show (Value.int .u8 (c.toNat : Int)).oneCell' = true from rfl), hcell, hfr, Bool.false_eq_true, if_false, Result.andThen_ok]
    rfl
  have hturn := setCell_turn w g k (.int .u8 (c.toNat : Int))
  unfold Oper.wp execOp
  simp only [ho, Instr.storeAt, hxv, hyv, Instr.sureAddr, Sem.run_bind, Sem.run_pure, Result.andThen_ok, hst]
  refine ⟨by rw [ht]; rfl, fun e2 hr2 => ⟨F, ρ, ?_⟩⟩
  refine hr2.writeOb hblk hm hB hnF hturn ⟨g, ee, cap, cur.setIfInBounds k (.int .u8 (c.toNat : Int)), fz, by rw [List.length_set]; exact hv, hB, hnF, ?_, ⟨by rw [List.length_set]; exact hC.hfz, by rw [List.length_set]; exact hC.hcap, hC.hmax, fun j hj => ?_⟩⟩
  · unfold World.setCell
    simp [Array.getElem?_modify, hh]
  · rw [List.length_set] at hj
    rw [Array.getElem?_setIfInBounds]
    have hks : k < cur.size := (Array.getElem?_eq_some_iff.1 (hC.hcur k hk)).1
    by_cases h : k = j
    · subst h
      rw [if_pos rfl, if_pos hks]
      simp
    · rw [if_neg h, hC.hcur j hj]
      simp [h]
theorem AOps.storeBts {t id k : Nat} {x y : Operand} {l : List UInt8} {c : UInt8} (hg : o.guard = none) (ht : o.dst = none) (ho : o.op = .store t x y) (hs : ∀ w, (sizeOf t).run cx.P w = .ok 1 w) (hx : e.ev x = .ptr id k) (hm : (id, Ob.bts l) ∈ σ)
    (hy : e.ev y = .d (.v (.int .u8 (c.toNat : Int)))) (hk : k < l.length) (q : AOps cx ops rest e (Obs.upd id (.bts (l.set k c)) σ) Q) : AOps cx ops (o :: rest) e σ Q :=
  .eff hg ht (.storeBts ht ho hs hx hm hy hk) q

/-- The row is data from here on. -/
theorem R0.freezeBts {F : Nat → Prop} {ρ : Nat → Value} {a : Act} {w : World} (h : R0 cx F ρ e σ a w) {t id : Nat} {l : List UInt8} (ht : e t = .own id) (hm : (id, Ob.bts l) ∈ σ) :
    ∃ F', R0 cx F' ρ (e.put (some t) (.d (.sl (l.map u8D)))) (Obs.del id σ) a w := by
  have hF2 : ∀ b, (F b ∨ blk (ρ id) = some b) → b < w.heap.size := fun b hb => by
    rcases hb with hb | hb
    · exact h.lt b hb
    · exact ((h.obs.ok _ hm).blk_lt hb).2
  refine ⟨fun b => F b ∨ blk (ρ id) = some b, h.size, h.defers, hF2, fun b hb => .inl (h.base b hb), fun b hb => ?_, h.below, h.hB, fun u => ?_, ?_, h.up, fun p hp => h.kown p (Obs.mem_del hp).1, h.fixed⟩
  · rcases hb with hb | hb
    · exact h.new b hb
    · exact .inr (h.kown _ hm b hb)
  · by_cases hu : u = t
    · subst hu
      rw [Env.put_same]
      have h1 := h.env u
      rw [ht] at h1
      generalize a.tmps.getD u undef = x at h1
      cases h1
      obtain ⟨g, ee, cap, cur, fz, hv, hB, hnF, hh, hC⟩ := h.obs.ok _ hm
      dsimp only at hv
      have hl : (l.map u8D).length = l.length := List.length_map ..
      have hr : Rep (fun b => F b ∨ blk (ρ id) = some b) w (.slice (some ⟨g, 0, none⟩) (l.map u8D).length cap) (.sl (l.map u8D)) := by
        refine .sl ⟨g, 0, none⟩ cap 1 (l.map u8D) (fun i _ => .int .u8 ((at0' l i).toNat : Int)) (by rw [hl]; exact hC.hcap) hC.hmax (fun _ => .inr (by rw [hv]; rfl)) (fun i hi => by simp [u8D]) (fun i j hi hj => ?_) (fun _ _ _ _ => rfl) (fun i hi j hj => ?_)
        · rw [hl] at hi
          obtain rfl : j = 0 := by omega
          rw [addr_add, Nat.mul_one, Nat.add_zero, Nat.zero_add, cell_of_row w g i cur ee fz hh, hC.hcur i hi]
          simp [at0', List.getD_eq_getElem?_getD, List.getElem?_eq_getElem hi]
        · rw [hl] at hi
          simp only [List.getElem_map] at hj ⊢
          unfold u8D at hj ⊢
          obtain rfl : j = 0 := by simpa using hj
          simp only [List.getElem_cons_zero]
          rw [show at0' l i = l[i] by simp [at0', List.getD_eq_getElem?_getD, List.getElem?_eq_getElem hi]]
          exact .v _
      rw [hl, ← hv] at hr
      exact .d hr
    · rw [Env.put_other _ _ _ _ hu]
      exact RepS.turn (row := none) (h.env u) h.lt (fun g hg => by simp at hg) ⟨rfl, rfl, rfl, Nat.le_refl _, fun _ _ _ => rfl⟩ (fun b hb => .inl hb)
  · refine ⟨fun p hp => ?_, fun p hp q hq => h.obs.apart p (Obs.mem_del hp).1 q (Obs.mem_del hq).1, fun p hp q hq => h.obs.uniq p (Obs.mem_del hp).1 q (Obs.mem_del hq).1⟩
    obtain ⟨h1, h2⟩ := Obs.mem_del hp
    have h3 := h.obs.ok p h1
    have hne : ∀ g, blk (ρ p.1) = some g → blk (ρ id) ≠ some g := fun g hg => h.obs.apart p h1 _ hm h2 g hg
    exact h3.more h.lt (fun b hb => .inl hb) (fun g hg hf => by
      rcases hf with hf | hf
      · exact h3.nF hg hf
      · exact hne g hg hf)
theorem AOps.freezeBts (t : Nat) {id : Nat} {l : List UInt8} (ht : e t = .own id) (hm : (id, Ob.bts l) ∈ σ) (k : AOps cx ops rest (e.put (some t) (.d (.sl (l.map u8D)))) (Obs.del id σ) Q) : AOps cx ops rest e σ Q :=
  fun a w ⟨_, ρ, hr⟩ => by
    obtain ⟨F', h⟩ := hr.freezeBts ht hm
    exact k a w ⟨F', ρ, h⟩
theorem AWP.freezeBts {c : Code} (t : Nat) {id : Nat} {l : List UInt8} (ht : e t = .own id) (hm : (id, Ob.bts l) ∈ σ) (k : AWP cx c (e.put (some t) (.d (.sl (l.map u8D)))) (Obs.del id σ) Q) : AWP cx c e σ Q :=
  fun a w ⟨_, ρ, hr⟩ => by
    obtain ⟨F', h⟩ := hr.freezeBts ht hm
    exact k a w ⟨F', ρ, h⟩
end

section
variable {P : Program} {B : Nat} {ops : Array Oper} {o : Oper} {e : Env} {σ : Obs}
/-- The address of a byte of such a row. -/
theorem AOp.indexBts {t el : TypeId} {x ix : Operand} {bytes id : Nat} {z : Value} {n : Int} {l : List UInt8} (ho : o.op = .indexAddr t x ix) (T : ElemTy P t el 1 bytes z) (hx : e.ev x = .own id) (hi : e.ev ix = .d (.v (.int .i64 n)))
    (hm : (id, Ob.bts l) ∈ σ) (k : Nat) (hk : n = k) (hlt : k < l.length) : AOp P B ops o e σ (.ptr id k) :=
  .value fun F ρ w a hF hr hσ => by
  have h1 := hr x (by rw [ho]; simp [Op.operands])
  have h2 := hr ix (by rw [ho]; simp [Op.operands])
  rw [hx] at h1
  rw [hi] at h2
  have hv2 := repS_v h2
  obtain ⟨g, ee, cap, cur, fz, h7, _⟩ := hσ.ok _ hm
  dsimp only at h7
  have hv : a.eval x = ρ id := by generalize a.eval x = v at h1; cases h1; rfl
  refine ⟨.pointer (some ⟨g, k, none⟩), F, w, ?_, .ptr id _ g (by rw [h7]; rfl), Ext.refl hF⟩
  unfold execOp
  simp only [ho, hv, h7, hv2, hk]
  simp [Instr.indexAt, run_underlying T.ht, asIntOf, hlt, T.sizeOf, addr_add]
/-- b[k]. -/
theorem AOp.loadBts {t : TypeId} {x : Operand} {id k : Nat} {l : List UInt8} {c : UInt8} (ho : o.op = .load t x) (hT : Scal P t) (hx : e.ev x = .ptr id k) (hm : (id, Ob.bts l) ∈ σ) (hc : l[k]? = some c) :
    AOp P B ops o e σ (.d (.v (.int .u8 (c.toNat : Int)))) :=
  .value fun F ρ w a hF hr hσ => by
  have h1 := hr x (by rw [ho]; simp [Op.operands])
  rw [hx] at h1
  obtain ⟨g, ee, cap, cur, fz, h7, _, _, hh, hC⟩ := hσ.ok _ hm
  dsimp only at h7
  have hv := ptr_at h1 (g := g) (by rw [h7]; rfl)
  obtain ⟨hk, hk2⟩ := List.getElem?_eq_some_iff.1 hc
  have hcell : w.cell? ⟨g, k, none⟩ = some (.int .u8 (c.toNat : Int)) := by rw [cell_of_row w g k cur ee fz hh, hC.hcur k hk, hk2]
  refine ⟨_, F, w, ?_, .d (.v _), Ext.refl hF⟩
  unfold execOp
  simp only [ho, hv, Instr.loadAt, Instr.sureAddr, loadVar, Sem.run_bind, Sem.run_pure, Result.andThen_ok, hT w, Bool.false_eq_true, if_false, run_load, hcell]
end

section
variable {P : Program} {B : Nat} {ops : Array Oper} {o : Oper} {e : Env} {σ : Obs}
/-- A struct within a struct, loaded whole: the first cells of what lies there. -/
theorem AOp.loadAggT {t : TypeId} {x : Operand} {size : Nat} {ds : List D} (ho : o.op = .load t x) (hT : AggT P t size) (hx : e.ev x = .d (.fp ds)) (hl : size ≤ ds.length) : AOp P B ops o e σ (.d (.agg (ds.take size))) :=
  .value fun F ρ w a hF hr _ => by
  have h1 := hr x (by rw [ho]; simp [Op.operands])
  rw [hx] at h1
  have h2 := repS_d h1
  obtain ⟨ad, hv⟩ := rep_fp h2
  rw [hv] at h2
  cases h2 with
  | fp _ _ vs hF' hcell hone hrep =>
    have hl' : (loadCells ad ((List.range size).map vs).length).run P w = .ok ((List.range size).map vs).toArray w := run_loadCells_list w _ _ (fun j v hj => by
      have hjl := (List.getElem?_eq_some_iff.1 hj).1
      simp at hjl
      rw [hcell j (by omega), ← hj]
      simp [hjl])
    simp only [List.length_map, List.length_range] at hl'
    refine ⟨.agg ((List.range size).map vs).toArray, F, w, ?_, .d (.agg _ _ (by simp; omega) (fun i hi => ?_) (fun i hi hi2 => ?_)), Ext.refl hF⟩
    · unfold execOp
      simp only [ho, hv, Instr.loadAt, Instr.sureAddr, loadVar, Sem.run_bind, Sem.run_pure, Result.andThen_ok, hT.agg w, hT.size w, if_true, hl']
    · simp at hi ⊢
      exact hone i (by omega)
    · simp at hi hi2 ⊢
      exact hrep i (by omega)
end
end Go.Proofs.YtekenfknoakboaaDoor


namespace Go.Proofs.YtekenfknoakboaaDoor
open Go.RowKit
set_option linter.unusedVariables false

/-! Types. -/
namespace TyU3
theorem ag_94 : AggT Tryd.prog 94 3 := .of (by kernel_rfl)
theorem et_23 : ElemTy Tryd.prog 23 94 3 40 (.agg #[(.string ⟨#[]⟩), (.string ⟨#[]⟩), (.int .i64 0)]) := ⟨by kernel_rfl, by kernel_rfl, by kernel_rfl, by decide⟩
theorem et_63 : ElemTy Tryd.prog 63 3 1 8 (.int .i64 0) := ⟨by kernel_rfl, by kernel_rfl, by kernel_rfl, by decide⟩
theorem fo_94_0 : fieldOff Tryd.prog 94 0 = some 0 := by kernel_rfl
theorem fo_94_1 : fieldOff Tryd.prog 94 1 = some 1 := by kernel_rfl
theorem fo_94_2 : fieldOff Tryd.prog 94 2 = some 2 := by kernel_rfl
theorem sc_3 : Scal Tryd.prog 3 := .of (by kernel_rfl)
theorem sc_9 : Scal Tryd.prog 9 := .of (by kernel_rfl)
theorem sz_94 : ∀ w, (sizeOf 94).run Tryd.prog w = .ok 3 w := SizeT.of (by kernel_rfl)
theorem zt_94 : (Tryd.prog.info? 94).bind (·.zero) = some (.agg #[(.string ⟨#[]⟩), (.string ⟨#[]⟩), (.int .i64 0)]) := by kernel_rfl
end TyU3
open TyU3


open Go.Lib
theorem take_f {α : Type} {p : α → Bool} {l : List α} {k : Nat} (hk : k < l.length) (h : ∀ c ∈ l.take k, p c = false) (h2 : p l[k] = false) : ∀ c ∈ l.take (k + 1), p c = false := by
  intro c hc
  rw [List.take_add_one, List.getElem?_eq_getElem hk] at hc
  simp only [Option.toList_some, List.mem_append, List.mem_singleton] at hc
  rcases hc with h1 | h1
  · exact h c h1
  · rw [h1]; exact h2
def orI (l : List Int) : Int := (l.find? fun x => decide (x ≠ 0)).getD 0
theorem orI_yes {l : List Int} {k : Nat} (hk : k < l.length) (h : ∀ c ∈ l.take k, decide (c ≠ 0) = false) (h2 : l[k] ≠ 0) : orI l = l[k] := by
  unfold orI
  have e : l = l.take k ++ l[k] :: l.drop (k + 1) := by rw [← List.drop_eq_getElem_cons hk, List.take_append_drop]
  have h3 : (l.take k).find? (fun x => decide (x ≠ 0)) = none := List.find?_eq_none.2 fun x hx => by rw [h x hx]; simp
  have h4 : l.find? (fun x => decide (x ≠ 0)) = some l[k] := by
    have : (l.take k ++ l[k] :: l.drop (k + 1)).find? (fun x => decide (x ≠ 0)) = some l[k] := by
      rw [List.find?_append, h3, List.find?_cons, decide_eq_true h2]; rfl
    rw [← e] at this; exact this
  rw [h4]; rfl
theorem orI_no {l : List Int} (h : ∀ c ∈ l.take l.length, decide (c ≠ 0) = false) : orI l = 0 := by
  unfold orI
  rw [List.find?_eq_none.2 fun x hx => by rw [h x (by rw [List.take_length]; exact hx)]; simp]
  rfl

theorem orI_two (a b : Int) : orI [a, b] = if a = 0 then b else a := by
  by_cases h : a = 0
  · rw [if_pos h]
    by_cases h2 : b = 0 <;> simp [orI, h, h2]
  · rw [if_neg h]; simp [orI, h]
theorem orI_ali (a b : Ali) : orI [strCmp a.source b.source, strCmp a.title b.title] = aliCmp a b := by
  rw [orI_two]
  unfold aliCmp
  by_cases h : a.source = b.source
  · rw [if_pos (strCmp_zero.2 h), if_pos h]
  · rw [if_neg (fun hh => h (strCmp_zero.1 hh)), if_neg h]
theorem cmp_pos {a b : ByteArray} (h : slt b a = true) : 0 ≤ strCmp a b := by
  have : ¬ strCmp a b < 0 := fun hh => by
    have h2 := strCmp_lt.1 hh
    rw [show slt a b = false from less_asym _ _ h] at h2; cases h2
  omega
theorem cmp_neg {a b : ByteArray} (h : slt b a = false) (hne : ¬ b = a) : strCmp a b < 0 := strCmp_lt.2 (less_total _ _ h (fun e => hne (toList_inj.1 e)))
theorem ali_1 {a b : Ali} (h : slt b.source a.source = true) : 0 ≤ aliCmp a b := by
  have hne : ¬ a.source = b.source := fun e => by rw [e] at h; rw [show slt b.source b.source = false from less_irr _] at h; cases h
  unfold aliCmp; rw [if_neg hne]; exact cmp_pos h
theorem ali_2 {a b : Ali} (h : slt b.source a.source = false) (hne : ¬ b.source = a.source) : ¬ 0 ≤ aliCmp a b := by
  unfold aliCmp; rw [if_neg (fun e => hne e.symm)]
  have := cmp_neg h hne
  omega
theorem sle_cmp {a b : ByteArray} : sle b a = true ↔ 0 ≤ strCmp a b := by
  have h := slt_sle a b
  have h2 := @strCmp_lt a b
  cases hs : sle b a with
  | true => rw [hs] at h; rw [h] at h2; simp at h2; simpa using h2
  | false => rw [hs] at h; rw [h] at h2; simp at h2; simpa using h2
theorem ali_3 {a b : Ali} (h : b.source = a.source) : 0 ≤ aliCmp a b ↔ sle b.title a.title = true := by
  unfold aliCmp; rw [if_pos h.symm, sle_cmp]


set_option maxRecDepth 100000 in
set_option maxHeartbeats 1000000 in
theorem c_or (l : List Int) : ACall Tryd.prog 39 [.sl (l.map intD)] (.v (.int .i64 (orI l))) := by
  refine acall_of (n := 18) (ds' := [.v (.int .i64 (orI l))]) Tryd.func39 rfl (by kernel_rfl) rfl [2] rfl rfl ?_
  intro B w0 F0 fr
  refine AWP.bound 0 rfl (fun hbd0 => ?_)
  rw [List.length_map] at hbd0
  refine AWP.seq ?_
  refine AWP.region ?_
  refine AOps.step rfl rfl rfl (AOp.assignD rfl rfl) ?_
  refine AOps.nil ?_
  refine AWP.seq ?_
  refine AWP.region ?_
  refine AOps.step rfl rfl rfl (AOp.assignD rfl rfl) ?_
  refine AOps.nil ?_
  refine AWP.seq ?_
  refine AWP.seq ?_
  refine AWP.region ?_
  refine AOps.step rfl rfl rfl (AOp.moveD rfl rfl) ?_
  refine AOps.step rfl rfl rfl (AOp.lenSl rfl et_63.ht rfl) ?_
  refine AOps.step rfl rfl rfl (AOp.moveD rfl rfl) ?_
  refine AOps.nil ?_
  refine AWP.block ?_
  refine AWP.loop (G := Nat) (fun k => Env.of [(8, .d (.v (.int .i64 (k : Int)))), (6, .d (.sl (l.map intD))), (7, .d (.v (.int .i64 ((l.map intD).length : Int)))), (3, .d (.v (.int .i64 0)))]) (fun k => []) (fun k => k ≤ l.length ∧ ∀ c ∈ l.take k, decide (c ≠ 0) = false) (fun k => l.length - k) 0 ⟨Nat.zero_le _, fun c h => by simp at h⟩ (Sub.less ⟨(SLe.of_eq rfl), SLe.refl _, SLe.refl _, SLe.refl _, trivial⟩ (fun _ h => h)) ?_
  intro k hk
  refine AWP.seq ?_
  refine AWP.region ?_
  refine AOps.step rfl rfl rfl (AOp.lss rfl rfl rfl) ?_
  refine AOps.nil ?_
  refine AWP.seq ?_
  refine AWP.cond rfl (fun h1 => ?_) (fun h1 => ?_)
  · replace h1 := of_decide_eq_true h1
    rw [List.length_map] at h1
    have hlt : k < l.length := by omega
    refine AWP.skip ?_
    refine AWP.seq ?_
    refine AWP.block ?_
    refine AWP.seq ?_
    refine AWP.region ?_
    refine AOps.step rfl rfl rfl (AOp.indexAddr rfl et_63 rfl rfl k rfl (at_lst hlt) rfl) ?_
    refine AOps.step rfl rfl rfl (AOp.load rfl sc_3 rfl) ?_
    refine AOps.step rfl rfl rfl (AOp.assignD rfl rfl) ?_
    refine AOps.nil ?_
    refine AWP.seq ?_
    refine AWP.region ?_
    refine AOps.step rfl rfl rfl (AOp.moveD rfl rfl) ?_
    refine AOps.step rfl rfl rfl (AOp.moveD rfl rfl) ?_
    refine AOps.step rfl rfl rfl (AOp.neq rfl rfl rfl) ?_
    refine AOps.nil ?_
    refine AWP.cond rfl (fun h2 => ?_) (fun h2 => ?_)
    · replace h2 := of_decide_eq_true h2
      rw [orI_yes hlt hk.2 h2]
      refine AWP.seq ?_
      refine AWP.region ?_
      refine AOps.step rfl rfl rfl (AOp.moveD rfl rfl) ?_
      refine AOps.step rfl rfl rfl (AOp.assignD rfl rfl) ?_
      refine AOps.nil ?_
      refine AWP.ret ?_
      refine ⟨RetD.eq rfl ?_, trivial⟩
      all_goals (rfl)
    · replace h2 := of_decide_eq_false h2
      have hT := take_f (p := fun x : Int => decide (x ≠ 0)) hlt hk.2 (decide_eq_false h2)
      refine AWP.skip ?_
      refine AWP.region ?_
      refine AOps.step rfl rfl rfl (AOp.add64 rfl rfl rfl (by omega) (by omega)) ?_
      refine AOps.step rfl rfl rfl (AOp.moveD rfl rfl) ?_
      refine AOps.nil ?_
      refine ⟨k + 1, ⟨by omega, hT⟩, (by dsimp only; omega), Sub.less ⟨(SLe.of_eq rfl), SLe.refl _, SLe.refl _, SLe.refl _, trivial⟩ (fun _ h => h)⟩
  · replace h1 := of_decide_eq_false h1
    rw [List.length_map] at h1
    rw [orI_no (fun c hc => hk.2 c (by rw [show k = l.length by omega]; exact hc))]
    refine AWP.exit ?_
    refine AWP.seq ?_
    refine AWP.region ?_
    refine AOps.step rfl rfl rfl (AOp.moveD rfl rfl) ?_
    refine AOps.step rfl rfl rfl (AOp.assignD rfl rfl) ?_
    refine AOps.nil ?_
    refine AWP.ret ?_
    refine ⟨RetD.eq rfl ?_, trivial⟩
    all_goals (rfl)

set_option maxRecDepth 100000 in
set_option maxHeartbeats 1000000 in
theorem c_cmpAli (a b : Ali) : ACall Tryd.prog 36 [.agg a.ds, .agg b.ds] (.v (.int .i64 (aliCmp a b))) := by
  refine acall_of (n := 17) (ds' := [.v (.int .i64 (aliCmp a b))]) Tryd.func36 rfl (by kernel_rfl) rfl [4] rfl rfl ?_
  intro B w0 F0 fr
  refine AWP.seq ?_
  refine AWP.region ?_
  refine AOps.step rfl rfl rfl (AOp.box rfl rfl rfl) ?_
  refine AOps.step rfl rfl rfl (AOp.box rfl rfl rfl) ?_
  refine AOps.step rfl rfl rfl (AOp.assignD rfl rfl) ?_
  refine AOps.nil ?_
  refine AWP.seq ?_
  refine AWP.draw (by kernel_rfl) (by kernel_rfl) ?_
  refine DRun.step rfl rfl rfl (AOp.fieldAddr rfl fo_94_0 rfl) ?_
  refine DRun.step rfl rfl rfl (AOp.load rfl sc_9 rfl) ?_
  refine DRun.step rfl rfl rfl (AOp.fieldAddr rfl fo_94_0 rfl) ?_
  refine DRun.step rfl rfl rfl (AOp.load rfl sc_9 rfl) ?_
  refine DRun.step rfl rfl rfl (AOp.call rfl (.cons (ArgOk.rfl' rfl) (.cons (ArgOk.rfl' rfl) .nil)) (c_strCmp _ _)) ?_
  refine DRun.step rfl rfl rfl (AOp.fieldAddr rfl fo_94_1 rfl) ?_
  refine DRun.step rfl rfl rfl (AOp.load rfl sc_9 rfl) ?_
  refine DRun.step rfl rfl rfl (AOp.fieldAddr rfl fo_94_1 rfl) ?_
  refine DRun.step rfl rfl rfl (AOp.load rfl sc_9 rfl) ?_
  refine DRun.step rfl rfl rfl (AOp.call rfl (.cons (ArgOk.rfl' rfl) (.cons (ArgOk.rfl' rfl) .nil)) (c_strCmp _ _)) ?_
  refine DRun.step rfl rfl rfl (AOp.buildSlice rfl et_63 (.cons rfl rfl rfl (.cons rfl rfl rfl .nil)) rfl (by decide)) ?_
  refine DRun.step rfl rfl rfl (AOp.call rfl (.cons (ArgOk.rfl' rfl) .nil) (c_or [strCmp a.source b.source, strCmp a.title b.title])) ?_
  refine DRun.step rfl rfl rfl (AOp.assignD rfl rfl) ?_
  refine DRun.nil ?_
  refine AWP.ret ?_
  refine ⟨RetD.eq rfl ?_, trivial⟩
  all_goals (rw [orI_ali])

set_option maxRecDepth 100000 in
set_option maxHeartbeats 1000000 in
theorem c_pAlis (l : List Ali) (hb : ∀ x ∈ l, x.source.size ≤ 9223372036854775807 ∧ x.title.size ≤ 9223372036854775807) : ACallT Tryd.prog MaxT 34 [.sl (l.map Ali.ds)] (.v (.int .i64 (alisF l))) := by
  refine acall_ofT (n := 44) (ds' := [.v (.int .i64 (alisF l))]) Tryd.func34 rfl (by kernel_rfl) rfl [2] rfl rfl ?_
  intro B w0 F0 hT
  refine AWP.seq ?_
  refine AWP.region ?_
  refine AOps.step rfl rfl rfl (AOp.assignD rfl rfl) ?_
  refine AOps.nil ?_
  refine AWP.seq ?_
  refine AWP.seq ?_
  refine AWP.region ?_
  refine AOps.step rfl rfl rfl (AOp.moveD rfl rfl) ?_
  refine AOps.step rfl rfl rfl (AOp.lenSl rfl et_23.ht rfl) ?_
  refine AOps.step rfl rfl rfl (AOp.gtr rfl rfl rfl) ?_
  refine AOps.nil ?_
  refine AWP.cond rfl (fun h1 => ?_) (fun h1 => ?_)
  · replace h1 := of_decide_eq_true h1
    rw [List.length_map] at h1
    have HR : alisF l = 2 := if_pos (by omega)
    refine AWP.seq ?_
    refine AWP.region ?_
    refine AOps.step rfl rfl rfl (AOp.assignD rfl rfl) ?_
    refine AOps.nil ?_
    refine AWP.ret ?_
    refine ⟨RetD.eq rfl ?_, trivial⟩
    all_goals (first | rw [HR] | (rw [HX, ffst_hit (f := aliF l) hk.2 (by unfold aliF; rw [dif_pos hlt]; (first | (exfalso; omega) | ((repeat (first | rw [if_pos (by first | assumption | omega)] | rw [if_neg (by first | assumption | omega)])); first | done | rfl | omega | decide))) _ hlt]; unfold aliF; rw [dif_pos hlt]; (first | (exfalso; omega) | ((repeat (first | rw [if_pos (by first | assumption | omega)] | rw [if_neg (by first | assumption | omega)])); first | done | rfl | omega | decide))))
  · replace h1 := of_decide_eq_false h1
    rw [List.length_map] at h1
    have HX : alisF l = ffst (aliF l) l.length := if_neg (by omega)
    refine AWP.skip ?_
    refine AWP.seq ?_
    refine AWP.seq ?_
    refine AWP.region ?_
    refine AOps.step rfl rfl rfl (AOp.moveD rfl rfl) ?_
    refine AOps.step rfl rfl rfl (AOp.lenSl rfl et_23.ht rfl) ?_
    refine AOps.step rfl rfl rfl (AOp.moveD rfl rfl) ?_
    refine AOps.nil ?_
    refine AWP.block ?_
    refine AWP.loop (G := Nat) (fun k => Env.of [(10, .d (.v (.int .i64 (k : Int)))), (8, .d (.sl (l.map Ali.ds))), (9, .d (.v (.int .i64 ((l.map Ali.ds).length : Int)))), (0, .d (.sl (l.map Ali.ds)))]) (fun k => []) (fun k => k ≤ l.length ∧ ffst (aliF l) k = 0) (fun k => l.length - k) 0 ⟨Nat.zero_le _, rfl⟩ (Sub.less ⟨(SLe.of_eq rfl), SLe.refl _, SLe.refl _, SLe.refl _, trivial⟩ (fun _ h => h)) ?_
    intro k hk
    refine AWP.seq ?_
    refine AWP.region ?_
    refine AOps.step rfl rfl rfl (AOp.lss rfl rfl rfl) ?_
    refine AOps.nil ?_
    refine AWP.seq ?_
    refine AWP.cond rfl (fun h2 => ?_) (fun h2 => ?_)
    · replace h2 := of_decide_eq_true h2
      rw [List.length_map] at h2
      have hlt : k < l.length := by omega
      have hbk := hb _ (List.getElem_mem hlt)
      refine AWP.skip ?_
      refine AWP.seq ?_
      refine AWP.block ?_
      refine AWP.seq ?_
      refine AWP.region ?_
      refine AOps.step rfl rfl rfl (AOp.moveD rfl rfl) ?_
      refine AOps.step rfl rfl rfl (AOp.indexAddr rfl et_23 rfl rfl k rfl (at_lst hlt) rfl) ?_
      refine AOps.step rfl rfl rfl (AOp.loadAgg rfl ag_94 rfl rfl) ?_
      refine AOps.alloc 101 rfl rfl rfl rfl zt_94 rfl rfl rfl ?_
      refine AOps.step rfl rfl rfl (AOp.assignD rfl rfl) ?_
      refine AOps.store rfl rfl rfl sz_94 rfl (.head _) rfl rfl rfl (Nat.le_of_ble_eq_true rfl) ?_
      refine AOps.freezeCells 4 (ds := l[k].ds) rfl (.head _) ?_
      refine AOps.nil ?_
      refine AWP.block ?_
      refine AWP.seq ?_
      refine AWP.region ?_
      refine AOps.step rfl rfl rfl (AOp.fieldAddr rfl fo_94_0 rfl) ?_
      refine AOps.step rfl rfl rfl (AOp.load rfl sc_9 rfl) ?_
      refine AOps.step rfl rfl rfl (AOp.call rfl (.cons (ArgOk.rfl' rfl) .nil) (c_pName _ hbk.1)) ?_
      refine AOps.step rfl rfl rfl (AOp.not rfl rfl) ?_
      refine AOps.step rfl rfl rfl (AOp.assignD rfl rfl) ?_
      refine AOps.nil ?_
      refine AWP.cond rfl (fun h3 => ?_) (fun h3 => ?_)
      · replace h3 := bnot_t h3
        refine AWP.seq ?_
        refine AWP.region ?_
        refine AOps.step rfl rfl rfl (AOp.assignD rfl rfl) ?_
        refine AOps.nil ?_
        refine AWP.ret ?_
        refine ⟨RetD.eq rfl ?_, trivial⟩
        all_goals (first | rw [HR] | (rw [HX, ffst_hit (f := aliF l) hk.2 (by unfold aliF; rw [dif_pos hlt]; (first | (exfalso; omega) | ((repeat (first | rw [if_pos (by first | assumption | omega)] | rw [if_neg (by first | assumption | omega)])); first | done | rfl | omega | decide))) _ hlt]; unfold aliF; rw [dif_pos hlt]; (first | (exfalso; omega) | ((repeat (first | rw [if_pos (by first | assumption | omega)] | rw [if_neg (by first | assumption | omega)])); first | done | rfl | omega | decide))))
      · replace h3 := bnot_f h3
        have n1 : ¬ nameOk l[k].source = false := by rw [h3]; decide
        refine AWP.seq ?_
        refine AWP.region ?_
        refine AOps.step rfl rfl rfl (AOp.fieldAddr rfl fo_94_1 rfl) ?_
        refine AOps.step rfl rfl rfl (AOp.load rfl sc_9 rfl) ?_
        -- wants the world
        refine AOps.callT rfl rfl rfl hT maxT_stays rfl (.cons (ArgOk.rfl' rfl) .nil) (c_pTitle _ hbk.2) ?_
        refine AOps.step rfl rfl rfl (AOp.not rfl rfl) ?_
        refine AOps.step rfl rfl rfl (AOp.assignD rfl rfl) ?_
        refine AOps.nil ?_
        refine AWP.cond rfl (fun h4 => ?_) (fun h4 => ?_)
        · replace h4 := bnot_t h4
          refine AWP.seq ?_
          refine AWP.region ?_
          refine AOps.step rfl rfl rfl (AOp.assignD rfl rfl) ?_
          refine AOps.nil ?_
          refine AWP.ret ?_
          refine ⟨RetD.eq rfl ?_, trivial⟩
          all_goals (first | rw [HR] | (rw [HX, ffst_hit (f := aliF l) hk.2 (by unfold aliF; rw [dif_pos hlt]; (first | (exfalso; omega) | ((repeat (first | rw [if_pos (by first | assumption | omega)] | rw [if_neg (by first | assumption | omega)])); first | done | rfl | omega | decide))) _ hlt]; unfold aliF; rw [dif_pos hlt]; (first | (exfalso; omega) | ((repeat (first | rw [if_pos (by first | assumption | omega)] | rw [if_neg (by first | assumption | omega)])); first | done | rfl | omega | decide))))
        · replace h4 := bnot_f h4
          have n2 : ¬ titleOk l[k].title = false := by rw [h4]; decide
          refine AWP.seq ?_
          refine AWP.draw (by kernel_rfl) (by kernel_rfl) ?_
          refine DRun.step rfl rfl rfl (AOp.moveD rfl rfl) ?_
          refine DRun.step rfl rfl rfl (AOp.gtr rfl rfl rfl) ?_
          refine DRun.step rfl rfl rfl (AOp.moveD rfl rfl) ?_
          refine DRun.split 28 rfl (fun g5 => ?_) (fun g5 => ?_)
          · replace g5 := of_decide_eq_true g5
            have hk0 : 0 < k := by omega
            refine DRun.step ⟨28, rfl, .inl ⟨_, rfl, rfl⟩⟩ rfl rfl (AOp.moveD rfl rfl) ?_
            refine DRun.step ⟨28, rfl, .inl ⟨_, rfl, rfl⟩⟩ rfl rfl (AOp.moveD rfl rfl) ?_
            refine DRun.step ⟨28, rfl, .inl ⟨_, rfl, rfl⟩⟩ rfl rfl (AOp.sub64 rfl rfl rfl (by omega) (by omega)) ?_
            refine DRun.step ⟨28, rfl, .inl ⟨_, rfl, rfl⟩⟩ rfl rfl (AOp.indexAddr rfl et_23 rfl rfl (k - 1) (by omega) (at_lst (by omega)) rfl) ?_
            refine DRun.step ⟨28, rfl, .inl ⟨_, rfl, rfl⟩⟩ rfl rfl (AOp.loadAgg rfl ag_94 rfl rfl) ?_
            refine DRun.step ⟨28, rfl, .inl ⟨_, rfl, rfl⟩⟩ rfl rfl (AOp.loadAgg rfl ag_94 rfl rfl) ?_
            refine DRun.step ⟨28, rfl, .inl ⟨_, rfl, rfl⟩⟩ rfl rfl (AOp.call rfl (.cons (ArgOk.rfl' rfl) (.cons (ArgOk.rfl' rfl) .nil)) (c_cmpAli _ _)) ?_
            refine DRun.step ⟨28, rfl, .inl ⟨_, rfl, rfl⟩⟩ rfl rfl (AOp.geq rfl rfl rfl) ?_
            refine DRun.step rfl rfl rfl (AOp.pickT rfl rfl rfl) ?_
            refine DRun.step rfl rfl rfl (AOp.assignD rfl rfl) ?_
            refine DRun.nil ?_
            refine AWP.cond rfl (fun h6 => ?_) (fun h6 => ?_)
            · replace h6 := of_decide_eq_true h6
              have n3 : (0 < k ∧ 0 ≤ aliCmp (l[k-1]'(by omega)) l[k]) := ⟨hk0, by omega⟩
              refine AWP.seq ?_
              refine AWP.region ?_
              refine AOps.step rfl rfl rfl (AOp.assignD rfl rfl) ?_
              refine AOps.nil ?_
              refine AWP.ret ?_
              refine ⟨RetD.eq rfl ?_, trivial⟩
              all_goals (first | rw [HR] | (rw [HX, ffst_hit (f := aliF l) hk.2 (by unfold aliF; rw [dif_pos hlt]; (first | (exfalso; omega) | ((repeat (first | rw [if_pos (by first | assumption | omega)] | rw [if_neg (by first | assumption | omega)])); first | done | rfl | omega | decide))) _ hlt]; unfold aliF; rw [dif_pos hlt]; (first | (exfalso; omega) | ((repeat (first | rw [if_pos (by first | assumption | omega)] | rw [if_neg (by first | assumption | omega)])); first | done | rfl | omega | decide))))
            · replace h6 := of_decide_eq_false h6
              have n3 : ¬ (0 < k ∧ 0 ≤ aliCmp (l[k-1]'(by omega)) l[k]) := fun hh => h6 hh.2
              refine AWP.seq ?_
              refine AWP.region ?_
              refine AOps.step rfl rfl rfl (AOp.fieldAddr rfl fo_94_2 rfl) ?_
              refine AOps.step rfl rfl rfl (AOp.load rfl sc_3 rfl) ?_
              refine AOps.step rfl rfl rfl (AOp.call rfl (.cons (ArgOk.rfl' rfl) (.cons (ArgOk.rfl' rfl) (.cons (ArgOk.rfl' rfl) .nil))) (c_pIn _ _ _)) ?_
              refine AOps.step rfl rfl rfl (AOp.not rfl rfl) ?_
              refine AOps.step rfl rfl rfl (AOp.assignD rfl rfl) ?_
              refine AOps.nil ?_
              refine AWP.cond rfl (fun h7 => ?_) (fun h7 => ?_)
              · replace h7 := bnot_t h7; replace h7 := of_decide_eq_false h7
                refine AWP.seq ?_
                refine AWP.region ?_
                refine AOps.step rfl rfl rfl (AOp.assignD rfl rfl) ?_
                refine AOps.nil ?_
                refine AWP.ret ?_
                refine ⟨RetD.eq rfl ?_, trivial⟩
                all_goals (first | rw [HR] | (rw [HX, ffst_hit (f := aliF l) hk.2 (by unfold aliF; rw [dif_pos hlt]; (first | (exfalso; omega) | ((repeat (first | rw [if_pos (by first | assumption | omega)] | rw [if_neg (by first | assumption | omega)])); first | done | rfl | omega | decide))) _ hlt]; unfold aliF; rw [dif_pos hlt]; (first | (exfalso; omega) | ((repeat (first | rw [if_pos (by first | assumption | omega)] | rw [if_neg (by first | assumption | omega)])); first | done | rfl | omega | decide))))
              · replace h7 := bnot_f h7; replace h7 := of_decide_eq_true h7
                refine AWP.skip ?_
                refine AWP.region ?_
                refine AOps.step rfl rfl rfl (AOp.add64 rfl rfl rfl (by omega) (by omega)) ?_
                refine AOps.step rfl rfl rfl (AOp.moveD rfl rfl) ?_
                refine AOps.nil ?_
                refine ⟨k + 1, ⟨by omega, ffst_next hk.2 (by unfold aliF; rw [dif_pos hlt]; (first | (exfalso; omega) | ((repeat (first | rw [if_pos (by first | assumption | omega)] | rw [if_neg (by first | assumption | omega)])); first | done | rfl | omega | decide)))⟩, (by dsimp only; omega), Sub.less ⟨(SLe.of_eq rfl), SLe.refl _, SLe.refl _, SLe.refl _, trivial⟩ (fun _ h => h)⟩
          · replace g5 := of_decide_eq_false g5
            have n3 : ¬ (0 < k ∧ 0 ≤ aliCmp (l[k-1]'(by omega)) l[k]) := fun hh => by omega
            refine DRun.pass ⟨28, rfl, .inl ⟨_, rfl, rfl⟩⟩ rfl rfl ?_
            refine DRun.pass ⟨28, rfl, .inl ⟨_, rfl, rfl⟩⟩ rfl rfl ?_
            refine DRun.pass ⟨28, rfl, .inl ⟨_, rfl, rfl⟩⟩ rfl rfl ?_
            refine DRun.pass ⟨28, rfl, .inl ⟨_, rfl, rfl⟩⟩ rfl rfl ?_
            refine DRun.pass ⟨28, rfl, .inl ⟨_, rfl, rfl⟩⟩ rfl rfl ?_
            refine DRun.pass ⟨28, rfl, .inl ⟨_, rfl, rfl⟩⟩ rfl rfl ?_
            refine DRun.pass ⟨28, rfl, .inl ⟨_, rfl, rfl⟩⟩ rfl rfl ?_
            refine DRun.pass ⟨28, rfl, .inl ⟨_, rfl, rfl⟩⟩ rfl rfl ?_
            refine DRun.step rfl rfl rfl (AOp.pickF rfl rfl rfl) ?_
            refine DRun.step rfl rfl rfl (AOp.assignD rfl rfl) ?_
            refine DRun.nil ?_
            refine AWP.cond rfl (fun h => nomatch h) (fun _ => ?_)
            refine AWP.seq ?_
            refine AWP.region ?_
            refine AOps.step rfl rfl rfl (AOp.fieldAddr rfl fo_94_2 rfl) ?_
            refine AOps.step rfl rfl rfl (AOp.load rfl sc_3 rfl) ?_
            refine AOps.step rfl rfl rfl (AOp.call rfl (.cons (ArgOk.rfl' rfl) (.cons (ArgOk.rfl' rfl) (.cons (ArgOk.rfl' rfl) .nil))) (c_pIn _ _ _)) ?_
            refine AOps.step rfl rfl rfl (AOp.not rfl rfl) ?_
            refine AOps.step rfl rfl rfl (AOp.assignD rfl rfl) ?_
            refine AOps.nil ?_
            refine AWP.cond rfl (fun h8 => ?_) (fun h8 => ?_)
            · replace h8 := bnot_t h8; replace h8 := of_decide_eq_false h8
              refine AWP.seq ?_
              refine AWP.region ?_
              refine AOps.step rfl rfl rfl (AOp.assignD rfl rfl) ?_
              refine AOps.nil ?_
              refine AWP.ret ?_
              refine ⟨RetD.eq rfl ?_, trivial⟩
              all_goals (first | rw [HR] | (rw [HX, ffst_hit (f := aliF l) hk.2 (by unfold aliF; rw [dif_pos hlt]; (first | (exfalso; omega) | ((repeat (first | rw [if_pos (by first | assumption | omega)] | rw [if_neg (by first | assumption | omega)])); first | done | rfl | omega | decide))) _ hlt]; unfold aliF; rw [dif_pos hlt]; (first | (exfalso; omega) | ((repeat (first | rw [if_pos (by first | assumption | omega)] | rw [if_neg (by first | assumption | omega)])); first | done | rfl | omega | decide))))
            · replace h8 := bnot_f h8; replace h8 := of_decide_eq_true h8
              refine AWP.skip ?_
              refine AWP.region ?_
              refine AOps.step rfl rfl rfl (AOp.add64 rfl rfl rfl (by omega) (by omega)) ?_
              refine AOps.step rfl rfl rfl (AOp.moveD rfl rfl) ?_
              refine AOps.nil ?_
              refine ⟨k + 1, ⟨by omega, ffst_next hk.2 (by unfold aliF; rw [dif_pos hlt]; (first | (exfalso; omega) | ((repeat (first | rw [if_pos (by first | assumption | omega)] | rw [if_neg (by first | assumption | omega)])); first | done | rfl | omega | decide)))⟩, (by dsimp only; omega), Sub.less ⟨(SLe.of_eq rfl), SLe.refl _, SLe.refl _, SLe.refl _, trivial⟩ (fun _ h => h)⟩
    · replace h2 := of_decide_eq_false h2
      rw [List.length_map] at h2
      have HR : alisF l = 0 := by rw [HX, show l.length = k by omega]; exact hk.2
      refine AWP.exit ?_
      refine AWP.seq ?_
      refine AWP.region ?_
      refine AOps.step rfl rfl rfl (AOp.assignD rfl rfl) ?_
      refine AOps.nil ?_
      refine AWP.ret ?_
      refine ⟨RetD.eq rfl ?_, trivial⟩
      all_goals (first | rw [HR] | (rw [HX, ffst_hit (f := aliF l) hk.2 (by unfold aliF; rw [dif_pos hlt]; (first | (exfalso; omega) | ((repeat (first | rw [if_pos (by first | assumption | omega)] | rw [if_neg (by first | assumption | omega)])); first | done | rfl | omega | decide))) _ hlt]; unfold aliF; rw [dif_pos hlt]; (first | (exfalso; omega) | ((repeat (first | rw [if_pos (by first | assumption | omega)] | rw [if_neg (by first | assumption | omega)])); first | done | rfl | omega | decide))))

end Go.Proofs.YtekenfknoakboaaDoor


namespace Go.Proofs.YtekenfknoakboaaDoor
open Go.RowKit
set_option linter.unusedVariables false

/-! Types. -/
namespace TyU4

end TyU4
open TyU4


open Go.Lib
/-- The number of the first one; -1: there is none. -/
def idxBy {α : Type} (p : α → Bool) (l : List α) : Int := if l.any p then (l.findIdx p : Int) else -1
theorem idxBy_yes {α : Type} {p : α → Bool} {l : List α} {k : Nat} (hk : k < l.length) (h : ∀ c ∈ l.take k, p c = false) (h2 : p l[k] = true) : idxBy p l = k := by
  have hm : l.any p = true := List.any_eq_true.2 ⟨_, List.getElem_mem hk, h2⟩
  unfold idxBy
  rw [if_pos hm]
  congr 1
  rw [List.findIdx_eq hk]
  refine ⟨h2, fun j hj => ?_⟩
  have := h l[j] (List.mem_take_iff_getElem.2 ⟨j, by omega, rfl⟩)
  simpa using this
theorem idxBy_no {α : Type} {p : α → Bool} {l : List α} (h : ∀ c ∈ l.take l.length, p c = false) : idxBy p l = -1 := by
  unfold idxBy
  rw [if_neg]
  intro hx
  obtain ⟨c, hc, hp⟩ := List.any_eq_true.1 hx
  have := h c (by rw [List.take_length]; exact hc)
  rw [hp] at this; simp at this
theorem idxBy_some {α : Type} {p : α → Bool} {l : List α} (h : 0 ≤ idxBy p l) : ∃ k, ∃ hk : k < l.length, idxBy p l = (k : Int) ∧ p l[k] = true := by
  unfold idxBy at h ⊢
  by_cases hm : l.any p = true
  · rw [if_pos hm]
    have hlt : l.findIdx p < l.length := by
      rw [List.findIdx_lt_length]
      obtain ⟨c, hc, hp⟩ := List.any_eq_true.1 hm
      exact ⟨c, hc, hp⟩
    exact ⟨_, hlt, rfl, List.findIdx_getElem⟩
  · rw [if_neg hm] at h; omega

theorem idx_any {α : Type} {p : α → Bool} {l : List α} : idxBy p l < 0 ↔ l.any p = false := by
  unfold idxBy
  cases h : l.any p with
  | true => simp
  | false => simp
def grpFB (g : Grp) (b : ByteArray) : Int := if nameOk g.name = false then 5 else if sle g.name b = true then 8 else grpF0 g
def dealFB (c : Ctr) (d : Deal) (b : ByteArray) : Int := if nameOk d.name = false then 5 else if sle d.name b = true then 8 else dealF0 c d
def okGrp (g : Grp) : Prop := g.name.size ≤ 9223372036854775807 ∧ ∀ s ∈ g.cut, s.party.size ≤ 9223372036854775807


end Go.Proofs.YtekenfknoakboaaDoor


namespace Go.Proofs.YtekenfknoakboaaDoor
open Go.RowKit
set_option linter.unusedVariables false

/-- f, called with what reads as ds, returns a new row whose elements read as els, and that nobody else has. -/
def OCall (P : Program) (f : FuncId) (ds : List D) (ee size : Nat) (els : List (List D)) : Prop := Enters P f ∧
  ∀ (F : Nat → Prop) (w : World) (vs : List Value), (∀ b, F b → b < w.heap.size) → RepL F w vs ds →
    Calls P f vs.toArray w fun r w' => ∃ v F', r = .returned v ∧ Ext F w F' w' ∧ ObOk w.heap.size F' (fun _ => v) w' 0 (.row ee size els)

theorem OCall.toA {P : Program} {f : FuncId} {ds : List D} {ee size : Nat} {els : List (List D)} (h : OCall P f ds ee size els) : ACall P f ds (.sl els) :=
  ⟨h.1, fun F w vs hF hv => (h.2 F w vs hF hv).mono fun r w' ⟨v, F', h1, h2, h3⟩ => by
    have ho : ObsOk w.heap.size F' (fun _ => v) w' [(0, .row ee size els)] := by
      refine ⟨fun p hp => ?_, fun p hp q hq hne => ?_, fun p hp q hq _ => ?_⟩
      · have : p = (0, .row ee size els) := by simpa using hp
        subst this
        exact h3
      · have h4 : p = (0, .row ee size els) := by simpa using hp
        have h5 : q = (0, .row ee size els) := by simpa using hq
        rw [h4, h5] at hne
        exact absurd rfl hne
      · have h4 : p = (0, .row ee size els) := by simpa using hp
        have h5 : q = (0, .row ee size els) := by simpa using hq
        rw [h4, h5]
    have hr := ob_rep ho (List.mem_singleton.2 rfl)
    refine ⟨v, _, h1, hr, fun b hb => .inl (h2.up b hb), ?_, ?_, h2.below⟩
    · rintro b (hb | ⟨p, hp, hb⟩)
      · exact h2.new b hb
      · have h4 : p = (0, .row ee size els) := by simpa using hp
        subst h4
        exact .inr (h3.blk_lt hb).1
    · rintro b (hb | ⟨p, hp, hb⟩)
      · exact h2.lt b hb
      · have h4 : p = (0, .row ee size els) := by simpa using hp
        subst h4
        exact (h3.blk_lt hb).2⟩

theorem OCall.eq {P : Program} {f : FuncId} {ds : List D} {ee size : Nat} {els els' : List (List D)} (h : OCall P f ds ee size els) (he : els = els') : OCall P f ds ee size els' := he ▸ h
theorem obOk_base {B B' : Nat} {F : Nat → Prop} {ρ ρ' : Nat → Value} {w : World} {id id' ee size : Nat} {els : List (List D)} (h : ObOk B F ρ w id (.row ee size els)) (hB : B' ≤ B) (he : ρ id = ρ' id') : ObOk B' F ρ' w id' (.row ee size els) := by
  obtain ⟨xs, h1, h2, h3, h4⟩ := h
  rw [he] at h1 h4
  refine ⟨xs, ⟨h1.1, ?_⟩, h2, h3, h4⟩
  rcases h1.2 with h5 | ⟨g, cap, cur, h5, h6, h7⟩
  · exact .inl h5
  · exact .inr ⟨g, cap, cur, h5, Nat.le_trans hB h6, h7⟩

/-- A new own object, where more is data now. -/
theorem R0.newObF {cx : Cx} {F F' : Nat → Prop} {ρ : Nat → Value} {e : Env} {σ : Obs} {a : Act} {w w' : World} (hr : R0 cx F ρ e σ a w) {id dst : Nat} {ob : Ob} {v : Value} (hid : ∀ p ∈ σ, p.1 ≠ id) (hd : dst < cx.N) (hE : Ext F w F' w')
    (hob : ObOk cx.B F' (fun j => if j = id then v else ρ j) w' id ob) (hnew : ∀ g, blk v = some g → w.heap.size ≤ g) (hfx : cx.free id = true) :
    ∃ ρ', R0 cx F' ρ' ((e.kill id).put (some dst) (.own id)) ((id, ob) :: Obs.kill id σ) (a.put (some dst) v) w' := by
  refine ⟨fun j => if j = id then v else ρ j, ?_⟩
  have h2 := hr.turn (ρ' := fun j => if j = id then v else ρ j) (id := id) (ob := ob) (row := none) (w' := w') (F' := F') (fun j hj => by simp [hj])
    ⟨hE.below.os, hE.below.tape, hE.below.output, hE.below.size, fun k hk _ => hE.below.block k hk⟩ hfx (fun g hg => by simp at hg) hE.up hE.new hE.lt hob
    (fun g hg => by rw [if_pos rfl] at hg; exact .inr (hnew g hg)) ((id, ob) :: Obs.kill id σ) (fun p hp => by
      cases hp with
      | head => exact .inl rfl
      | tail _ hp => obtain ⟨q, hq, rfl⟩ := Obs.mem_kill hp; exact .inr ⟨q, hq, hid q hq, rfl⟩)
  exact h2.put (o := ⟨some dst, .ready 0, 0, "", #[], none⟩) (v := v) (s := .own id) (Ext.refl h2.lt) (by
      have := RepS.own (F := F') (ρ := fun j => if j = id then v else ρ j) (w := w') id
      simpa using this) (by simpa [DstOk, Nat.blt_eq] using hd)

section
variable {cx : Cx} {ops : Array Oper} {o : Oper} {rest : List Oper} {e : Env} {σ : Obs} {Q : Post}
theorem AOps.callO {f : FuncId} {xs : List Operand} {ts : Array TypeId} {ds : List D} {ee size dst : Nat} {els : List (List D)} (id : Nat) (hg : o.guard = none) (ht : o.dst = some dst) (hdn : Nat.blt dst cx.N = true)
    (ho : o.op = .call { callee := .value (.func f), args := xs.toArray, argTypes := ts }) (ha : ArgsOk e xs ds) (h : OCall cx.P f ds ee size els) (hid : Obs.fresh id σ = true)
    (k : AOps cx ops rest ((e.kill id).put (some dst) (.own id)) ((id, .row ee size els) :: Obs.kill id σ) Q) (hfx : cx.free id = true := by rfl) : AOps cx ops (o :: rest) e σ Q := by
  intro a w ⟨F, ρ, hr⟩
  have hdn' : dst < cx.N := by simpa [Nat.blt_eq] using hdn
  have h4 := h.2 F w (xs.map a.eval) hr.lt (repL_ops ha (fun x _ => ev_rep fun t _ => hr.env t))
  have h5 := h.1 (xs.map a.eval).toArray w
  have hx : (execOp a.eval o).run cx.P w = .ok (.enter f (xs.map a.eval).toArray) w := by
    unfold execOp
    simp only [ho, resolve, Deferred.ofValue, Act.eval, invoke, Sem.run_bind, Sem.run_pure, Result.andThen_ok]
    simpa using h5
  refine wpList_plain hg fun K hK => ?_
  unfold Oper.wp
  rw [hx]
  refine h4.mono fun _ w' ⟨v, F', he, hE, hob⟩ => ?_
  subst he
  obtain ⟨ρ', h6⟩ := hr.newObF (ob := .row ee size els) (v := v) (Obs.fresh_spec hid) hdn' hE (obOk_base hob hr.hB (by simp)) (fun g hg => (hob.blk_lt hg).1) hfx
  have := k _ _ ⟨F', ρ', h6⟩
  rw [← ht] at this
  exact hK _ _ this
/-- []T{}: an own row of no elements. -/
theorem AOps.build0 {t el size bytes dst : Nat} {z : Value} (id : Nat) (hg : o.guard = none) (ht : o.dst = some dst) (hdn : Nat.blt dst cx.N = true) (ho : o.op = .buildSlice t 0 #[]) (T : ElemTy cx.P t el size bytes z) (hid : Obs.fresh id σ = true)
    (k : AOps cx ops rest ((e.kill id).put (some dst) (.own id)) ((id, .row el size []) :: Obs.kill id σ) Q) (hfx : cx.free id = true := by rfl) : AOps cx ops (o :: rest) e σ Q := by
  intro a w ⟨F, ρ, hr⟩
  have hdn' : dst < cx.N := by simpa [Nat.blt_eq] using hdn
  have hrun : (execOp a.eval o).run cx.P w = .ok (.value (.slice (some ⟨w.heap.size, 0, none⟩) 0 0)) (w.alloc (.cells #[] el)) := by
    unfold execOp
    simp only [ho, Instr.buildSlice, Sem.run_bind, run_underlying T.ht, Result.andThen_ok, T.sizeOf, Nat.zero_mul]
    rw [if_neg (show ¬ (0 > 2 ^ 24) by decide), if_pos trivial]
    simp only [Sem.run_bind, Sem.run_pure, Result.andThen_ok]
    have hfl : Instr.fill (fun i => some (i * size, size)) (Array.map (fun x => (#[] : Array Value)[x % (#[] : Array Value).size]!) (Array.range 0)) (Array.map (fun (x : Nat × Operand) => (x.fst, a.eval x.snd)) #[]).toList = some #[] := by simp [Instr.fill]
    rw [hfl]
    rfl
  have hrow : (w.alloc (.cells #[] el)).ownsRow cx.B el size (.slice (some ⟨w.heap.size, 0, none⟩) 0 0) 0 [] :=
    ⟨by simp, .inr ⟨w.heap.size, 0, #[], rfl, hr.hB, heap_alloc_new w _, Nat.zero_le _, by unfold maxLen; omega, by simp, by simp⟩⟩
  obtain ⟨ρ', h5⟩ := hr.newRow (v := .slice (some ⟨w.heap.size, 0, none⟩) 0 0) (els := []) (Obs.fresh_spec hid) hdn' ((Below.refl _ _).alloc (Nat.le_refl _) (.cells #[] el))
    ⟨fun _ _ => undef, by dsimp only; rw [if_pos rfl]; exact hrow, fun i hi => by simp at hi, fun i hi => by simp at hi, fun g hg hf => by dsimp only at hg; rw [if_pos rfl] at hg; simp [blk] at hg; have := hr.lt g hf; omega⟩
    (fun g hg => by simp [blk] at hg; omega) hfx
  refine wpList_plain hg fun K hK => ?_
  unfold Oper.wp
  rw [hrun]
  have := k _ _ ⟨F, ρ', h5⟩
  rw [← ht] at this
  exact hK _ _ this

/-- Rows are data from here on; every slot and every cell as before. -/
theorem R0.freeze0 {F : Nat → Prop} {ρ : Nat → Value} {a : Act} {w : World} (h : R0 cx F ρ e σ a w) {id ee size : Nat} {els : List (List D)} (hm : (id, Ob.row ee size els) ∈ σ) :
    ∃ F', R0 cx F' ρ e (Obs.del id σ) a w ∧ Rep F' w (ρ id) (.sl els) := by
  have hF2 : ∀ b, (F b ∨ blk (ρ id) = some b) → b < w.heap.size := fun b hb => by
    rcases hb with hb | hb
    · exact h.lt b hb
    · exact ((h.obs.ok _ hm).blk_lt hb).2
  refine ⟨fun b => F b ∨ blk (ρ id) = some b, ⟨h.size, h.defers, hF2, fun b hb => .inl (h.base b hb), fun b hb => ?_, h.below, h.hB, fun u => ?_, ?_, h.up, fun p hp => h.kown p (Obs.mem_del hp).1, h.fixed⟩, h.rep_row hm (fun b hb => .inl hb) (fun g hg => .inr hg)⟩
  · rcases hb with hb | hb
    · exact h.new b hb
    · exact .inr (h.kown _ hm b hb)
  · exact RepS.turn (row := none) (h.env u) h.lt (fun g hg => by simp at hg) ⟨rfl, rfl, rfl, Nat.le_refl _, fun _ _ _ => rfl⟩ (fun b hb => .inl hb)
  · refine ⟨fun p hp => ?_, fun p hp q hq => h.obs.apart p (Obs.mem_del hp).1 q (Obs.mem_del hq).1, fun p hp q hq => h.obs.uniq p (Obs.mem_del hp).1 q (Obs.mem_del hq).1⟩
    obtain ⟨h1, h2⟩ := Obs.mem_del hp
    have h3 := h.obs.ok p h1
    have hne : ∀ g, blk (ρ p.1) = some g → blk (ρ id) ≠ some g := fun g hg => h.obs.apart p h1 _ hm h2 g hg
    exact h3.more h.lt (fun b hb => .inl hb) (fun g hg hf => by
      rcases hf with hf | hf
      · exact h3.nF hg hf
      · exact hne g hg hf)
theorem R0.freezeIn {F : Nat → Prop} {ρ : Nat → Value} {a : Act} {w : World} (h : R0 cx F ρ e σ a w) {c off id ee size : Nat} {ss : List S} {els : List (List D)} (hc : (c, Ob.cells ss) ∈ Obs.del id σ) (hs : ss[off]? = some (.own id)) (hm : (id, Ob.row ee size els) ∈ σ) :
    ∃ F', R0 cx F' ρ e (Obs.upd c (.cells (ss.set off (.d (.sl els)))) (Obs.del id σ)) a w := by
  obtain ⟨F', h1, h2⟩ := h.freeze0 hm
  exact ⟨F', h1.recell hc hs fun x hx => by cases hx; exact .d h2⟩
theorem AWP.freezeIn {cd : Code} (c off : Nat) {id ee size : Nat} {ss : List S} {els : List (List D)} (hs : ss[off]? = some (.own id)) (hc : (c, Ob.cells ss) ∈ Obs.del id σ) (hm : (id, Ob.row ee size els) ∈ σ)
    (k : AWP cx cd e (Obs.upd c (.cells (ss.set off (.d (.sl els)))) (Obs.del id σ)) Q) : AWP cx cd e σ Q := fun a w ⟨_, ρ, hr⟩ => by
  obtain ⟨F', h⟩ := hr.freezeIn hc hs hm
  exact k a w ⟨F', ρ, h⟩
/-- A slice of no elements: nil, or not. -/
theorem AWP.nilOr {cd : Code} (t : Nat) (ht : e t = .d (.sl [])) (h1 : AWP cx cd (e.put (some t) (.d (.v (.slice none 0 0)))) σ Q) (h2 : ∀ ad cap, cap ≤ 9223372036854775807 → AWP cx cd (e.put (some t) (.d (.v (.slice (some ad) 0 cap)))) σ Q) : AWP cx cd e σ Q := fun a w ⟨F, ρ, hr⟩ => by
  have h3 := hr.env t
  rw [ht] at h3
  have h4 := repS_d h3
  have key : ∀ {v : Value}, a.tmps.getD t undef = v → R cx (e.put (some t) (.d (.v v))) σ a w := fun {v} hv => ⟨F, ρ, hr.size, hr.defers, hr.lt, hr.base, hr.new, hr.below, hr.hB, fun u => by
    by_cases hu : u = t
    · subst hu
      rw [Env.put_same, hv]
      exact .d (.v _)
    · rw [Env.put_other _ _ _ _ hu]
      exact hr.env u, hr.obs, hr.up, hr.kown, hr.fixed⟩
  rcases rep_sl_sl h4 with ⟨h5, _⟩ | ⟨ad, cap, size, vs, h5, hc, hm, _⟩
  · exact h1 a w (key h5)
  · exact h2 ad cap hm a w (key (by rw [h5]; rfl))
end

theorem Le.empty {ad : Addr} {cap : Nat} (h : cap ≤ 9223372036854775807) : Le (.v (.slice (some ad) 0 cap)) (.sl []) := fun F w x hx => by
  rw [rep_v hx]
  exact .sl ad cap 0 [] (fun _ _ => undef) (Nat.zero_le _) h (fun h => absurd h (by simp)) (fun i hi => by simp at hi) (fun i j hi => by simp at hi) (fun i j hi => by simp at hi) (fun i hi => by simp at hi)
theorem AOps.le {cx : Cx} {ops : Array Oper} {rest : List Oper} {e : Env} {σ : Obs} {Q : Post} (t : Nat) {s' : S} {s : S} (ht : e t = s) (h : SLe s s') (k : AOps cx ops rest (e.put (some t) s') σ Q) : AOps cx ops rest e σ Q := fun a w ⟨F, ρ, hr⟩ =>
  k a w ⟨F, ρ, hr.size, hr.defers, hr.lt, hr.base, hr.new, hr.below, hr.hB, fun u => by
    by_cases hu : u = t
    · subst hu
      rw [Env.put_same]
      have := hr.env u
      rw [ht] at this
      exact h F ρ w _ this
    · rw [Env.put_other _ _ _ _ hu]
      exact hr.env u, hr.obs, hr.up, hr.kown, hr.fixed⟩

section
variable {P : Program} {B : Nat} {ops : Array Oper} {o : Oper} {e : Env} {σ : Obs}
theorem eqGuard_sl (op : BinOp) (t : TypeId) (x y : Operand) (a b : Option Addr) (n m c d : Nat) (w : World) : (eqGuard op t x y (.slice a n c) (.slice b m d)).run P w = .ok () w := by
  unfold eqGuard; cases op <;> rfl
theorem run_slice_eq_nil {t el : TypeId} (w : World) (a : Option Addr) (n c : Nat) (ht : P.underlying t = some (.slice el)) : (binOp .eql t (.slice a n c) (.slice none 0 0)).run P w = .ok (.bool a.isNone) w := by
  unfold binOp
  simp only [Sem.run_bind, run_equal_slice_nil w t el a n c ht, Result.andThen_ok]
  rfl
/-- x == nil. -/
theorem AOp.eqNilV {t ty el : TypeId} {x y : Operand} {a : Option Addr} {n c : Nat} (ho : o.op = .binOp .eql t x y ty) (ht : P.underlying t = some (.slice el)) (hx : e.ev x = .d (.v (.slice a n c))) (hy : e.ev y = .d (.v (.slice none 0 0))) :
    AOp P B ops o e σ (.d (.v (.bool a.isNone))) := .bin ho hx hy fun w => by
  rw [Sem.run_bind, eqGuard_sl]
  exact run_slice_eq_nil w a n c ht
theorem AOp.eqNilS {t ty el : TypeId} {x y : Operand} {els : List (List D)} (ho : o.op = .binOp .eql t x y ty) (ht : P.underlying t = some (.slice el)) (hx : e.ev x = .d (.sl els)) (hy : e.ev y = .d (.v (.slice none 0 0))) (hne : els ≠ []) :
    AOp P B ops o e σ (.d (.v (.bool false))) := .value fun F ρ w a hF hr _ => by
  have h1 := hr x (by rw [ho]; simp [Op.operands])
  have h2 := hr y (by rw [ho]; simp [Op.operands])
  rw [hx] at h1
  rw [hy] at h2
  refine ⟨.bool false, F, w, ?_, .d (.v _), Ext.refl hF⟩
  rcases rep_sl_sl (repS_d h1) with ⟨_, h5⟩ | ⟨ad, cap, size, vs, h5, _⟩
  · exact absurd h5 hne
  · unfold execOp
    simp only [ho, h5, repS_v h2]
    have h3 : (do eqGuard .eql t x y (.slice (some ad) els.length cap) (.slice none 0 0); binOp .eql t (.slice (some ad) els.length cap) (.slice none 0 0) : Sem Value).run P w = .ok (.bool false) w := by
      rw [Sem.run_bind, eqGuard_sl]
      exact run_slice_eq_nil w _ _ _ ht
    rw [Sem.run_bind, h3]
    rfl
end

/-! ## Contracts -/
def RetO (t ee size : Nat) (els : List (List D)) : Post := fun ex e σ => match ex with
  | .ret => ∃ id, e t = .own id ∧ (id, Ob.row ee size els) ∈ σ
  | .normal => ∃ id, e t = .own id ∧ (id, Ob.row ee size els) ∈ σ
  | _ => False
theorem ocall_of {P : Program} {f : FuncId} {fn : Func} {c : Code} {n ee size : Nat} {ds : List D} {els : List (List D)} (hf : P.funcs[f]? = some fn) (hb : fn.body = some c) (hn : (fn.name == "runtime.NumGoroutine") = false) (hN : fn.ntmps = n)
    (t : Nat) (hr : fn.results = #[.tmp t]) (hle' : Nat.ble ds.length n = true) (h : ∀ B w0 F0 fr, AWP ⟨P, n, B, w0, F0, fr, fun _ => false, fun _ => undef⟩ c (Env.args 0 ds) [] (RetO t ee size els)) : OCall P f ds ee size els := by
  have hle : ds.length ≤ n := Nat.le_of_ble_eq_true hle'
  refine ⟨Enters.of hf hn (by rw [hb]; rfl), fun F w vs hF hv => ?_⟩
  refine calls_of_wp hf hb ?_
  have hR : R ⟨P, n, w.heap.size, w, F, (fun b => w.heap.size ≤ b), fun _ => false, fun _ => undef⟩ (Env.args 0 ds) [] { tmps := vs.toArray ++ Array.replicate (fn.ntmps - vs.toArray.size) undef, defers := [] } w := by
    refine ⟨F, fun _ => undef, ?_, rfl, hF, fun b hb => hb, fun b hb => .inl hb, Kept.refl _ _, Nat.le_refl _, fun t => ?_, ⟨fun p hp => by simp at hp, fun p hp => by simp at hp, fun p hp => by simp at hp⟩, fun b hb => hb, fun p hp => by simp at hp, fun i hi => by simp at hi⟩
    · simp [hN, hv.1]; omega
    · by_cases ht : t < ds.length
      · have := Env.args_get ds 0 t ht
        rw [Nat.zero_add] at this
        rw [this]
        have hvt : t < vs.length := by rw [hv.1]; exact ht
        have : (vs.toArray ++ Array.replicate (fn.ntmps - vs.toArray.size) undef).getD t undef = vs[t] := by
          rw [Array.getD_eq_getD_getElem?, Array.getElem?_append_left (by simpa using hvt)]
          simp [hvt]
        rw [this]
        exact .d (hv.2 t hvt ht)
      · have := Env.args_out ds 0 t (by omega)
        rw [Nat.zero_add] at this
        rw [this]
        exact .d (.any _)
  refine wp_mono (h _ _ _ _ _ _ hR) ?_
  rintro ex a w' ⟨e', σ', hq, F', ρ', hr'⟩
  have hres : (results fn a.tmps).run P w' = .ok (a.tmps.getD t undef) w' := by
    have key : ∀ (ts : List Nat), (List.mapM (fun r => match r with | .tmp t => pure (a.tmps.getD t undef) | .cell b t => do loadVar t (← asAddr (a.tmps.getD b undef))) (ts.map ResultVar.tmp) : Sem (List Value)).run P w' = .ok (ts.map fun t => a.tmps.getD t undef) w' := by
      intro ts
      induction ts with
      | nil => rfl
      | cons t ts ih =>
        rw [List.map_cons, List.mapM_cons, Sem.run_bind]
        simp only [Sem.run_pure, Result.andThen_ok, Sem.run_bind, ih, List.map_cons]
    unfold results
    rw [hr, Sem.run_bind]
    have h2 : (Array.mapM (fun r => match r with | ResultVar.tmp t => pure (a.tmps.getD t undef) | ResultVar.cell b t => do loadVar t (← asAddr (a.tmps.getD b undef))) (([t] : List Nat).map ResultVar.tmp).toArray : Sem (Array Value)).run P w' = .ok (([t] : List Nat).map fun t => a.tmps.getD t undef).toArray w' := by
      rw [List.mapM_toArray, Sem.run_map, key]
      rfl
    refine (congrArg (fun r => Result.andThen r _) h2).trans ?_
    simp only [Result.andThen_ok]
    rfl
  have hends : (∃ id, e' t = .own id ∧ (id, Ob.row ee size els) ∈ σ') → bodyPost P fn (fun r w' => ∃ v F', r = .returned v ∧ Ext F w F' w' ∧ ObOk w.heap.size F' (fun _ => v) w' 0 (.row ee size els)) .ret a w' := by
    rintro ⟨id, h1, h2⟩
    have h3 := hr'.env t
    rw [h1] at h3
    have h4 : a.tmps.getD t undef = ρ' id := by generalize a.tmps.getD t undef = v at h3; cases h3; rfl
    refine ⟨hr'.defers, _, hres, _, F', rfl, ⟨hr'.base, fun b hb => (hr'.new b hb).imp (fun x => x) fun x => x, hr'.lt, ⟨hr'.below.os, hr'.below.tape, hr'.below.output, hr'.below.size, fun k hk => hr'.below.block k hk (fun hf => by have h5 : w.heap.size ≤ k := hf; omega)⟩⟩, obOk_base (hr'.obs.ok _ h2) (Nat.le_refl _) h4.symm⟩
  cases ex with
  | ret => exact hends hq
  | normal => exact hends hq
  | exit id => exact hq.elim
  | goto l => exact hq.elim
  | panic c => exact hq.elim
  | outgrown => exact hq.elim
theorem XRun.callO {cx : Cx} {ops : Array Oper} {σ : Obs} {Φ : List Fr} {e : Env} {Qe : Env → Prop} {o : Oper} {l : List Oper} {fn : FuncId} {xs : List Operand} {ts : Array TypeId} {ds : List D} {ee size : Nat} {els : List (List D)} (f : Fr) (hf : f ∈ Φ) (hg : GW ops o e true) (hgn : o.guard = none) (ht : o.dst = some f.dst) (hd : Nat.blt f.dst cx.N = true)
    (ho : o.op = .call { callee := .value (.func fn), args := xs.toArray, argTypes := ts }) (ha : ArgsOk e xs ds) (h : OCall cx.P fn ds ee size els) (hob : f.ob = .row ee size els) (hs : f.s0 = .own f.id) (k : XRun cx ops σ Φ l (e.put (some f.dst) f.s0) Qe) (hfx : cx.free f.id = true := by rfl) : XRun cx ops σ Φ (o :: l) e Qe :=
  ⟨by unfold DstOk; rw [ht]; exact hd, _, .inl ⟨hg, .inl ⟨f, hf, ⟨ht, fun e0 σ _ he hfr => by
    have hev : ∀ x ∈ xs, e0.ev x = e.ev x := fun x hx => ev_same fun t hxt => he t (looks_op (by rw [ho, ← hxt]; simp [Op.operands, Call.operands, hx]))
    have ha0 : ArgsOk e0 xs ds := by
      have key : ∀ (xs : List Operand) (ds : List D), (∀ x ∈ xs, e0.ev x = e.ev x) → ArgsOk e xs ds → ArgsOk e0 xs ds := by
        intro xs
        induction xs with
        | nil => intro ds _ h; cases ds <;> exact h
        | cons x xs ih =>
          intro ds hx h
          cases ds with
          | nil => exact h
          | cons d ds =>
            obtain ⟨⟨d0, h1, h2⟩, h3⟩ := h
            exact ⟨⟨d0, (hx x (by simp)).trans h1, h2⟩, ih ds (fun y hy => hx y (by simp [hy])) h3⟩
      exact key xs ds hev ha
    exact AOps.callO f.id hgn ht hd ho ha0 h hfr (.nil ⟨by rw [hs], by rw [hob]⟩) hfx⟩, rfl⟩⟩, by rw [ht]; exact k⟩
theorem acall_ofRT {T : World → Prop} {P : Program} {f : FuncId} {fn : Func} {c : Code} {n : Nat} {ds ds' : List D} (hf : P.funcs[f]? = some fn) (hb : fn.body = some c) (hn : (fn.name == "runtime.NumGoroutine") = false) (hN : fn.ntmps = n)
    (rs : List ResultVar) (hr : fn.results = rs.toArray) (hle' : Nat.ble ds.length n = true) (h : ∀ B w0 F0, T w0 → AWP ⟨P, n, B, w0, F0, (fun b => w0.heap.size ≤ b), fun _ => false, fun _ => undef⟩ c (Env.args 0 ds) [] (RetQR P rs ds')) : ACallT P T f ds (retOf ds') := by
  have hle : ds.length ≤ n := Nat.le_of_ble_eq_true hle'
  refine ⟨Enters.of hf hn (by rw [hb]; rfl), fun F w vs hT hF hv => ?_⟩
  refine calls_of_wp hf hb ?_
  have hR : R ⟨P, n, w.heap.size, w, F, (fun b => w.heap.size ≤ b), fun _ => false, fun _ => undef⟩ (Env.args 0 ds) [] { tmps := vs.toArray ++ Array.replicate (fn.ntmps - vs.toArray.size) undef, defers := [] } w := by
    refine ⟨F, fun _ => undef, ?_, rfl, hF, fun b hb => hb, fun b hb => .inl hb, Kept.refl _ _, Nat.le_refl _, fun t => ?_, ⟨fun p hp => by simp at hp, fun p hp => by simp at hp, fun p hp => by simp at hp⟩, fun b hb => hb, fun p hp => by simp at hp, fun i hi => by simp at hi⟩
    · simp [hN, hv.1]; omega
    · by_cases ht : t < ds.length
      · have := Env.args_get ds 0 t ht
        rw [Nat.zero_add] at this
        rw [this]
        have hvt : t < vs.length := by rw [hv.1]; exact ht
        have : (vs.toArray ++ Array.replicate (fn.ntmps - vs.toArray.size) undef).getD t undef = vs[t] := by
          rw [Array.getD_eq_getD_getElem?, Array.getElem?_append_left (by simpa using hvt)]
          simp [hvt]
        rw [this]
        exact .d (hv.2 t hvt ht)
      · have := Env.args_out ds 0 t (by omega)
        rw [Nat.zero_add] at this
        rw [this]
        exact .d (.any _)
  refine wp_mono (h _ _ _ hT _ _ hR) ?_
  rintro ex a w' ⟨e', σ', hq, F', ρ', hr'⟩
  have hends : RetRs P e' σ' rs ds' → bodyPost P fn (fun e w' => ∃ v F', e = .returned v ∧ Rep F' w' v (retOf ds') ∧ Ext F w F' w') .ret a w' := by
    intro hq
    obtain ⟨vs', hrun, hl⟩ := RetRs.rep hr' hq
    have hres : (results fn a.tmps).run P w' = .ok (match vs' with | [x] => x | l => .tuple l.toArray) w' := by
      unfold results
      rw [hr, Sem.run_bind]
      have h2 : (Array.mapM (fun r => match r with | ResultVar.tmp t => pure (a.tmps.getD t undef) | ResultVar.cell b t => do loadVar t (← asAddr (a.tmps.getD b undef))) rs.toArray : Sem (Array Value)).run P w' = .ok vs'.toArray w' := by
        rw [List.mapM_toArray, Sem.run_map]
        have h4 : (List.mapM (fun r => match r with | ResultVar.tmp t => pure (a.tmps.getD t undef) | ResultVar.cell b t => do loadVar t (← asAddr (a.tmps.getD b undef))) rs : Sem (List Value)).run P w' = .ok vs' w' := hrun
        rw [h4]
        rfl
      refine (congrArg (fun r => Result.andThen r _) h2).trans ?_
      simp only [Result.andThen_ok]
      rcases vs' with _ | ⟨t, _ | ⟨t2, ts⟩⟩ <;> rfl
    refine ⟨hr'.defers, _, hres, _, endF F' ρ' σ', rfl, ?_, endF_ext hr' (fun b hb => hb)⟩
    obtain ⟨h1, h2⟩ := hl
    rcases ds' with _ | ⟨d, _ | ⟨d2, ds'⟩⟩
    · have : vs' = [] := List.eq_nil_of_length_eq_zero h1
      subst this
      exact .tup [] [] rfl (fun i h1 => absurd h1 (by simp))
    · rcases vs' with _ | ⟨x, _ | ⟨y, vs'⟩⟩ <;> simp at h1
      exact h2 0 (by simp) (by simp)
    · rcases vs' with _ | ⟨x, _ | ⟨y, vs'⟩⟩
      · simp at h1
      · simp at h1
      · exact .tup _ _ h1 h2
  cases ex with
  | ret => exact hends hq
  | normal => exact hends hq
  | exit id => exact hq.elim
  | goto l => exact hq.elim
  | panic c => exact hq.elim
  | outgrown => exact hq.elim

end Go.Proofs.YtekenfknoakboaaDoor


namespace Go.Proofs.YtekenfknoakboaaDoor
open Go.RowKit
set_option linter.unusedVariables false

/-- One operation, from worlds that keep what was there at the beginning. -/
def AOpK (cx : Cx) (ops : Array Oper) (o : Oper) (e : Env) (σ : Obs) (s : S) : Prop :=
  ∀ (F : Nat → Prop) (ρ : Nat → Value) (w : World) (a : Act), Kept cx.fr cx.w0 w → (∀ b, F b → b < w.heap.size) → (∀ t, t ∈ o.looksAt ops → RepS F ρ w (a.tmps.getD t undef) (e t)) → ObsOk cx.B F ρ w σ →
    o.wp cx.P a w (fun a' w' => ∃ v F', a' = a.put o.dst v ∧ RepS F' ρ w' v s ∧ Ext F w F' w') (fun _ _ _ => False)
theorem AOp.toK {cx : Cx} {ops : Array Oper} {o : Oper} {e : Env} {σ : Obs} {s : S} (h : AOp cx.P cx.B ops o e σ s) : AOpK cx ops o e σ s := fun F ρ w a _ => h F ρ w a
theorem AOpK.callT {cx : Cx} {ops : Array Oper} {o : Oper} {e : Env} {σ : Obs} {T : World → Prop} {f : FuncId} {xs : List Operand} {ts : Array TypeId} {ds : List D} {d : D} (hst : Stays T) (hfr : cx.fr = fun b => cx.w0.heap.size ≤ b) (hT : T cx.w0)
    (ho : o.op = .call { callee := .value (.func f), args := xs.toArray, argTypes := ts }) (ha : ArgsOk e xs ds) (h : ACallT cx.P T f ds d) : AOpK cx ops o e σ (.d d) := by
  intro F ρ w a hK hF hr _
  have h1 : RepL F w (xs.map a.eval) ds := ha.rep (ρ := ρ) fun t ht => hr t (looks_op (by rw [ho]; simp [Op.operands, Call.operands, ht]))
  rw [hfr] at hK
  have h2 := h.2 F w _ (hst _ _ hK hT) hF h1
  have h3 := h.1 (xs.map a.eval).toArray w
  have hx : (execOp a.eval o).run cx.P w = .ok (.enter f (xs.map a.eval).toArray) w := by
    unfold execOp
    simp only [ho, resolve, Deferred.ofValue, Act.eval, invoke, Sem.run_bind, Sem.run_pure, Result.andThen_ok]
    simpa using h3
  unfold Oper.wp
  rw [hx]
  exact h2.mono fun _ w' ⟨v, F', he, hv, hE⟩ => by subst he; exact ⟨v, F', rfl, .d hv, hE⟩

def KRun (cx : Cx) (ops : Array Oper) (σ : Obs) : List Oper → Env → (Env → Prop) → Prop
  | [], e, Qe => Qe e
  | o :: l, e, Qe => DstOk cx.N o ∧ ((∃ s, GW ops o e true ∧ AOpK cx ops o e σ s ∧ KRun cx ops σ l (e.put o.dst s) Qe) ∨ (GW ops o e false ∧ KRun cx ops σ l (e.put o.dst (.d (.v undef))) Qe))

theorem KRun.nil {cx : Cx} {ops : Array Oper} {σ : Obs} {e : Env} {Qe : Env → Prop} (h : Qe e) : KRun cx ops σ [] e Qe := h
theorem KRun.cons {cx : Cx} {ops : Array Oper} {σ : Obs} {e : Env} {Qe : Env → Prop} {o : Oper} {l : List Oper} {s : S} (hg : GW ops o e true) (hd : DstOk cx.N o) (h : AOpK cx ops o e σ s)
    (k : KRun cx ops σ l (e.put o.dst s) Qe) : KRun cx ops σ (o :: l) e Qe := ⟨hd, .inl ⟨s, hg, h, k⟩⟩
theorem KRun.skip {cx : Cx} {ops : Array Oper} {σ : Obs} {e : Env} {Qe : Env → Prop} {o : Oper} {l : List Oper} (hg : GW ops o e false) (hd : DstOk cx.N o)
    (k : KRun cx ops σ l (e.put o.dst (.d (.v undef))) Qe) : KRun cx ops σ (o :: l) e Qe := ⟨hd, .inr ⟨hg, k⟩⟩

theorem KRun.step {cx : Cx} {ops : Array Oper} {σ : Obs} {e : Env} {Qe : Env → Prop} {o : Oper} {l : List Oper} {s : S} {t : Nat} (hg : GW ops o e true) (ht : o.dst = some t) (hd : Nat.blt t cx.N = true) (h : AOpK cx ops o e σ s)
    (k : KRun cx ops σ l (e.put (some t) s) Qe) : KRun cx ops σ (o :: l) e Qe := .cons hg (by unfold DstOk; rw [ht]; exact hd) h (by rw [ht]; exact k)
theorem KRun.pass {cx : Cx} {ops : Array Oper} {σ : Obs} {e : Env} {Qe : Env → Prop} {o : Oper} {l : List Oper} {t : Nat} (hg : GW ops o e false) (ht : o.dst = some t) (hd : Nat.blt t cx.N = true)
    (k : KRun cx ops σ l (e.put (some t) (.d (.v undef))) Qe) : KRun cx ops σ (o :: l) e Qe := .skip hg (by unfold DstOk; rw [ht]; exact hd) (by rw [ht]; exact k)

def KStep (cx : Cx) (ops : Array Oper) (σ : Obs) (o : Oper) (e : Env) (s : S) : Prop :=
  (GW ops o e true ∧ AOpK cx ops o e σ s) ∨ (GW ops o e false ∧ s = .d (.v undef))

theorem KStep.same {cx : Cx} {ops : Array Oper} {σ : Obs} {o : Oper} {e e' : Env} {s : S} (h : KStep cx ops σ o e s) (he : ∀ t, t ∈ o.looksAt ops → e' t = e t) : KStep cx ops σ o e' s := by
  rcases h with ⟨h1, h2⟩ | ⟨h1, h2⟩
  · exact .inl ⟨h1.same he, fun F ρ w a hK hF ha hσ => h2 F ρ w a hK hF (fun t ht => by rw [← he t ht]; exact ha t ht) hσ⟩
  · exact .inr ⟨h1.same he, h2⟩

def anyK (cx : Cx) (ops : Array Oper) (σ : Obs) (Qe : Env → Prop) : Nat → Array Bool → Env → Prop
  | 0, listed, e => Region.ready .any ops listed = [] ∧ Qe e
  | fuel + 1, listed, e => (Region.ready .any ops listed = [] → Qe e) ∧
      ∀ i ∈ Region.ready .any ops listed, ∀ o, ops[i]? = some o → ∃ s, KStep cx ops σ o e s ∧ anyK cx ops σ Qe fuel (listed.setIfInBounds i true) (e.put o.dst s)

theorem anyK_first {cx : Cx} {ops : Array Oper} {σ : Obs} {Qe : Env → Prop} {i : Nat} {oi : Oper} {s : S} (hi : ops[i]? = some oi) :
    ∀ (fuel : Nat) (listed : Array Bool) (e : Env),
      (∀ j oj, ops[j]? = some oj → j ≠ i → listed.getD j true = false → (∀ e ∈ oj.after, Region.binds .any e = true → e.on ≠ i) → oi.apart ops oj = true) →
      i ∈ Region.ready .any ops listed → KStep cx ops σ oi e s → anyK cx ops σ Qe fuel (listed.setIfInBounds i true) (e.put oi.dst s) → anyK cx ops σ Qe (fuel + 1) listed e := by
  intro fuel
  induction fuel with
  | zero =>
    intro listed e _ hr hy H
    refine ⟨fun h => (by rw [h] at hr; cases hr), fun j hj o ho => ?_⟩
    by_cases hji : j = i
    · subst hji
      rw [hi] at ho; cases ho
      exact ⟨s, hy, H⟩
    · have := ready_mono hj hji
      rw [H.1] at this
      cases this
  | succ fuel ih =>
    intro listed e hfree hr hy H
    refine ⟨fun h => (by rw [h] at hr; cases hr), fun j hj oj hoj => ?_⟩
    by_cases hji : j = i
    · subst hji
      rw [hi] at hoj; cases hoj
      exact ⟨s, hy, H⟩
    · obtain ⟨sj, h1, h2⟩ := H.2 j (ready_mono hj hji) oj hoj
      obtain ⟨hjun, oj', hoj', hall⟩ := mem_ready.1 hj
      rw [hoj] at hoj'; cases hoj'
      have hnot : ∀ e ∈ oj.after, Region.binds .any e = true → e.on ≠ i := fun e he hb heq => by
        have h1 := hall e he hb
        have h0 := (mem_ready.1 hr).1
        rw [heq] at h1
        rcases Nat.lt_or_ge i listed.size with h' | h'
        · simp [h'] at h0 h1; rw [h0] at h1; cases h1
        · simp [Array.getElem?_eq_none h'] at h1
      obtain ⟨a1, a2, a3⟩ := Oper.apart_spec (hfree j oj hoj hji hjun hnot)
      refine ⟨sj, h1.same (fun t ht => (put_looks a1 t ht).symm), ?_⟩
      refine ih (listed.setIfInBounds j true) (e.put oj.dst sj) (fun k ok hk hki hun hno => ?_) (ready_mono hr (Ne.symm hji)) (hy.same (put_looks a3)) ?_
      · refine hfree k ok hk hki ?_ hno
        by_cases hjk : j = k
        · subst hjk; exact hjun
        · rw [getD_set_ne true hjk] at hun; exact hun
      · rw [Array.setIfInBounds_comm _ _ hji, ← Env.put_comm e oi.dst oj.dst s sj a2]
        exact h2

theorem anyK_lex {cx : Cx} {ops : Array Oper} {σ : Obs} {Qe : Env → Prop} : ∀ (l : List Oper) (k : Nat) (listed : Array Bool) (e : Env), (∀ j, l[j]? = ops[k + j]?) →
    Region.lexFrom .any ops l.length k listed = true → KRun cx ops σ l e Qe → anyK cx ops σ Qe l.length listed e
  | [], _, _, _, _, hB, h => ⟨by simpa [Region.lexFrom] using hB, h⟩
  | o :: l, k, listed, e, hl, hB, h => by
    have h0 : ops[k]? = some o := by simpa using (hl 0).symm
    simp only [List.length_cons, Region.lexFrom, Bool.and_eq_true] at hB
    obtain ⟨⟨hr, hf⟩, hB'⟩ := hB
    have hl' : ∀ j, l[j]? = ops[k + 1 + j]? := fun j => by have := hl (j + 1); simpa [Nat.add_assoc, Nat.add_comm 1 j] using this
    obtain ⟨_, ⟨s, hg, ho, hK⟩ | ⟨hg, hK⟩⟩ := h
    · exact anyK_first h0 l.length listed e (Region.free_spec h0 hf) (by simpa using hr) (.inl ⟨hg, ho⟩) (anyK_lex l (k + 1) _ _ hl' hB' hK)
    · exact anyK_first h0 l.length listed e (Region.free_spec h0 hf) (by simpa using hr) (.inr ⟨hg, rfl⟩) (anyK_lex l (k + 1) _ _ hl' hB' hK)

theorem KRun.dsts {cx : Cx} {ops : Array Oper} {σ : Obs} {Qe : Env → Prop} : ∀ (l : List Oper) (e : Env), KRun cx ops σ l e Qe → ∀ o ∈ l, DstOk cx.N o
  | [], _, _, o, ho => by cases ho
  | x :: l, e, h, o, ho => by
    obtain ⟨h1, ⟨_, _, _, h2⟩ | ⟨_, h2⟩⟩ := h <;> (cases ho with
      | head => exact h1
      | tail _ ho => exact KRun.dsts l _ h2 o ho)

theorem wpAny_of_K {cx : Cx} {ops : Array Oper} {σ : Obs} {Q : Post} (hd : ∀ o ∈ ops.toList, DstOk cx.N o) : ∀ (fuel : Nat) (listed : Array Bool) (e : Env) (a : Act) (w : World), R cx e σ a w →
    anyK cx ops σ (fun e => Q .normal e σ) fuel listed e → wpAny cx.P .any ops (lift cx Q) fuel listed a w
  | 0, _, e, _, _, hr, h => ⟨h.1, e, σ, h.2, hr⟩
  | fuel + 1, listed, e, a, w, hr, h => by
    refine ⟨fun h0 => ⟨e, σ, h.1 h0, hr⟩, fun i hi => ?_⟩
    obtain ⟨_, o, ho, _⟩ := mem_ready.1 hi
    obtain ⟨s, hs, hk⟩ := h.2 i hi o ho
    have hdo : DstOk cx.N o := hd o (Array.mem_toList_iff.2 (Array.mem_of_getElem? ho))
    unfold wpOp
    simp only [ho]
    obtain ⟨F, ρ, hr⟩ := hr
    rcases hs with ⟨hg, hop⟩ | ⟨hg, rfl⟩
    · rw [if_pos (hg.wanted (fun t _ => hr.env t))]
      refine .inl (wp_to ?_ (fun _ _ _ => False.elim) (hop F ρ w a hr.below hr.lt (fun t _ => hr.env t) hr.obs))
      rintro a' w' ⟨v, F', rfl, hv, he⟩
      exact wpAny_of_K hd fuel _ _ _ _ ⟨F', ρ, hr.put he hv hdo⟩ hk
    · rw [if_neg (by rw [hg.wanted (fun t _ => hr.env t)]; simp)]
      exact wpAny_of_K hd fuel _ _ _ _ ⟨F, ρ, hr.put (Ext.refl hr.lt) repS_undef hdo⟩ hk

/-- A region that draws its order, walked once, in the order of the text. -/
theorem AWP.drawK {cx : Cx} {id : Nat} {l : List Oper} {e : Env} {σ : Obs} {Q : Post} (hm : cx.P.follows .mixedOrders = true) (hB : Region.lexB .any l.toArray = true)
    (h : KRun cx l.toArray σ l e (fun e => Q .normal e σ)) : AWP cx (.region id l.toArray true) e σ Q := by
  intro a w ⟨F, ρ, hr⟩
  simp only [Region.lexB, Bool.and_eq_true] at hB
  have h1 := anyK_lex l 0 (Array.replicate l.toArray.size false) e (by simp) (by simpa using hB.2) h
  exact wp_region_any hm (wpAny_of_K (by simpa using KRun.dsts l e h) _ _ e a _ ⟨F, ρ, hr.drew⟩ (by simpa using h1))


theorem KRun.split {cx : Cx} {ops : Array Oper} {rest : List Oper} {e : Env} {σ : Obs} {Q : Env → Prop} (t : Nat) {b : Bool} (ht : e t = .d (.v (.bool b))) (h1 : b = true → KRun cx ops σ rest (e.put (some t) (.d (.v (.bool true)))) Q)
    (h0 : b = false → KRun cx ops σ rest (e.put (some t) (.d (.v (.bool false)))) Q) : KRun cx ops σ rest e Q := by
  cases b with
  | true => have := h1 rfl; rwa [Env.put_id ht] at this
  | false => have := h0 rfl; rwa [Env.put_id ht] at this

end Go.Proofs.YtekenfknoakboaaDoor


namespace Go.Proofs.YtekenfknoakboaaDoor
open Go.RowKit
set_option linter.unusedVariables false

/-- What it is as data, while the own objects rest. -/
inductive Snap (σ : Obs) : S → D → Prop where
  | d (x : D) : Snap σ (.d x) x
  | any (s : S) : Snap σ s .any
  | le {s : S} {d d' : D} (h : Snap σ s d) (k : Le d d') : Snap σ s d'
  | row {id e size : Nat} {els : List (List D)} (h : (id, Ob.row e size els) ∈ σ) : Snap σ (.own id) (.sl els)
  | rowS {id e size : Nat} {els : List (List S)} {ds : List (List D)} (h : (id, Ob.rowS e size els) ∈ σ) (hl : els.length = ds.length) (hs : ∀ i (h1 : i < els.length) (h2 : i < ds.length), els[i].length = ds[i].length)
      (hr : ∀ i (h1 : i < els.length) (h2 : i < ds.length) j (h3 : j < els[i].length) (h4 : j < ds[i].length), Snap σ els[i][j] ds[i][j]) : Snap σ (.own id) (.sl ds)
  | val {id : Nat} {ss : List S} {ds : List D} (h : (id, Ob.val ss) ∈ σ) (hl : ss.length = ds.length) (hr : ∀ i (h1 : i < ss.length) (h2 : i < ds.length), Snap σ ss[i] ds[i]) : Snap σ (.own id) (.agg ds)
  | ptr {id off : Nat} {ss : List S} {ds : List D} (h : (id, Ob.cells ss) ∈ σ) (hl : off + ds.length ≤ ss.length) (hr : ∀ i (h1 : off + i < ss.length) (h2 : i < ds.length), Snap σ ss[off + i] ds[i]) : Snap σ (.ptr id off) (.fp ds)
  | ptrS {id e size k : Nat} {els : List (List S)} {ds : List D} (h : (id, Ob.rowS e size els) ∈ σ) (hk : k < els.length) (hl : els[k].length = ds.length) (hr : ∀ j (h1 : j < els[k].length) (h2 : j < ds.length), Snap σ els[k][j] ds[j]) : Snap σ (.ptr id (k * size)) (.fp ds)
  | clo {f : FuncId} {caps : List Cap} {ds : List D} (hl : caps.length = ds.length) (hr : ∀ i (h1 : i < caps.length) (h2 : i < ds.length), Snap σ caps[i].toS ds[i]) : Snap σ (.clo f caps) (.clo (.func f) ds)

theorem obS_row {B : Nat} {F : Nat → Prop} {ρ : Nat → Value} {w : World} {σ : Obs} (h : ObsOk B F ρ w σ) {id ee size : Nat} {els : List (List S)} (hm : (id, Ob.rowS ee size els) ∈ σ) (hne : 0 < els.length) :
    ∃ g cap, ∃ vs : Nat → Nat → Value, ρ id = .slice (some ⟨g, 0, none⟩) els.length cap ∧ blk (ρ id) = some g ∧ els.length ≤ cap ∧ cap ≤ 9223372036854775807 ∧ (∀ k j, k < els.length → j < size → w.cell? ⟨g, k * size + j, none⟩ = some (vs k j)) ∧
      (∀ k (hk : k < els.length), els[k].length = size) ∧ (∀ k (hk : k < els.length) j (hj : j < els[k].length), (vs k j).oneCell' = true ∧ RepS F ρ w (vs k j) els[k][j]) := by
  obtain ⟨xs, h1, h2, h3, _⟩ := h.ok _ hm
  dsimp only at h1
  rcases h1.2 with ⟨_, h4⟩ | ⟨g, cap, cur, h4, h5, h6, h7, h8, _⟩
  · omega
  · exact ⟨g, cap, xs, h4, by rw [h4]; rfl, h7, by unfold maxLen at h8; omega, fun k j hk hj => row_cell h1 h4 h6 hk hj, h2, h3⟩

theorem Snap.rep {B : Nat} {F : Nat → Prop} {ρ : Nat → Value} {w : World} {σ : Obs} (hσ : ObsOk B F ρ w σ) {s : S} {d : D} (h : Snap σ s d) : ∀ x, RepS F ρ w x s → Rep (endF F ρ σ) w x d := by
  induction h with
  | d y => exact fun x hx => (repS_d hx).mono (fun b hb => .inl hb) fun _ _ => rfl
  | any s => exact fun x _ => .any x
  | le h k ih => exact fun x hx => k _ _ _ (ih x hx)
  | row hm =>
    intro x hx
    cases hx
    exact ob_rep hσ hm
  | @rowS id e size els ds hm hl hs hr ih =>
    intro x hx
    cases hx
    by_cases hne : 0 < els.length
    · obtain ⟨g, cap, vs, h1, h2, h3, h4, h5, h6, h7⟩ := obS_row hσ hm hne
      rw [h1, hl]
      refine .sl ⟨g, 0, none⟩ cap size ds vs (by omega) h4 (fun _ => .inr ⟨_, hm, h2⟩) (fun i hi => by rw [← hs i (by omega) hi]; exact h6 i (by omega)) (fun i j hi hj => ?_) (fun i j hi hj => ?_) (fun i hi j hj => ?_)
      · rw [addr_add, Nat.zero_add]; exact h5 i j (by omega) hj
      · exact (h7 i (by omega) j (by rw [h6 i (by omega)]; exact hj)).1
      · exact ih i (by omega) hi j (by rw [hs i (by omega) hi]; exact hj) hj _ (h7 i (by omega) j (by rw [hs i (by omega) hi]; exact hj)).2
    · obtain ⟨xs, h1, _⟩ := hσ.ok _ hm
      dsimp only at h1
      have h0 : els.length = 0 := by omega
      have hds : ds = [] := List.eq_nil_of_length_eq_zero (by omega)
      subst hds
      rcases h1.2 with ⟨h4, _⟩ | ⟨g, cap, cur, h4, h5, h6, h7, h8, _⟩
      · rw [h4]; exact .nil
      · rw [h4, h0]
        exact .sl ⟨g, 0, none⟩ cap size [] (fun _ _ => undef) (by simp) (by unfold maxLen at h8; omega) (fun h => absurd h (by simp)) (fun i hi => absurd hi (by simp)) (fun i j hi => absurd hi (by simp)) (fun i j hi => absurd hi (by simp)) (fun i hi => absurd hi (by simp))
  | @val id ss ds hm hl hr ih =>
    intro x hx
    cases hx
    obtain ⟨cs, h1, h2, h3⟩ := hσ.ok _ hm
    dsimp only at h1
    rw [h1]
    exact .agg cs ds (by omega) (fun i hi => (h3 i hi (by omega)).1) (fun i hi hi2 => ih i (by omega) hi2 _ (h3 i hi (by omega)).2)
  | @ptr id off ss ds hm hl hr ih =>
    intro x hx
    obtain ⟨g, ty, cs, h1, h2, h3, h4, h5, h6⟩ := hσ.ok _ hm
    dsimp only at h1
    have hv := ptr_at hx (g := g) (by rw [h1]; rfl)
    rw [hv]
    refine .fp ⟨g, off, none⟩ ds (fun j => cs.getD (off + j) undef) (.inr ⟨_, hm, by rw [h1]; rfl⟩) (fun j hj => ?_) (fun j hj => ?_) (fun j hj => ?_)
    · have hjc : off + j < cs.length := by omega
      rw [addr_add, cell_of_row w g (off + j) cs.toArray ty (0, 0) h4]
      simp [hjc]
    · have hjc : off + j < cs.length := by omega
      have := (h6 (off + j) hjc (by omega)).1
      simpa [hjc] using this
    · have hjc : off + j < cs.length := by omega
      have := ih j (by omega) hj _ (h6 (off + j) hjc (by omega)).2
      simpa [hjc] using this
  | @ptrS id e size k els ds hm hk hl hr ih =>
    intro x hx
    obtain ⟨g, cap, vs, h1, h2, h3, h4, h5, h6, h7⟩ := obS_row hσ hm (by omega)
    have hv := ptr_at hx (g := g) h2
    rw [hv]
    refine .fp ⟨g, k * size, none⟩ ds (fun j => vs k j) (.inr ⟨_, hm, h2⟩) (fun j hj => ?_) (fun j hj => ?_) (fun j hj => ?_)
    · rw [addr_add]
      exact h5 k j hk (by rw [← h6 k hk]; omega)
    · exact (h7 k hk j (by omega)).1
    · exact ih j (by omega) hj _ (h7 k hk j (by omega)).2
  | @clo f caps ds hl hr ih =>
    intro x hx
    cases hx with
    | clo _ cs _ hcs =>
      have h1 := hcs.toS
      have h2 : cs.length = caps.length := by simpa using h1.1
      refine .clo (.func f) cs ds (by omega) fun i hi hi2 => ih i (by omega) hi2 _ ?_
      have h3 := h1.2 i hi (by simp; omega)
      rw [List.getElem_map] at h3
      exact h3

/-- Data that holds no memory. -/
inductive Plain : D → Prop where
  | v (x : Value) : Plain (.v x)
  | any : Plain .any
  | agg (ds : List D) (h : ∀ d ∈ ds, Plain d) : Plain (.agg ds)
  | tup (ds : List D) (h : ∀ d ∈ ds, Plain d) : Plain (.tup ds)
theorem Plain.rep {d : D} (h : Plain d) {F F' : Nat → Prop} {w w' : World} : ∀ x, Rep F w x d → Rep F' w' x d := by
  induction h with
  | v y => intro x hx; cases hx; exact .v _
  | any => exact fun x _ => .any x
  | agg ds h ih =>
    intro x hx
    cases hx with
    | agg cs _ hl hone hr => exact .agg cs ds hl hone fun i h1 h2 => ih _ (List.getElem_mem h2) _ (hr i h1 h2)
  | tup ds h ih =>
    intro x hx
    cases hx with
    | tup cs _ hl hr => exact .tup cs ds hl fun i h1 h2 => ih _ (List.getElem_mem h2) _ (hr i h1 h2)

def SnapArgs (e : Env) (σ : Obs) : List Operand → List D → Prop
  | [], [] => True
  | x :: xs, d :: ds => Snap σ (e.ev x) d ∧ SnapArgs e σ xs ds
  | _, _ => False
theorem SnapArgs.nil {e : Env} {σ : Obs} : SnapArgs e σ [] [] := trivial
theorem SnapArgs.cons {e : Env} {σ : Obs} {x : Operand} {d : D} {xs : List Operand} {ds : List D} {s : S} (hx : e.ev x = s) (h : Snap σ s d) (k : SnapArgs e σ xs ds) : SnapArgs e σ (x :: xs) (d :: ds) := ⟨hx ▸ h, k⟩
theorem SnapArgs.rep {B : Nat} {e : Env} {σ : Obs} {F : Nat → Prop} {ρ : Nat → Value} {w : World} {a : Act} (h : ObsOk B F ρ w σ) : ∀ {xs : List Operand} {ds : List D}, SnapArgs e σ xs ds → (∀ x ∈ xs, RepS F ρ w (a.eval x) (e.ev x)) → RepL (endF F ρ σ) w (xs.map a.eval) ds
  | [], [], _, _ => RepL.nil
  | x :: xs, d :: ds, hd, ha => RepL.cons (hd.1.rep h _ (ha x (by simp))) (SnapArgs.rep h hd.2 fun y hy => ha y (List.mem_cons_of_mem _ hy))
  | [], _ :: _, h, _ => h.elim
  | _ :: _, [], h, _ => h.elim
section
variable {P : Program} {B : Nat} {ops : Array Oper} {o : Oper} {e : Env} {σ : Obs}
/-- A call that only reads, of whatever is made of own objects. -/
theorem AOp.callSnap {f : FuncId} {xs : List Operand} {ts : Array TypeId} {ds : List D} {d : D}
    (ho : o.op = .call { callee := .value (.func f), args := xs.toArray, argTypes := ts }) (ha : SnapArgs e σ xs ds) (h : ACall P f ds d) (hp : Plain d) : AOp P B ops o e σ (.d d) := by
  intro F ρ w a hF hr hσ
  have hr' : ∀ y ∈ o.op.operands.toList, RepS F ρ w (a.eval y) (e.ev y) := fun y hy => ev_rep fun t ht => hr t (looks_op (by rw [← ht]; exact hy))
  have h1 := ha.rep (a := a) hσ fun x hx => hr' x (by rw [ho]; simp [Op.operands, Call.operands, hx])
  have hF2 : ∀ b, endF F ρ σ b → b < w.heap.size := by
    rintro b (hb | ⟨p, hp, hb⟩)
    · exact hF b hb
    · exact ((hσ.ok p hp).blk_lt hb).2
  have h2 := h.2 (endF F ρ σ) w _ hF2 h1
  have h3 := h.1 (xs.map a.eval).toArray w
  have hx : (execOp a.eval o).run P w = .ok (.enter f (xs.map a.eval).toArray) w := by
    unfold execOp
    simp only [ho, resolve, Deferred.ofValue, Act.eval, invoke, Sem.run_bind, Sem.run_pure, Result.andThen_ok]
    simpa using h3
  unfold Oper.wp
  rw [hx]
  refine h2.mono fun _ w' ⟨v, F', he, hv, hE⟩ => ?_
  subst he
  exact ⟨v, F, rfl, .d (hp.rep _ hv), Ext.of_below hF hE.below⟩

/-- A field of a struct with own parts. -/
theorem AOp.fieldVal {t : TypeId} {x : Operand} {f off id : Nat} {ss : List S} {s : S} (ho : o.op = .field t x f) (hf : fieldB P t f off = true) (hx : e.ev x = .own id) (hm : (id, Ob.val ss) ∈ σ) (hd : ss[off]? = some s) : AOp P B ops o e σ s :=
  .value fun F ρ w a hF hr hσ => by
  have h1 := hr x (by rw [ho]; simp [Op.operands])
  rw [hx] at h1
  obtain ⟨cs, h2, h3, h4⟩ := hσ.ok _ hm
  dsimp only at h2
  have hv : a.eval x = .agg cs.toArray := by rw [← h2]; generalize a.eval x = v at h1; cases h1; rfl
  have hlt : off < ss.length := (List.getElem?_eq_some_iff.1 hd).1
  have hde : ss[off] = s := (List.getElem?_eq_some_iff.1 hd).2
  have hlt' : off < cs.length := by omega
  refine ⟨cs[off], F, w, ?_, by rw [← hde]; exact (h4 off hlt' hlt).2, Ext.refl hF⟩
  unfold fieldB at hf
  split at hf
  · rename_i fs hu
    split at hf
    · rename_i fl hfl
      simp only [Bool.and_eq_true, beq_iff_eq] at hf
      have hsc := Scal.of hf.2 w
      unfold execOp
      simp only [ho, hv, Instr.field, Sem.run_bind, run_underlying hu, Result.andThen_ok, hfl, asAgg, Sem.run_pure, part, hsc, Bool.false_eq_true, if_false, hf.1]
      simp [hlt']
    · simp at hf
  · simp at hf

/-- One cell of a row of rows. -/
theorem AOp.loadRowS {t : TypeId} {x : Operand} {id off ee size : Nat} {els : List (List S)} {ss : List S} {s : S} (ho : o.op = .load t x) (hT : Scal P t) (hx : e.ev x = .ptr id off) (hm : (id, Ob.rowS ee size els) ∈ σ) (k j : Nat) (hoff : off = k * size + j) (hk : els[k]? = some ss) (hd : ss[j]? = some s) :
    AOp P B ops o e σ s :=
  .value fun F ρ w a hF hr hσ => by
  have h1 := hr x (by rw [ho]; simp [Op.operands])
  rw [hx] at h1
  have hlt : k < els.length := (List.getElem?_eq_some_iff.1 hk).1
  have hde : els[k] = ss := (List.getElem?_eq_some_iff.1 hk).2
  have hjl : j < ss.length := (List.getElem?_eq_some_iff.1 hd).1
  have hdd : ss[j] = s := (List.getElem?_eq_some_iff.1 hd).2
  obtain ⟨g, cap, vs, _, h2, _, _, h5, h6, h7⟩ := obS_row hσ hm (by omega)
  have hv := ptr_at h1 (g := g) h2
  have hsz := h6 k hlt
  rw [hde] at hsz
  have hc := h5 k j hlt (by omega)
  have hrep := (h7 k hlt j (by rw [hde]; exact hjl)).2
  refine ⟨vs k j, F, w, ?_, ?_, Ext.refl hF⟩
  · unfold execOp
    simp only [ho, hv, hoff, Instr.loadAt, Instr.sureAddr, loadVar, Sem.run_bind, Sem.run_pure, Result.andThen_ok, hT w, Bool.false_eq_true, if_false, run_load, hc]
  · simp only [hde, hdd] at hrep
    exact hrep
/-- What of it is data. -/
def S.weak : S → D
  | .d x => x
  | _ => .any
def Ob.weak : Ob → Ob
  | .rowS e size els => .row e size (els.map fun ss => ss.map S.weak)
  | o => o
def Obs.weak : Obs → Obs
  | [] => []
  | p :: l => (p.1, p.2.weak) :: Obs.weak l
theorem Obs.mem_weak : ∀ {σ : Obs} {p : Nat × Ob}, p ∈ Obs.weak σ → ∃ q ∈ σ, p = (q.1, q.2.weak)
  | [], _, h => by cases h
  | x :: l, p, h => by
    unfold Obs.weak at h
    cases h with
    | head => exact ⟨x, by simp, rfl⟩
    | tail _ h => obtain ⟨q, hq, he⟩ := Obs.mem_weak h; exact ⟨q, List.mem_cons_of_mem _ hq, he⟩
theorem Obs.weak_mem : ∀ {σ : Obs} {p : Nat × Ob}, p ∈ σ → (p.1, p.2.weak) ∈ Obs.weak σ
  | [], _, h => by cases h
  | x :: l, p, h => by
    unfold Obs.weak
    cases h with
    | head => exact .head _
    | tail _ h => exact .tail _ (Obs.weak_mem h)
theorem ObOk.weak {B : Nat} {F : Nat → Prop} {ρ : Nat → Value} {w : World} {id : Nat} {o : Ob} (h : ObOk B F ρ w id o) : ObOk B F ρ w id o.weak := by
  cases o with
  | rowS e size els =>
    obtain ⟨xs, h1, h2, h3, h4⟩ := h
    refine ⟨xs, by rw [List.length_map]; exact h1, fun k hk => by rw [List.getElem_map, List.length_map]; exact h2 k (by simpa using hk), fun k hk j hj => ?_, h4⟩
    have hk' : k < els.length := by simpa using hk
    have hj' : j < els[k].length := by simpa using hj
    simp only [List.getElem_map]
    refine ⟨(h3 k hk' j hj').1, ?_⟩
    have h5 := (h3 k hk' j hj').2
    cases hs : els[k][j] with
    | d x => rw [hs] at h5; exact repS_d h5
    | own i => exact .any _
    | ptr i off => exact .any _
    | clo f caps => exact .any _
  | row e size els => exact h
  | cells ss => exact h
  | map M => exact h
  | bts l => exact h
  | val ss => exact h
  | iter M done => exact h
theorem ObsOk.weak {B : Nat} {F : Nat → Prop} {ρ : Nat → Value} {w : World} {σ : Obs} (h : ObsOk B F ρ w σ) : ObsOk B F ρ w (Obs.weak σ) := by
  refine ⟨fun p hp => ?_, fun p hp q hq => ?_, fun p hp q hq he => ?_⟩
  · obtain ⟨q, hq, rfl⟩ := Obs.mem_weak hp
    exact (h.ok q hq).weak
  · obtain ⟨p', hp', rfl⟩ := Obs.mem_weak hp
    obtain ⟨q', hq', rfl⟩ := Obs.mem_weak hq
    exact h.apart p' hp' q' hq'
  · obtain ⟨p', hp', rfl⟩ := Obs.mem_weak hp
    obtain ⟨q', hq', rfl⟩ := Obs.mem_weak hq
    rw [h.uniq p' hp' q' hq' he]
/-- What only reads data of a row of rows. -/
theorem AOp.weak {s : S} (h : AOp P B ops o e (Obs.weak σ) s) : AOp P B ops o e σ s := fun F ρ w a hF hr hσ => h F ρ w a hF hr hσ.weak
end
section
variable {cx : Cx} {ops : Array Oper} {o : Oper} {rest : List Oper} {e : Env} {σ : Obs} {Q : Post}
/-- Own objects, told anew. -/
theorem AWP.obs {c : Code} {σ' : Obs} (h : ∀ p ∈ σ', p ∈ σ) (k : AWP cx c e σ' Q) : AWP cx c e σ Q := fun a w ⟨F, ρ, hr⟩ => k a w ⟨F, ρ, hr.size, hr.defers, hr.lt, hr.base, hr.new, hr.below, hr.hB, hr.env, hr.obs.sub h, hr.up, fun p hp => hr.kown p (h p hp), hr.fixed⟩
theorem AOps.obs {σ' : Obs} (h : ∀ p ∈ σ', p ∈ σ) (k : AOps cx ops rest e σ' Q) : AOps cx ops rest e σ Q := fun a w ⟨F, ρ, hr⟩ => k a w ⟨F, ρ, hr.size, hr.defers, hr.lt, hr.base, hr.new, hr.below, hr.hB, hr.env, hr.obs.sub h, hr.up, fun p hp => hr.kown p (h p hp), hr.fixed⟩
theorem AWP.obsEq {c : Code} (σ' : Obs) (h : σ = σ') (k : AWP cx c e σ' Q) : AWP cx c e σ Q := h ▸ k
theorem AOps.obsEq (σ' : Obs) (h : σ = σ') (k : AOps cx ops rest e σ' Q) : AOps cx ops rest e σ Q := h ▸ k
theorem R0.freezeSnap {F : Nat → Prop} {ρ : Nat → Value} {a : Act} {w : World} (h : R0 cx F ρ e σ a w) {t : Nat} {s : S} {d : D} {σs σ' : Obs} (ht : e t = s) (hs : Snap σs s d) (h1 : ∀ p ∈ σs, p ∈ σ) (h2 : ∀ p ∈ σ', p ∈ σ) (h3 : ∀ p ∈ σs, ∀ q ∈ σ', q.1 ≠ p.1) :
    R0 cx (endF F ρ σs) ρ (e.put (some t) (.d d)) σ' a w := by
  have hF2 : ∀ b, endF F ρ σs b → b < w.heap.size := by
    rintro b (hb | ⟨p, hp, hb⟩)
    · exact h.lt b hb
    · exact ((h.obs.ok p (h1 p hp)).blk_lt hb).2
  refine ⟨h.size, h.defers, hF2, fun b hb => .inl (h.base b hb), ?_, h.below, h.hB, fun u => ?_, ?_, h.up, fun p hp => h.kown p (h2 p hp), h.fixed⟩
  · rintro b (hb | ⟨p, hp, hb⟩)
    · exact h.new b hb
    · exact .inr (h.kown p (h1 p hp) b hb)
  · by_cases hu : u = t
    · subst hu
      rw [Env.put_same]
      have h4 := h.env u
      rw [ht] at h4
      exact .d (hs.rep (h.obs.sub h1) _ h4)
    · rw [Env.put_other _ _ _ _ hu]
      exact RepS.turn (row := none) (h.env u) h.lt (fun g hg => by simp at hg) ⟨rfl, rfl, rfl, Nat.le_refl _, fun _ _ _ => rfl⟩ (fun b hb => .inl hb)
  · refine ⟨fun p hp => ?_, fun p hp q hq => h.obs.apart p (h2 p hp) q (h2 q hq), fun p hp q hq => h.obs.uniq p (h2 p hp) q (h2 q hq)⟩
    refine (h.obs.ok p (h2 p hp)).more h.lt (fun b hb => .inl hb) ?_
    rintro g hg (hf | ⟨q, hq, hb⟩)
    · exact (h.obs.ok p (h2 p hp)).nF hg hf
    · exact h.obs.apart p (h2 p hp) q (h1 q hq) (h3 q hq p hp) g hg hb
/-- A value with own parts becomes data; its objects are gone. -/
theorem AWP.freezeSnap {c : Code} (t : Nat) {s : S} {d : D} (σs σ' : Obs) (ht : e t = s) (hs : Snap σs s d) (h1 : ∀ p ∈ σs, p ∈ σ) (h2 : ∀ p ∈ σ', p ∈ σ) (h3 : ∀ p ∈ σs, ∀ q ∈ σ', q.1 ≠ p.1) (k : AWP cx c (e.put (some t) (.d d)) σ' Q) : AWP cx c e σ Q :=
  fun a w ⟨F, ρ, hr⟩ => k a w ⟨_, ρ, hr.freezeSnap ht hs h1 h2 h3⟩
theorem AllIn.of {σ : Obs} : ∀ {l : Obs}, (∀ p ∈ l, p ∈ σ) → AllIn σ l
  | [], _ => trivial
  | x :: l, h => ⟨h x (by simp), AllIn.of fun p hp => h p (List.mem_cons_of_mem _ hp)⟩
end
end Go.Proofs.YtekenfknoakboaaDoor


namespace Go.Proofs.YtekenfknoakboaaDoor
open Go.RowKit
set_option linter.unusedVariables false

/-- One cell's worth. -/
def OneS (σ : Obs) (s : S) : Prop := (∃ x : D, s = .d x ∧ x.one = true ∧ x.parts = [x]) ∨ ∃ i ee size els, s = .own i ∧ (i, Ob.row ee size els) ∈ σ
theorem OneS.d {σ : Obs} {x : D} (h1 : x.one = true) (h2 : x.parts = [x]) : OneS σ (.d x) := .inl ⟨x, rfl, h1, h2⟩
theorem OneS.own {σ : Obs} {i ee size : Nat} {els : List (List D)} (h : (i, Ob.row ee size els) ∈ σ) : OneS σ (.own i) := .inr ⟨i, ee, size, els, rfl, h⟩
theorem OneS.cell {σ : Obs} {s : S} (h : OneS σ s) {B : Nat} {F : Nat → Prop} {ρ : Nat → Value} {w : World} (hσ : ObsOk B F ρ w σ) {u : Value} (hu : RepS F ρ w u s) : ∃ c, u.cells = #[c] ∧ c.oneCell' = true ∧ RepS F ρ w c s := by
  rcases h with ⟨x, rfl, h1, h2⟩ | ⟨i, ee, size, els, rfl, hm⟩
  · obtain ⟨h3, h4⟩ := parts_rep (repS_d hu) h1
    have hl := h3.1
    rw [h2] at hl
    have hs : u.cells.size = 1 := by simpa using hl
    obtain ⟨c, hc⟩ : ∃ c, u.cells = #[c] := by
      have : u.cells.toList.length = 1 := by simpa using hl
      obtain ⟨c, hc⟩ := List.length_eq_one_iff.1 this
      exact ⟨c, by rw [← Array.toList_inj]; exact hc⟩
    refine ⟨c, hc, h4 c (by rw [hc]; simp), .d ?_⟩
    have := h3.2 0 (by rw [hc]; simp) (by rw [h2]; simp)
    simp only [hc, h2] at this
    simpa using this
  · obtain ⟨xs, hown, _⟩ := hσ.ok _ hm
    dsimp only at hown
    have hv : u = ρ i := by cases hu; rfl
    refine ⟨ρ i, ?_, ?_, .own i⟩
    · rw [hv]; rcases hown.2 with ⟨h3, _⟩ | ⟨g', cap, cur, h3, _⟩ <;> rw [h3] <;> rfl
    · rcases hown.2 with ⟨h3, _⟩ | ⟨g', cap, cur, h3, _⟩ <;> rw [h3] <;> rfl
section
variable {cx : Cx} {ops : Array Oper} {o : Oper} {rest : List Oper} {e : Env} {σ : Obs} {Q : Post}
theorem EOp.storeRowS {t id off ee size : Nat} {x y : Operand} {s : S} {els : List (List S)} {ss : List S} (ht : o.dst = none) (ho : o.op = .store t x y) (hs : ∀ w, (sizeOf t).run cx.P w = .ok 1 w) (hx : e.ev x = .ptr id off) (hm : (id, Ob.rowS ee size els) ∈ σ)
    (hy : e.ev y = s) (h1 : OneS σ s) (k j : Nat) (hoff : off = k * size + j) (hd : els[k]? = some ss) (hj : j < size) :
    EOp cx ops o e σ (Obs.upd id (.rowS ee size (els.set k (ss.set j s))) σ) := by
  intro F ρ a w e0 hr ha
  have hop : ∀ y ∈ o.op.operands.toList, RepS F ρ w (a.eval y) (e.ev y) := fun y hy => ev_rep fun t ht => ha t (looks_op (by rw [← ht]; exact hy))
  have r1 := hop x (by rw [ho]; simp [Op.operands])
  have r2 := hop y (by rw [ho]; simp [Op.operands])
  rw [hx] at r1
  rw [hy] at r2
  obtain ⟨c, hc, hone, hcr⟩ := h1.cell hr.obs r2
  have hlt : k < els.length := (List.getElem?_eq_some_iff.1 hd).1
  have hde : els[k] = ss := (List.getElem?_eq_some_iff.1 hd).2
  obtain ⟨xs, hown, hlen, hrep, hnF⟩ := hr.obs.ok _ hm
  dsimp only at hown hnF
  have hown' : w.ownsRow cx.B ee size (ρ id) els.length (flat xs els.length size) := hown
  rcases hown'.2 with ⟨_, h0⟩ | ⟨g, cap, cur, hv, hB, hh, hn, hmx, hcs, htk⟩
  · omega
  have hblk : blk (ρ id) = some g := by rw [hv]; rfl
  have hxv := ptr_at r1 hblk
  have hle : k * size + size ≤ els.length * size := by rw [← Nat.succ_mul]; exact Nat.mul_le_mul_right _ hlt
  have hcap : els.length * size ≤ cap * size := Nat.mul_le_mul_right _ hn
  obtain ⟨w', h5, h6, h7⟩ := storeVar_run (P := cx.P) (off := off) (v := a.eval y) (size := 1) hs (by rw [hc]; rfl) (cur := cur.toList) (by simpa using hh) (by rw [Array.length_toList]; omega) (by rw [hc]; intro u hu; simp at hu; rw [hu]; exact hone)
  unfold Oper.wp execOp
  simp only [ho, Instr.storeAt, hxv, Instr.sureAddr, Sem.run_bind, Sem.run_pure, Result.andThen_ok, h5]
  refine ⟨by rw [ht]; rfl, fun e2 hr2 => ⟨F, ρ, ?_⟩⟩
  have keep : ∀ {u : Value} {s : S}, RepS F ρ w u s → RepS F ρ w' u s := fun h => h.turn hr.lt (fun g' hg' => by rw [← Option.some.inj hg']; exact hnF g hblk) h6 (fun b hb => hb)
  rw [hc] at h7
  refine hr2.writeOb hblk hm hB (hnF g hblk) h6 ⟨fun i p => if i = k ∧ j ≤ p ∧ p < j + [c].length then [c].getD (p - j) undef else xs i p, ?_, fun i hi => ?_, fun i hi p hp => ?_, hnF⟩
  · rw [List.length_set]
    have hst := flat_store xs els.length size k j [c] hlt (by simp; omega)
    refine ⟨flat_length _ _ _, .inr ⟨g, cap, _, hv, hB, h7, hn, hmx, ?_, ?_⟩⟩
    · simp only [List.size_toArray, List.length_append, List.length_take, List.length_drop, Array.length_toList, hcs, List.length_cons, List.length_nil]
      omega
    · refine Eq.trans ?_ hst
      rw [← htk]
      have hcl : cur.toList.length = cap * size := by rw [Array.length_toList]; exact hcs
      rw [hoff]
      apply List.ext_getElem?
      intro p
      by_cases hp : p < els.length * size
      · rw [List.getElem?_take, if_pos hp, get3, get3]
        simp only [List.length_take, hcl, List.getElem?_take, List.getElem?_drop, List.length_cons, List.length_nil]
        rw [Nat.min_eq_left (show k * size + j ≤ cap * size by omega), Nat.min_eq_left (show k * size + j ≤ min (els.length * size) (cap * size) by omega)]
        by_cases c1 : p < k * size + j
        · simp [c1, hp]
        · by_cases c2 : p < k * size + j + (0 + 1)
          · simp only [c1, c2, if_false, if_true]
          · simp only [c1, c2, if_false]
            rw [if_pos (by omega)]
      · rw [List.getElem?_eq_none (by rw [List.length_take]; omega), List.getElem?_eq_none (by
          simp only [List.length_append, List.length_take, List.length_drop, hcl, List.length_cons, List.length_nil]
          omega)]
  · rw [List.getElem_set]
    split
    · rw [List.length_set]
      have := hlen k hlt
      rw [hde] at this
      exact this
    · exact hlen i _
  · rw [List.length_set] at hi
    have hk2 := hlen k hlt
    rw [hde] at hk2
    simp only [List.getElem_set] at hp ⊢
    by_cases hik : k = i
    · subst hik
      simp only [if_true, List.length_set] at hp ⊢
      by_cases c1 : p = j
      · subst c1
        rw [if_pos ⟨trivial, Nat.le_refl _, by simp⟩]
        refine ⟨by simpa using hone, ?_⟩
        rw [List.getElem_set_self]
        simpa using keep hcr
      · rw [if_neg (by rintro ⟨_, h8, h9⟩; simp at h9; omega)]
        have h10 := hrep k hlt p (by rw [hde]; exact hp)
        simp only [hde] at h10
        rw [List.getElem_set_ne (fun h => c1 h.symm)]
        exact ⟨h10.1, keep h10.2⟩
    · simp only [hik, if_false] at hp ⊢
      rw [if_neg (by rintro ⟨h8, _⟩; exact hik h8.symm)]
      exact ⟨(hrep i hi p hp).1, keep (hrep i hi p hp).2⟩
/-- A row is a row of whatever. -/
theorem ObOk.toS {B : Nat} {F : Nat → Prop} {ρ : Nat → Value} {w : World} {id e size : Nat} {els : List (List D)} (h : ObOk B F ρ w id (.row e size els)) : ObOk B F ρ w id (.rowS e size (els.map fun ds => ds.map S.d)) := by
  obtain ⟨xs, h1, h2, h3, h4⟩ := h
  refine ⟨xs, by rw [List.length_map]; exact h1, fun k hk => by rw [List.getElem_map, List.length_map]; exact h2 k (by simpa using hk), fun k hk j hj => ?_, h4⟩
  have hk' : k < els.length := by simpa using hk
  have hj' : j < els[k].length := by simpa using hj
  simp only [List.getElem_map]
  exact ⟨(h3 k hk' j hj').1, .d (h3 k hk' j hj').2⟩
theorem R0.reOb {F : Nat → Prop} {ρ : Nat → Value} {a : Act} {w : World} (h : R0 cx F ρ e σ a w) {id : Nat} {o o' : Ob} (hm : (id, o) ∈ σ) (ho : ObOk cx.B F ρ w id o') : R0 cx F ρ e (Obs.upd id o' σ) a w := by
  refine ⟨h.size, h.defers, h.lt, h.base, h.new, h.below, h.hB, h.env, ⟨fun p hp => ?_, fun p hp q hq hne => ?_, fun p hp q hq he => ?_⟩, h.up, fun p hp => ?_, h.fixed⟩
  · rcases Obs.mem_upd hp with ⟨rfl, _⟩ | ⟨h1, _⟩
    · exact ho
    · exact h.obs.ok p h1
  · rcases Obs.mem_upd hp with ⟨rfl, _⟩ | ⟨h1, _⟩
    · rcases Obs.mem_upd hq with ⟨rfl, _⟩ | ⟨h2, _⟩
      · exact absurd rfl hne
      · exact h.obs.apart (id, o) hm q h2 hne
    · rcases Obs.mem_upd hq with ⟨rfl, _⟩ | ⟨h2, _⟩
      · exact h.obs.apart p h1 (id, o) hm hne
      · exact h.obs.apart p h1 q h2 hne
  · rcases Obs.mem_upd hp with ⟨rfl, _⟩ | ⟨h1, h3⟩
    · rcases Obs.mem_upd hq with ⟨rfl, _⟩ | ⟨h2, h4⟩
      · rfl
      · exact absurd he.symm h4
    · rcases Obs.mem_upd hq with ⟨rfl, _⟩ | ⟨h2, _⟩
      · exact absurd he h3
      · exact h.obs.uniq p h1 q h2 he
  · rcases Obs.mem_upd hp with ⟨rfl, _⟩ | ⟨h1, _⟩
    · exact h.kown (id, o) hm
    · exact h.kown p h1
theorem AWP.rowToS {c : Code} (id : Nat) {ee size : Nat} {els : List (List D)} (hm : (id, Ob.row ee size els) ∈ σ) (k : AWP cx c e (Obs.upd id (.rowS ee size (els.map fun ds => ds.map S.d)) σ) Q) : AWP cx c e σ Q :=
  fun a w ⟨F, ρ, hr⟩ => k a w ⟨F, ρ, hr.reOb hm (hr.obs.ok _ hm).toS⟩
/-- A struct with own parts, loaded out of own cells. -/
theorem AOps.loadVal {t dst : Nat} {x : Operand} {cid off size : Nat} {ss : List S} (id : Nat) (hg : o.guard = none) (ht : o.dst = some dst) (hdn : Nat.blt dst cx.N = true) (ho : o.op = .load t x) (hT : AggT cx.P t size) (hx : e.ev x = .ptr cid off) (hm : (cid, Ob.cells ss) ∈ σ) (hl : off + size ≤ ss.length) (hid : Obs.fresh id σ = true)
    (k : AOps cx ops rest ((e.kill id).put (some dst) (.own id)) ((id, .val (((ss.drop off).take size).map (S.kill id))) :: Obs.kill id σ) Q) (hfx : cx.free id = true := by rfl) : AOps cx ops (o :: rest) e σ Q := by
  intro a w ⟨F, ρ, hr⟩
  have h1 := ev_rep (e := e) (x := x) (a := a) (fun t _ => hr.env t)
  rw [hx] at h1
  obtain ⟨g, ty, cs, h2, h3, h4, h5, h6, h7⟩ := hr.obs.ok _ hm
  dsimp only at h2
  have hv := ptr_at h1 (g := g) (by rw [h2]; rfl)
  have hl2 : ((cs.drop off).take size).length = size := by rw [List.length_take, List.length_drop]; omega
  have hcells : (loadCells ⟨g, off, none⟩ ((cs.drop off).take size).length).run cx.P w = .ok ((cs.drop off).take size).toArray w := run_loadCells_list w _ _ (fun j v hj => by
    have hlt := (List.getElem?_eq_some_iff.1 hj).1
    rw [hl2] at hlt
    rw [addr_add, cell_of_row w g (off + j) cs.toArray ty (0, 0) h5, ← hj]
    simp [hlt])
  rw [hl2] at hcells
  refine wpList_plain hg fun K hK => ?_
  unfold Oper.wp execOp
  simp only [ho, hv, Instr.loadAt, Instr.sureAddr, loadVar, Sem.run_bind, Sem.run_pure, Result.andThen_ok, hT.agg w, hT.size w, if_true, hcells]
  obtain ⟨ρ', h8⟩ := hr.newObF (id := id) (dst := dst) (ob := .val (((ss.drop off).take size).map (S.kill id))) (v := .agg ((cs.drop off).take size).toArray) (Obs.fresh_spec hid) (by simpa [Nat.blt_eq] using hdn) (Ext.refl hr.lt) (by
    refine ⟨(cs.drop off).take size, by simp, by rw [hl2, List.length_map, List.length_take, List.length_drop]; omega, fun j hj hj' => ?_⟩
    have hj1 : j < size := by rw [hl2] at hj; exact hj
    simp only [List.getElem_map, List.getElem_take, List.getElem_drop]
    exact ⟨(h7 (off + j) (by omega) (by omega)).1, (h7 (off + j) (by omega) (by omega)).2.kill id (fun i hi => by simp [hi])⟩) (fun g hg => by simp [blk] at hg) hfx
  have := k _ _ ⟨F, ρ', h8⟩
  rw [← ht] at this
  exact hK _ _ this
end
/-! A family of own rows: the numbers b + k, b + k + 1, .. -/
def fam (e size : Nat) : Nat → List (List (List D)) → Obs
  | _, [] => []
  | b, x :: l => (b, .row e size x) :: fam e size (b + 1) l
theorem fam_get {e size : Nat} : ∀ {b : Nat} {l : List (List (List D))} {k : Nat} {x : List (List D)}, l[k]? = some x → (b + k, Ob.row e size x) ∈ fam e size b l
  | b, y :: l, 0, x, h => by
    have : y = x := by simpa using h
    subst this
    exact .head _
  | b, y :: l, k + 1, x, h => by
    have := fam_get (e := e) (size := size) (b := b + 1) (l := l) (k := k) (x := x) (by simpa using h)
    rw [show b + 1 + k = b + (k + 1) by omega] at this
    exact .tail _ this
theorem fam_mem {e size : Nat} : ∀ {b : Nat} {l : List (List (List D))} {p : Nat × Ob}, p ∈ fam e size b l → ∃ k x, l[k]? = some x ∧ p = (b + k, .row e size x)
  | b, y :: l, p, h => by
    cases h with
    | head => exact ⟨0, y, rfl, rfl⟩
    | tail _ h =>
      obtain ⟨k, x, h1, h2⟩ := fam_mem h
      exact ⟨k + 1, x, by simpa using h1, by rw [h2, show b + 1 + k = b + (k + 1) by omega]⟩
theorem fam_kill {e size id : Nat} : ∀ {b : Nat} {l : List (List (List D))}, Obs.kill id (fam e size b l) = fam e size b l
  | _, [] => rfl
  | b, y :: l => by unfold fam Obs.kill; rw [fam_kill]; rfl
theorem fam_killP {e size : Nat} {c : Nat → Bool} : ∀ {b : Nat} {l : List (List (List D))}, Obs.killP c (fam e size b l) = fam e size b l
  | _, [] => rfl
  | b, y :: l => by unfold fam Obs.killP; rw [fam_killP]; rfl
theorem fam_upd_low {e size id : Nat} {o : Ob} : ∀ {b : Nat} {l : List (List (List D))}, id < b → Obs.upd id o (fam e size b l) = fam e size b l
  | _, [], _ => rfl
  | b, y :: l, h => by
    unfold fam Obs.upd
    have : Nat.beq b id = false := by rw [Bool.eq_false_iff]; intro hh; have := Nat.eq_of_beq_eq_true hh; omega
    dsimp only
    rw [this, fam_upd_low (by omega)]
theorem fam_upd {e size : Nat} {x : List (List D)} : ∀ {b : Nat} {l : List (List (List D))} {k : Nat}, k < l.length → Obs.upd (b + k) (.row e size x) (fam e size b l) = fam e size b (l.set k x)
  | b, y :: l, 0, _ => by
    unfold fam Obs.upd
    have : Nat.beq b (b + 0) = true := by simp
    dsimp only
    rw [this]
    simp only [List.set_cons_zero, Nat.add_zero]
    rw [fam_upd_low (by omega)]
  | b, y :: l, k + 1, h => by
    unfold fam Obs.upd
    have : Nat.beq b (b + (k + 1)) = false := by rw [Bool.eq_false_iff]; intro hh; have := Nat.eq_of_beq_eq_true hh; omega
    dsimp only
    rw [this]
    simp only [List.set_cons_succ]
    have h2 := fam_upd (e := e) (size := size) (x := x) (b := b + 1) (l := l) (k := k) (by simpa using h)
    rw [show b + 1 + k = b + (k + 1) by omega] at h2
    rw [h2]
theorem fam_fresh {e size id : Nat} : ∀ {b : Nat} {l : List (List (List D))}, id < b → Obs.fresh id (fam e size b l) = true
  | _, [], _ => rfl
  | b, y :: l, h => by
    unfold fam Obs.fresh
    have h2 := fam_fresh (e := e) (size := size) (id := id) (b := b + 1) (l := l) (by omega)
    have : Nat.beq b id = false := by rw [Bool.eq_false_iff]; intro hh; have := Nat.eq_of_beq_eq_true hh; omega
    simp [h2, this]
end Go.Proofs.YtekenfknoakboaaDoor


namespace Go.Proofs.YtekenfknoakboaaDoor
open Go.RowKit Go.Shelf Go.Lib Go.Sort
set_option linter.unusedVariables false
set_option linter.unusedSimpArgs false

theorem cell_top {W : World} {b i e : Nat} {cs : Array Value} {v : Value} (hb : b = W.heap.size) (hv : cs[i]? = some v) : (W.alloc (.cells cs e)).cell? ⟨b, i, none⟩ = some v := by
  subst hb
  have h : (W.alloc (.cells cs e)).heap[W.heap.size]? = some (.cells cs e (0, 0)) := heap_alloc_new W _
  rw [cell_of_row _ _ i cs e (0, 0) h, hv]
theorem rngK {α : Type} [Inhabited α] (n : Nat) (i : Nat) (h : i < n) : (Array.range n)[i]! = i := by
  rw [getElem!_pos (Array.range n) i (by simpa using h)]; simp
/-! ## A row of structs, by its elements' numbers -/
section
variable {α : Type} [Inhabited α]
theorem put_blockG (enc : α → List Value) (k : Nat) {w : World} {g n e : Nat} {cur : Array Value} {os : Array Obj} {zs : Array α} (h : w.heap[g]? = some (.cells cur e (0, 0))) :
    (Sort.grow (putRowK enc k (Sort.ahead w n) g 0 zs) os).heap[g]? = some (.cells (Sort.putCells id 0 (flatK enc k zs) cur) e (0, 0)) ∧
    (∀ j, j < w.heap.size → j ≠ g → (Sort.grow (putRowK enc k (Sort.ahead w n) g 0 zs) os).heap[j]? = w.heap[j]?) := by
  unfold putRowK
  have hg : g < w.heap.size := (Array.getElem?_eq_some_iff.1 h).1
  have hs : ∀ j, j < w.heap.size → (Sort.grow (Sort.putRow id (Sort.ahead w n) g 0 (flatK enc k zs)) os).heap[j]? = (Sort.putRow id (Sort.ahead w n) g 0 (flatK enc k zs)).heap[j]? := fun j hj => Sort.heap_grow_old _ _ (by rw [Sort.size_putRow]; exact hj)
  refine ⟨?_, fun j hj hne => ?_⟩
  · rw [hs g hg]
    show (w.heap.modify g _)[g]? = _
    rw [Array.getElem?_modify, if_pos rfl, h]
    rfl
  · rw [hs j hj]
    show (w.heap.modify g _)[j]? = _
    rw [Array.getElem?_modify, if_neg (Ne.symm hne)]
theorem put_cellsG (enc : α → List Value) (k : Nat) (zs : Array α) (cur : Array Value) (hl : zs.size * k ≤ cur.size) (i c : Nat) (hi : i < zs.size) (hc : c < k) : (Sort.putCells id 0 (flatK enc k zs) cur)[i * k + c]? = some ((enc zs[i]!)[c]!) := by
  have hk0 : 0 < k := by omega
  have hb : i * k + c < zs.size * k := by
    have := Nat.mul_le_mul_right k (show i + 1 ≤ zs.size by omega)
    rw [Nat.add_mul, Nat.one_mul] at this
    omega
  unfold Sort.putCells
  rw [Array.getElem?_mapIdx, Array.getElem?_eq_getElem (by omega), Option.map_some, if_pos ⟨Nat.zero_le _, by rw [size_flatK]; omega⟩]
  rw [Nat.sub_zero, get_flatK enc k zs _ hb]
  have e1 : (i * k + c) / k = i := by rw [Nat.mul_comm, Nat.mul_add_div hk0, Nat.div_eq_of_lt hc, Nat.add_zero]
  have e2 : (i * k + c) % k = c := by rw [Nat.mul_comm, Nat.mul_add_mod, Nat.mod_eq_of_lt hc]
  rw [e1, e2]
  rfl
end
theorem repSL_fn {F : Nat → Prop} {ρ : Nat → Value} {w : World} {vs : List Value} {id : Nat} {f : Fn} (h : RepSL F ρ w vs [.own id, .d (.clo f [])]) : vs = [ρ id, .func f #[] #[]] := by
  obtain ⟨v, u, rfl⟩ : ∃ v u, vs = [v, u] := by
    match vs, h.1 with
    | [v, u], _ => exact ⟨v, u, rfl⟩
  have h1 := h.2 0 (by simp) (by simp)
  have h2 := h.2 1 (by simp) (by simp)
  simp only [List.getElem_cons_zero, List.getElem_cons_succ] at h1 h2
  cases h1
  have h3 := repS_d h2
  cases h3 with
  | clo _ cs _ hl _ =>
    have : cs = [] := List.eq_nil_of_length_eq_zero hl
    subst this
    rfl

/-! ## Sorted lists, whatever the order -/
section
variable {α : Type} (cf : α → α → Int)
def sortF (l : List α) : List α := l.mergeSort fun x y => !(ltOf cf y x)
def DistF (l : List α) : Prop := l.Pairwise fun x y => ltOf cf x y = true ∨ ltOf cf y x = true
def RiseF (l : List α) : Prop := l.Pairwise fun x y => ltOf cf x y = true
variable {cf}
theorem sortF_perm (l : List α) : (sortF cf l).Perm l := List.mergeSort_perm l _
theorem sortF_pw (hO : SWO (ltOf cf)) (l : List α) : (sortF cf l).Pairwise fun x y => ltOf cf y x = false := by
  unfold sortF
  have := List.pairwise_mergeSort (le := fun x y => !(ltOf cf y x)) (fun a b c h1 h2 => by
    simp only [Bool.not_eq_true'] at h1 h2 ⊢
    exact hO.ntrans _ _ _ h2 h1) (fun a b => by
    rw [Bool.or_eq_true, Bool.not_eq_true', Bool.not_eq_true']
    cases h : ltOf cf b a with
    | false => exact .inl rfl
    | true => exact .inr (hO.asymmA h)) l
  exact this.imp fun h => by simpa using h
theorem distF_symm {l r : List α} (hp : l.Perm r) (h : DistF cf l) : DistF cf r := (hp.pairwise_iff (fun {a b} h => h.symm)).1 h
theorem riseF_of {l : List α} (hd : DistF cf l) (hs : l.Pairwise fun x y => ltOf cf y x = false) : RiseF cf l := by
  refine (List.Pairwise.and hd hs).imp fun {a b} ⟨h2, h3⟩ => ?_
  rcases h2 with h2 | h2
  · exact h2
  · rw [h3] at h2; cases h2
theorem sortF_rise (hO : SWO (ltOf cf)) {l : List α} (h : DistF cf l) : RiseF cf (sortF cf l) := riseF_of (distF_symm (sortF_perm l).symm h) (sortF_pw hO l)
theorem riseF_uniq (hO : SWO (ltOf cf)) {l r : List α} (h1 : RiseF cf l) (h2 : RiseF cf r) (hm : ∀ x, x ∈ l ↔ x ∈ r) : l = r := by
  have nd : ∀ {l : List α}, RiseF cf l → l.Nodup := fun h => h.imp fun {a b} hab e => by rw [e, hO.irrefl] at hab; cases hab
  have hp : l.Perm r := (List.perm_ext_iff_of_nodup (nd h1) (nd h2)).2 hm
  refine List.Perm.eq_of_pairwise (le := fun x y => ltOf cf x y = true) (fun a b _ _ h3 h4 => ?_) h1 h2 hp
  have := hO.asymmA h3
  rw [h4] at this
  cases this
theorem sortF_uniq (hO : SWO (ltOf cf)) {l r : List α} (hd : DistF cf l) (hp : r.Perm l) (hs : r.Pairwise fun x y => ltOf cf y x = false) : r = sortF cf l := by
  refine riseF_uniq hO (riseF_of (distF_symm hp.symm hd) hs) (sortF_rise hO hd) fun x => ?_
  rw [hp.mem_iff, (sortF_perm l).mem_iff]
end
/-- slices.SortFunc at structs of k cells, in whatever world. -/
structure SortT (P : Program) (sf k : Nat) : Prop where
  ent : ∀ args w, (callFunc sf args).run P w = .ok (.enter sf args) w
  nil : ∀ fv w, Calls P sf #[.slice none 0 0, fv] w fun e w' => e = .returned (.tuple #[]) ∧ w' = w
  all : ∀ (enc : Nat → List Value), (∀ x, (enc x).length = k) → (∀ x, ∀ v ∈ enc x, v.oneCell' = true) → ∀ (cf : Nat → Nat → Int), SWO (ltOf cf) → ∀ (g blk cap : Nat) (d : Array Nat) (w : World), (∀ args w, (callFunc g args).run P w = .ok (.enter g args) w) → CmpLays P g #[] enc k cf blk 0 d.size w → HoldsK enc k w blk 0 d → blk < w.heap.size → d.size < 4611686018427387904 →
    Calls P sf #[.slice (some ⟨blk, 0, none⟩) d.size cap, .func (.func g) #[] #[]] w fun e w' => e = .returned (.tuple #[]) ∧ ∃ d' n os, PermIn 0 d.size d d' ∧ SortedIn (ltOf cf) 0 d.size d' ∧ w' = sortWorldK enc k w blk 0 n d' os
section
variable {α : Type} [Inhabited α] (dz : α → List D) (k : Nat) (cf : α → α → Int)
/-- The elements' order, by a closure that looks at their cells. -/
def CmpT (P : Program) (g k : Nat) (dz : α → List D) (cf : α → α → Int) : Prop := ∀ (F : Nat → Prop) (w0 W : World) (x y : α) (xs ys : List Value), xs.length = k → ys.length = k → (∀ i (h : i < xs.length) (h' : i < (dz x).length), Rep F w0 xs[i] (dz x)[i]) → (∀ i (h : i < ys.length) (h' : i < (dz y).length), Rep F w0 ys[i] (dz y)[i]) →
  Calls P g #[.agg xs.toArray, .agg ys.toArray] W fun e w' => e = .returned (.int .i64 (cf x y)) ∧ ∃ q os', w' = grow (W.drewN q) os'
variable {dz k cf}
/-- The cells of the element with a number. -/
def encF (ys : Nat → Nat → Value) (zs : List Value) (k n i : Nat) : List Value := if i < n then (List.range k).map (ys i) else zs
def cfF (cf : α → α → Int) (xs : List α) (i j : Nat) : Int := cf (xs.getD i default) (xs.getD j default)
theorem swoF (hO : SWO (ltOf cf)) (xs : List α) : SWO (ltOf (cfF cf xs)) where
  irrefl x := hO.irrefl (xs.getD x default)
  trans x y z h1 h2 := hO.trans (xs.getD x default) (xs.getD y default) (xs.getD z default) h1 h2
  ntrans x y z h1 h2 := hO.ntrans (xs.getD x default) (xs.getD y default) (xs.getD z default) h1 h2
set_option maxHeartbeats 2000000 in
theorem sort_rcall {P : Program} {sf g : Nat} (T : SortT P sf k) (hO : SWO (ltOf cf)) (eg : ∀ args w, (callFunc g args).run P w = .ok (.enter g args) w) (hC : CmpT P g k dz cf) (hdz : ∀ x, (dz x).length = k)
    (zs : List Value) (hzl : zs.length = k) (hz1 : ∀ v ∈ zs, v.oneCell' = true) (hzr : ∀ F w i (h : i < zs.length) (h' : i < (dz default).length), Rep F w zs[i] (dz default)[i])
    (xs : List α) (hn : xs.length < 4611686018427387904) (hd : DistF cf xs) (e : Nat) : RCall P sf e k (xs.map dz) ((sortF cf xs).map dz) [.clo (.func g) []] (.tup []) := by
  intro id
  refine ⟨T.ent, fun F ρ B w vs hF hB hσ hv => ?_⟩
  obtain rfl := repSL_fn hv
  have hsl : (sortF cf xs).length = xs.length := (sortF_perm xs).length_eq
  have hl : (xs.map dz).length = xs.length := List.length_map ..
  obtain ⟨ys, h1, h2, h3, h4⟩ := hσ.ok _ (List.mem_singleton.2 rfl)
  rw [hl] at h1
  have h1' : w.ownsRow B e k (ρ id) xs.length (flat ys xs.length k) := h1
  have hcell : ∀ i, (hi : i < xs.length) → ∀ c, (hc : c < k) → (ys i c).oneCell' = true ∧ Rep F w (ys i c) ((dz xs[i])[c]'(by rw [hdz]; exact hc)) := fun i hi c hc => by
    have := h3 i (by rw [hl]; exact hi) c (by rw [List.getElem_map, hdz]; exact hc)
    simpa only [List.getElem_map] using this
  rcases h1'.2 with ⟨h5, h6⟩ | ⟨g0, cap, cur, h5, h6, h7, h8, h9, h10, h11⟩
  · have h6' := List.eq_nil_of_length_eq_zero h6
    subst h6'
    rw [h5]
    refine (T.nil (.func (.func g) #[] #[]) w).mono fun e' w' ⟨he, hw⟩ => ?_
    subst hw
    refine ⟨_, F, ρ, he, .tup [] [] rfl (fun i h1 => by simp at h1), fun _ hb => hb, fun _ hb => .inl hb, hF, Kept.refl _ _, ?_, ?_, fun _ _ => rfl⟩
    · have : (sortF cf ([] : List α)).map dz = ([] : List α).map dz := by unfold sortF; rw [List.mergeSort_nil]
      rw [this]
      exact hσ
    · intro p hp b hb
      have : p = (id, .row e k ((sortF cf ([] : List α)).map dz)) := by simpa using hp
      subst this
      rw [h5] at hb
      simp [blk] at hb
  · rw [h5]
    have hg : g0 < w.heap.size := (Array.getElem?_eq_some_iff.1 h7).1
    have hcur : ∀ i c, i < xs.length → c < k → cur[i * k + c]? = some (ys i c) := fun i c hi hc => by
      have hcc := row_cell h1' h5 h7 hi hc
      rwa [cell_of_row w g0 (i * k + c) cur e (0, 0) h7] at hcc
    have hdm : ∀ j, j < xs.length * k → j / k < xs.length ∧ j % k < k ∧ j / k * k + j % k = j := fun j hj => by
      have hk0 : 0 < k := Nat.pos_of_ne_zero fun h => by subst h; simp at hj
      exact ⟨(Nat.div_lt_iff_lt_mul hk0).2 hj, Nat.mod_lt _ hk0, by rw [Nat.mul_comm]; exact Nat.div_add_mod j k⟩
    have hE : ∀ i, (encF ys zs k xs.length i).length = k := fun i => by
      unfold encF
      split
      · simp
      · exact hzl
    have hEat : ∀ i c, i < xs.length → c < k → (encF ys zs k xs.length i)[c]! = ys i c := fun i c hi hc => by
      unfold encF
      rw [if_pos hi, getElem!_pos _ c (by simpa using hc)]
      simp
    have hH : HoldsK (encF ys zs k xs.length) k w g0 0 (Array.range xs.length) := by
      intro j hj
      have hj' : j < xs.length * k := by simpa using hj
      obtain ⟨hpi, hpc, hpe⟩ := hdm j hj'
      have h12 := hcur (j / k) (j % k) hpi hpc
      rw [hpe] at h12
      rw [Nat.zero_add, cell_of_row w g0 j cur e (0, 0) h7, h12, get_flatK _ k _ _ (by simpa using hj'), rngK (α := Nat) _ _ hpi]
      refine ⟨by rw [hEat _ _ hpi hpc]; rfl, ?_⟩
      unfold World.frozen?
      rw [h7]
      simp
    have hRep : ∀ x, ∀ i (h : i < (encF ys zs k xs.length x).length) (h' : i < (dz (xs.getD x default)).length), Rep F w (encF ys zs k xs.length x)[i] (dz (xs.getD x default))[i] := fun x i h h' => by
      have hi : i < k := by rw [hE] at h; exact h
      by_cases hx : x < xs.length
      · have e1 : (encF ys zs k xs.length x)[i] = ys x i := by
          have := hEat x i hx hi
          rwa [getElem!_pos _ i h] at this
        have e2 : xs.getD x default = xs[x] := by rw [List.getD_eq_getElem?_getD, List.getElem?_eq_getElem hx]; rfl
        simp only [e1, e2]
        exact (hcell x hx i hi).2
      · have e1 : encF ys zs k xs.length x = zs := if_neg hx
        have e2 : xs.getD x default = default := by rw [List.getD_eq_getElem?_getD, List.getElem?_eq_none (by omega)]; rfl
        simp only [e1, e2]
        exact hzr F w i (by rw [hzl]; exact hi) _
    have hL : CmpLays P g #[] (encF ys zs k xs.length) k (cfF cf xs) g0 0 (Array.range xs.length).size w := fun m os dk _ x y =>
      hC F w _ (xs.getD x default) (xs.getD y default) _ _ (hE x) (hE y) (hRep x) (hRep y)
    have h := T.all (encF ys zs k xs.length) hE
      (fun x v hv => by
        unfold encF at hv
        by_cases hx : x < xs.length
        · rw [if_pos hx] at hv
          obtain ⟨c, hc, rfl⟩ := List.mem_map.1 hv
          exact (hcell x hx c (List.mem_range.1 hc)).1
        · rw [if_neg hx] at hv
          exact hz1 v hv) (cfF cf xs) (swoF hO xs) g g0 cap (Array.range xs.length) w eg hL hH hg (by simpa using hn)
    rw [show (Array.range xs.length).size = xs.length by simp] at h
    refine h.mono fun e' w' ⟨he, d', n, os, hp, hs, hw⟩ => ?_
    obtain ⟨hp1, _, hp3⟩ := hp
    have hds : d'.size = xs.length := by rw [hp1]; simp
    have hperm : d'.toList.Perm (List.range xs.length) := by
      have e1 : d'.extract 0 xs.length = d' := by rw [← hds]; exact Array.extract_size
      have e2 : (Array.range xs.length).extract 0 xs.length = Array.range xs.length := by
        have := Array.extract_size (xs := Array.range xs.length)
        rwa [show (Array.range xs.length).size = xs.length by simp] at this
      rw [e1, e2] at hp3
      simpa using hp3
    have hlt : ∀ i, i < xs.length → d'[i]! < xs.length := fun i hi => by
      rw [getElem!_pos d' i (by omega)]
      have : d'[i] ∈ d'.toList := by rw [Array.mem_toList_iff]; exact Array.getElem_mem _
      exact List.mem_range.1 (hperm.mem_iff.1 this)
    have hsort : (d'.toList.map fun i => xs.getD i default) = sortF cf xs := by
      refine sortF_uniq hO hd ?_ ?_
      · have h12 := hperm.map fun i => xs.getD i default
        have h13 : (List.range xs.length).map (fun i => xs.getD i default) = xs := by
          apply List.ext_getElem
          · simp
          · intro i a1 a2
            simp [List.getD_eq_getElem?_getD, List.getElem?_eq_getElem a2]
        rwa [h13] at h12
      · rw [List.pairwise_map, List.pairwise_iff_getElem]
        intro i j hi hj hij
        have hj' : j < xs.length := by rw [← hds]; simpa using hj
        have h12 := hs i j (Nat.zero_le _) hij (by rw [← hds]; simpa using hj)
        rw [getElem!_pos d' i (by omega), getElem!_pos d' j (by omega)] at h12
        have h13 : ltOf cf (xs.getD d'[j] default) (xs.getD d'[i] default) = false := h12
        simpa using h13
    have hat : ∀ i, (hi : i < xs.length) → (sortF cf xs)[i]'(by rw [hsl]; exact hi) = xs[d'[i]!]'(hlt i hi) := fun i hi => by
      have h12 : (d'.toList.map fun i => xs.getD i default)[i]? = some (xs[d'[i]!]'(hlt i hi)) := by
        rw [List.getElem?_map, Array.getElem?_toList, Array.getElem?_eq_getElem (by omega)]
        have := hlt i hi
        rw [getElem!_pos d' i (by omega)] at this
        simp only [Option.map_some, List.getD_eq_getElem?_getD, List.getElem?_eq_getElem this, Option.getD_some]
        congr 1
        simp [getElem!_pos d' i (by omega)]
      rw [hsort, List.getElem?_eq_getElem (by rw [hsl]; exact hi)] at h12
      exact Option.some.inj h12
    have hw2 : w' = Sort.grow (putRowK (encF ys zs k xs.length) k (Sort.ahead w n) g0 0 d') os := hw
    obtain ⟨hb1, hb2⟩ := put_blockG (encF ys zs k xs.length) k (n := n) (os := os) (zs := d') h7
    have hsz : w.heap.size ≤ w'.heap.size := by rw [hw2, Sort.size_grow, size_putRowK]; exact Nat.le_add_right _ _
    have hob : ownB [(id, Ob.row e k (xs.map dz))] ρ g0 := ⟨_, List.mem_singleton.2 rfl, by rw [h5]; rfl⟩
    have hnF : ¬ F g0 := h4 g0 (by rw [h5]; rfl)
    have hkeep : ∀ b, F b → w'.heap[b]? = w.heap[b]? := fun b hb => by
      rw [hw2]
      exact hb2 b (hF b hb) (fun e => hnF (e ▸ hb))
    refine ⟨_, F, ρ, he, .tup [] [] rfl (fun i h1 => by simp at h1), fun _ hb => hb, fun _ hb => .inl hb, fun b hb => Nat.lt_of_lt_of_le (hF b hb) hsz, ⟨by rw [hw2]; rfl, by rw [hw2]; rfl, by rw [hw2]; rfl, hsz, fun k hk hne => ?_⟩, ?_, ?_, fun _ _ => rfl⟩
    · rw [hw2]
      exact hb2 k hk (fun he => hne (.inr (he ▸ hob)))
    · refine ⟨fun p hp => ?_, fun p hp q hq hne => ?_, fun p hp q hq _ => ?_⟩
      · have : p = (id, .row e k ((sortF cf xs).map dz)) := by simpa using hp
        subst this
        have hl2 : ((sortF cf xs).map dz).length = xs.length := by rw [List.length_map, hsl]
        have hc2 : ∀ i c, i < xs.length → c < k → (Sort.putCells _root_.id 0 (flatK (encF ys zs k xs.length) k d') cur)[i * k + c]? = some (ys d'[i]! c) := fun i c hi hc => by
          rw [put_cellsG (encF ys zs k xs.length) k d' cur (by rw [hds, h10]; exact Nat.mul_le_mul_right k h8) i c (by omega) hc, hEat _ _ (hlt i hi) hc]
        refine ⟨fun i c => ys d'[i]! c, ?_, fun i hi => by rw [List.getElem_map, hdz], fun i hi c hc => ?_, fun g' hg' => ?_⟩
        · rw [hl2]
          refine ⟨flat_length _ _ _, .inr ⟨g0, cap, _, h5, h6, by rw [hw2]; exact hb1, h8, h9, by simp [Sort.putCells, h10], ?_⟩⟩
          apply List.ext_getElem?
          intro p
          by_cases hp : p < xs.length * k
          · obtain ⟨hpi, hpc, hpe⟩ := hdm p hp
            have := flatten_get (fun i c => ys d'[i]! c) k xs.length (p / k) (p % k) hpi hpc
            rw [hpe] at this
            have h12 := hc2 (p / k) (p % k) hpi hpc
            rw [hpe] at h12
            rw [this, List.getElem?_take, if_pos hp, Array.getElem?_toList, h12]
          · rw [List.getElem?_eq_none (by rw [List.length_take]; omega)]
            exact (List.getElem?_eq_none (by have := flat_length (fun i c => ys d'[i]! c) xs.length k; unfold flat at this; rw [this]; omega)).symm
        · rw [hl2] at hi
          have hc5 : c < k := by rw [List.getElem_map, hdz] at hc; exact hc
          have h12 := hcell d'[i]! (hlt i hi) c hc5
          refine ⟨h12.1, ?_⟩
          simp only [List.getElem_map]
          have h13 := h12.2.mono (F' := F) (w' := w') (fun _ h => h) hkeep
          have e1 := hat i hi
          simp only [e1]
          exact h13
        · rw [h5] at hg'
          simp [blk] at hg'
          subst hg'
          exact hnF
      · have h1 : p = (id, .row e k ((sortF cf xs).map dz)) := by simpa using hp
        have h2 : q = (id, .row e k ((sortF cf xs).map dz)) := by simpa using hq
        rw [h1, h2] at hne
        exact absurd rfl hne
      · have h1 : p = (id, .row e k ((sortF cf xs).map dz)) := by simpa using hp
        have h2 : q = (id, .row e k ((sortF cf xs).map dz)) := by simpa using hq
        rw [h1, h2]
    · intro p hp g' hg'
      have : p = (id, .row e k ((sortF cf xs).map dz)) := by simpa using hp
      subst this
      exact .inr ⟨_, List.mem_singleton.2 rfl, hg'⟩
end
end Go.Proofs.YtekenfknoakboaaDoor


namespace Go.Proofs.YtekenfknoakboaaDoor
open Go.RowKit
set_option linter.unusedVariables false

/-! Types. -/
namespace TyM1

end TyM1
open TyM1


structure Usd where
  title : ByteArray
  units : Int
  money : Int
deriving DecidableEq
structure Rpt where
  source : ByteArray
  no : Int
  period : Int
  corrects : Int
  lines : List Usd
deriving DecidableEq
instance : Inhabited Usd := ⟨⟨⟨#[]⟩, 0, 0⟩⟩
instance : Inhabited Rpt := ⟨⟨⟨#[]⟩, 0, 0, 0, []⟩⟩
def Usd.ds (x : Usd) : List D := [.v (.string x.title), .v (.int .i64 x.units), .v (.int .i64 x.money)]
def Rpt.ds (x : Rpt) : List D := [.v (.string x.source), .v (.int .i64 x.no), .v (.int .i64 x.period), .v (.int .i64 x.corrects), .sl (x.lines.map Usd.ds)]

/-- The fault of a line, behind the one ahead of it. -/
def usdF (l : List Usd) (k : Nat) : Int :=
  if h : k < l.length then
    if titleOk l[k].title = false then 3
    else if ¬ ((0 ≤ l[k].units ∧ l[k].units ≤ 1000000000) ∧ 0 ≤ l[k].money ∧ l[k].money ≤ 1000000000) then 1
    else if 0 < k ∧ sle l[k].title (l[k-1]'(by omega)).title = true then 8 else 0
  else 0
def rptF (x : Rpt) : Int :=
  if nameOk x.source = false then 5
  else if ¬ ((1 ≤ x.no ∧ x.no ≤ 1000000) ∧ (0 ≤ x.period ∧ x.period ≤ 2400) ∧ 0 ≤ x.corrects ∧ x.corrects ≤ x.no - 1) then 1
  else if 100 < x.lines.length then 2
  else ffst (usdF x.lines) x.lines.length

open Go.Sort Go.Lib
def rCmp (a b : Rpt) : Int := if compareBytes a.source.data.toList b.source.data.toList = 0 then compareInt a.no b.no else compareBytes a.source.data.toList b.source.data.toList
def ltR (a b : Rpt) : Bool := decide (rCmp a b < 0)
def sameK (a b : Rpt) : Bool := decide (a.source = b.source) && decide (a.no = b.no)
theorem cInt0 {a b : Int} : compareInt a b = 0 ↔ a = b := by
  unfold compareInt
  split
  · omega
  · split <;> omega
theorem cIntN {a b : Int} : compareInt a b < 0 ↔ a < b := by
  unfold compareInt
  split
  · omega
  · split <;> omega
theorem cbLt : ∀ a b : List UInt8, compareBytes a b < 0 ↔ a < b
  | [], [] => by simp [compareBytes]
  | [], _ :: _ => by simp [compareBytes]
  | _ :: _, [] => by simp [compareBytes]
  | x :: a, y :: b => by
    unfold compareBytes
    rw [List.cons_lt_cons_iff]
    by_cases h1 : x < y
    · simp [h1]
    · rw [if_neg h1]
      by_cases h2 : y < x
      · rw [if_pos h2]
        have : x ≠ y := fun e => by subst e; exact UInt8.lt_irrefl _ h2
        simp [h1, this]
      · rw [if_neg h2, cbLt a b]
        have : x = y := UInt8.le_antisymm (UInt8.not_lt.1 h2) (UInt8.not_lt.1 h1)
        simp [this, UInt8.lt_irrefl]
theorem cbSelf : ∀ a : List UInt8, compareBytes a a = 0
  | [] => rfl
  | x :: a => by unfold compareBytes; simp [UInt8.lt_irrefl, cbSelf a]
theorem cbZero {a b : List UInt8} : compareBytes a b = 0 ↔ a = b := by
  refine ⟨fun h => ?_, fun h => by rw [h]; exact cbSelf b⟩
  have h1 : ¬ a < b := fun h2 => by have := (cbLt a b).2 h2; omega
  revert h h1
  induction a generalizing b with
  | nil => intro h _; cases b with
    | nil => rfl
    | cons y b => simp [compareBytes] at h
  | cons x a ih => intro h h1; cases b with
    | nil => simp [compareBytes] at h
    | cons y b =>
      unfold compareBytes at h
      split at h
      · omega
      · split at h
        · omega
        · rename_i h2 h3
          have e : x = y := UInt8.le_antisymm (UInt8.not_lt.1 h3) (UInt8.not_lt.1 h2)
          rw [e, ih h (fun h4 => by have := (cbLt a b).2 h4; omega)]
theorem baEq {a b : ByteArray} : a.data.toList = b.data.toList ↔ a = b := by
  refine ⟨fun h => ?_, fun h => by rw [h]⟩
  cases a; cases b
  exact congrArg ByteArray.mk (Array.toList_inj.1 h)
theorem ltR_iff (x y : Rpt) : ltR x y = true ↔ x.source.data.toList < y.source.data.toList ∨ (x.source = y.source ∧ x.no < y.no) := by
  unfold ltR rCmp
  rw [decide_eq_true_eq]
  by_cases h : compareBytes x.source.data.toList y.source.data.toList = 0
  · rw [if_pos h, cIntN]
    have h2 := cbZero.1 h
    constructor
    · exact fun h3 => .inr ⟨baEq.1 h2, h3⟩
    · rintro (h3 | h3)
      · rw [h2] at h3; exact absurd h3 (List.lt_irrefl _)
      · exact h3.2
  · rw [if_neg h, cbLt]
    constructor
    · exact .inl
    · rintro (h2 | h2)
      · exact h2
      · exact absurd (cbZero.2 (baEq.2 h2.1)) h
theorem sameK_iff {x y : Rpt} : sameK x y = true ↔ x.source = y.source ∧ x.no = y.no := by unfold sameK; simp
theorem sameK_cmp {x y : Rpt} : rCmp x y = 0 ↔ sameK x y = true := by
  rw [sameK_iff]
  unfold rCmp
  by_cases h : compareBytes x.source.data.toList y.source.data.toList = 0
  · rw [if_pos h, cInt0]
    have h2 := baEq.1 (cbZero.1 h)
    exact ⟨fun h3 => ⟨h2, h3⟩, fun h3 => h3.2⟩
  · rw [if_neg h]
    exact ⟨fun h2 => absurd h2 h, fun h2 => absurd (cbZero.2 (baEq.2 h2.1)) h⟩
theorem ltR_irr (x : Rpt) : ltR x x = false := by
  rw [← Bool.not_eq_true, ltR_iff]
  rintro (h | h)
  · exact List.lt_irrefl _ h
  · omega
theorem ltR_trans {x y z : Rpt} (h1 : ltR x y = true) (h2 : ltR y z = true) : ltR x z = true := by
  rw [ltR_iff] at *
  rcases h1 with h1 | h1 <;> rcases h2 with h2 | h2
  · exact .inl (List.lt_trans h1 h2)
  · exact .inl (by rw [← h2.1]; exact h1)
  · exact .inl (by rw [h1.1]; exact h2)
  · exact .inr ⟨h1.1.trans h2.1, by omega⟩
theorem ltR_tot {x y : Rpt} (h1 : ltR x y = false) (h2 : ltR y x = false) : sameK x y = true := by
  rw [← Bool.not_eq_true, ltR_iff] at h1 h2
  rw [sameK_iff]
  have a1 : ¬ x.source.data.toList < y.source.data.toList := fun h => h1 (.inl h)
  have a2 : ¬ y.source.data.toList < x.source.data.toList := fun h => h2 (.inl h)
  have e := baEq.1 (List.le_antisymm (List.not_lt.1 a2) (List.not_lt.1 a1))
  refine ⟨e, ?_⟩
  rcases Int.lt_trichotomy x.no y.no with h | h | h
  · exact absurd (.inr ⟨e, h⟩) h1
  · exact h
  · exact absurd (.inr ⟨e.symm, h⟩) h2
theorem ltR_same {x y z : Rpt} (h : sameK x y = true) : ltR x z = ltR y z ∧ ltR z x = ltR z y := by
  rw [sameK_iff] at h
  constructor <;> (rw [Bool.eq_iff_iff, ltR_iff, ltR_iff, h.1, h.2])
theorem ltR_ne {x y : Rpt} (h : ltR x y = true) : sameK x y = false := by
  cases h2 : sameK x y with
  | false => rfl
  | true => rw [(ltR_same h2).1, ltR_irr] at h; cases h
theorem sameK_symm {x y : Rpt} (h : sameK x y = true) : sameK y x = true := by rw [sameK_iff] at *; exact ⟨h.1.symm, h.2.symm⟩
theorem swoR : SWO ltR where
  irrefl := ltR_irr
  trans _ _ _ h1 h2 := ltR_trans h1 h2
  ntrans x y z h1 h2 := by
    cases h3 : ltR x z with
    | false => rfl
    | true =>
      cases h4 : ltR y x with
      | true => rw [ltR_trans h4 h3] at h2; cases h2
      | false => rw [(ltR_same (ltR_tot h1 h4)).1] at h3; rw [h3] at h2; cases h2
/-! ## Logs -/
def Rise (l : List Rpt) : Prop := l.Pairwise fun x y => ltR x y = true
def Dist (l : List Rpt) : Prop := l.Pairwise fun x y => sameK x y = false
def sortR (l : List Rpt) : List Rpt := l.mergeSort fun x y => !(ltR y x)
theorem sortR_perm (l : List Rpt) : (sortR l).Perm l := List.mergeSort_perm l _
theorem sortR_pw (l : List Rpt) : (sortR l).Pairwise fun x y => ltR y x = false := by
  unfold sortR
  have := List.pairwise_mergeSort (le := fun x y => !(ltR y x)) (fun a b c h1 h2 => by
    simp only [Bool.not_eq_true'] at h1 h2 ⊢
    exact swoR.ntrans _ _ _ h2 h1) (fun a b => by
    rw [Bool.or_eq_true, Bool.not_eq_true', Bool.not_eq_true']
    cases h : ltR b a with
    | false => exact .inl rfl
    | true => exact .inr (swoR.asymmA h)) l
  exact this.imp fun h => by simpa using h
theorem dist_symm {l r : List Rpt} (hp : l.Perm r) (h : Dist l) : Dist r :=
  (hp.pairwise_iff (R := fun x y => sameK x y = false) (fun {a b} h => by
    cases h2 : sameK b a with
    | false => rfl
    | true => rw [sameK_symm h2] at h; cases h)).1 h
theorem sortR_rise {l : List Rpt} (h : Dist l) : Rise (sortR l) := by
  have h1 := dist_symm (sortR_perm l).symm h
  refine (List.Pairwise.and h1 (sortR_pw l)).imp fun {a b} ⟨h2, h3⟩ => ?_
  cases h4 : ltR a b with
  | true => rfl
  | false => rw [ltR_tot h4 h3] at h2; cases h2
theorem rise_dist {l : List Rpt} (h : Rise l) : Dist l := h.imp ltR_ne
theorem rise_nodup {l : List Rpt} (h : Rise l) : l.Nodup := h.imp fun {a b} hab e => by rw [e, ltR_irr] at hab; cases hab
theorem rise_uniqR {l r : List Rpt} (h1 : Rise l) (h2 : Rise r) (hm : ∀ x, x ∈ l ↔ x ∈ r) : l = r := by
  have hp : l.Perm r := (List.perm_ext_iff_of_nodup (rise_nodup h1) (rise_nodup h2)).2 hm
  refine List.Perm.eq_of_pairwise (le := fun x y => ltR x y = true) (fun a b _ _ h3 h4 => ?_) h1 h2 hp
  have := ltR_trans h3 h4
  rw [ltR_irr] at this
  cases this
/-- A sorted permutation of a list whose keys differ is the sorted list. -/
theorem sortR_uniq {l r : List Rpt} (hd : Dist l) (hp : r.Perm l) (hs : r.Pairwise fun x y => ltR y x = false) : r = sortR l := by
  have hr : Rise r := by
    refine (List.Pairwise.and (dist_symm hp.symm hd) hs).imp fun {a b} ⟨h2, h3⟩ => ?_
    cases h4 : ltR a b with
    | true => rfl
    | false => rw [ltR_tot h4 h3] at h2; cases h2
  refine rise_uniqR hr (sortR_rise hd) fun x => ?_
  rw [hp.mem_iff, (sortR_perm l).mem_iff]
def hasK (a : List Rpt) (x : Rpt) : Bool := a.any fun y => sameK y x
theorem hasK_iff {a : List Rpt} {x : Rpt} : hasK a x = true ↔ ∃ y ∈ a, sameK y x = true := by unfold hasK; rw [List.any_eq_true]
def newK (a b : List Rpt) : List Rpt := b.filter fun x => !(hasK a x)
def clashB (a b : List Rpt) : Bool := b.any fun x => a.any fun y => sameK y x && !(decide (y = x))
theorem clash_no {a b : List Rpt} : clashB a b = false ↔ ∀ x ∈ b, ∀ y ∈ a, sameK y x = true → y = x := by
  unfold clashB
  rw [List.any_eq_false]
  constructor
  · intro h x hx y hy hk
    have h1 := h x hx
    rw [Bool.not_eq_true, List.any_eq_false] at h1
    have h2 := h1 y hy
    rw [hk] at h2
    simpa using h2
  · intro h x hx
    rw [Bool.not_eq_true, List.any_eq_false]
    intro y hy
    cases hk : sameK y x with
    | false => simp
    | true => simp [h x hx y hy hk]
theorem clash_symm (a b : List Rpt) : clashB a b = clashB b a := by
  have key : ∀ a b : List Rpt, clashB a b = false → clashB b a = false := fun a b h => by
    rw [clash_no] at *
    exact fun x hx y hy hk => (h y hy x hx (sameK_symm hk)).symm
  cases h : clashB a b with
  | false => exact (key a b h).symm
  | true =>
    cases h2 : clashB b a with
    | true => rfl
    | false => rw [key b a h2] at h; cases h
def uniK (a b : List Rpt) : List Rpt := sortR (a ++ newK a b)
theorem uni_mem {a b : List Rpt} (hc : clashB a b = false) (x : Rpt) : x ∈ uniK a b ↔ x ∈ a ∨ x ∈ b := by
  unfold uniK
  rw [(sortR_perm _).mem_iff, List.mem_append]
  unfold newK
  rw [List.mem_filter]
  constructor
  · rintro (h | h)
    · exact .inl h
    · exact .inr h.1
  · rintro (h | h)
    · exact .inl h
    · cases hk : hasK a x with
      | false => exact .inr ⟨h, rfl⟩
      | true =>
        obtain ⟨y, hy, hyk⟩ := hasK_iff.1 hk
        rw [← clash_no.1 hc x h y hy hyk]
        exact .inl hy
theorem uni_dist {a b : List Rpt} (ha : Rise a) (hb : Rise b) : Dist (a ++ newK a b) := by
  refine List.pairwise_append.2 ⟨rise_dist ha, (rise_dist hb).filter _, fun x hx y hy => ?_⟩
  unfold newK at hy
  rw [List.mem_filter] at hy
  cases h : sameK x y with
  | false => rfl
  | true => rw [hasK_iff.2 ⟨x, hx, h⟩] at hy; simp at hy
theorem uni_rise {a b : List Rpt} (ha : Rise a) (hb : Rise b) : Rise (uniK a b) := sortR_rise (uni_dist ha hb)
theorem uni_len (a b : List Rpt) : (uniK a b).length = (a ++ newK a b).length := (sortR_perm _).length_eq
/-- The fault of a report in a log. -/
def repF (l : List Rpt) (k : Nat) : Int :=
  if h : k < l.length then
    if rptF l[k] ≠ 0 then rptF l[k]
    else if 0 < k ∧ 0 ≤ rCmp (l[k-1]'(by omega)) l[k] then 8 else 0
  else 0
def logF (l : List Rpt) : Int := if 300 < l.length then 2 else ffst (repF l) l.length
structure Log (l : List Rpt) : Prop where
  len : l.length ≤ 300
  ok : ∀ x ∈ l, rptF x = 0
  rise : Rise l
theorem log_of {l : List Rpt} (h : logF l = 0) : Log l := by
  unfold logF at h
  by_cases h1 : 300 < l.length
  · rw [if_pos h1] at h; simp at h
  rw [if_neg h1] at h
  have h2 := ffst_all _ h
  have key : ∀ k, (hk : k < l.length) → rptF l[k] = 0 ∧ (∀ h0 : 0 < k, ltR (l[k-1]'(by omega)) l[k] = true) := fun k hk => by
    have h3 := h2 k hk
    unfold repF at h3
    rw [dif_pos hk] at h3
    by_cases h4 : rptF l[k] ≠ 0
    · rw [if_pos h4] at h3; exact absurd h3 h4
    rw [if_neg h4] at h3
    refine ⟨Decidable.not_not.1 h4, fun h0 => ?_⟩
    by_cases h5 : 0 < k ∧ 0 ≤ rCmp (l[k-1]'(by omega)) l[k]
    · rw [if_pos h5] at h3; simp at h3
    · unfold ltR
      rw [decide_eq_true_eq]
      exact Int.not_le.1 fun h6 => h5 ⟨h0, h6⟩
  refine ⟨by omega, fun x hx => ?_, ?_⟩
  · obtain ⟨k, hk, rfl⟩ := List.mem_iff_getElem.1 hx
    exact (key k hk).1
  · have step : ∀ d i, (h : i + d + 1 < l.length) → ltR l[i] l[i + d + 1] = true := by
      intro d
      induction d with
      | zero => intro i h3; exact (key (i + 1) h3).2 (by omega)
      | succ d ih => intro i h3; exact ltR_trans (ih i (by omega)) ((key (i + (d + 1) + 1) h3).2 (by omega))
    refine List.pairwise_iff_getElem.2 fun i j hi hj hij => ?_
    obtain ⟨d, rfl⟩ : ∃ d, j = i + d + 1 := ⟨j - i - 1, by omega⟩
    exact step d i hj
theorem of_log {l : List Rpt} (h : Log l) : logF l = 0 := by
  unfold logF
  rw [if_neg (by have := h.len; omega)]
  have key : ∀ n, n ≤ l.length → ffst (repF l) n = 0 := by
    intro n
    induction n with
    | zero => intro _; rfl
    | succ n ih =>
      intro hn
      refine ffst_next (ih (by omega)) ?_
      unfold repF
      rw [dif_pos (by omega), if_neg (by rw [h.ok _ (List.getElem_mem _)]; simp), if_neg]
      rintro ⟨h0, h1⟩
      have h2 := List.pairwise_iff_getElem.1 h.rise (n - 1) n (by omega) (by omega) (by omega)
      unfold ltR at h2
      rw [decide_eq_true_eq] at h2
      omega
  exact key _ (Nat.le_refl _)
/-- The fault of two logs that are joined, and what comes of them. -/
def joinF (a b : List Rpt) : Int := if logF a ≠ 0 then logF a else if logF b ≠ 0 then logF b else if clashB a b = true then 12 else if 300 < (a ++ newK a b).length then 2 else 0
def joinR (a b : List Rpt) : List Rpt := if joinF a b = 0 then uniK a b else []
structure Joins (a b : List Rpt) : Prop where
  la : Log a
  lb : Log b
  no : clashB a b = false
  len : (uniK a b).length ≤ 300
theorem joins_of {a b : List Rpt} (h : joinF a b = 0) : Joins a b := by
  unfold joinF at h
  by_cases h1 : logF a ≠ 0
  · rw [if_pos h1] at h; exact absurd h h1
  rw [if_neg h1] at h
  by_cases h2 : logF b ≠ 0
  · rw [if_pos h2] at h; exact absurd h h2
  rw [if_neg h2] at h
  by_cases h3 : clashB a b = true
  · rw [if_pos h3] at h; simp at h
  rw [if_neg h3] at h
  by_cases h4 : 300 < (a ++ newK a b).length
  · rw [if_pos h4] at h; simp at h
  exact ⟨log_of (Decidable.not_not.1 h1), log_of (Decidable.not_not.1 h2), by simpa using h3, by rw [uni_len]; omega⟩
theorem of_joins {a b : List Rpt} (h : Joins a b) : joinF a b = 0 := by
  unfold joinF
  rw [if_neg (by rw [of_log h.la]; simp), if_neg (by rw [of_log h.lb]; simp), if_neg (by rw [h.no]; simp), if_neg]
  have := h.len
  rw [uni_len] at this
  omega
theorem Joins.log {a b : List Rpt} (h : Joins a b) : Log (uniK a b) :=
  ⟨h.len, fun x hx => ((uni_mem h.no x).1 hx).elim (h.la.ok x) (h.lb.ok x), uni_rise h.la.rise h.lb.rise⟩
theorem uni_symm {a b : List Rpt} (ha : Rise a) (hb : Rise b) (hc : clashB a b = false) : uniK a b = uniK b a :=
  rise_uniqR (uni_rise ha hb) (uni_rise hb ha) fun x => by
    rw [uni_mem hc, uni_mem (by rw [clash_symm]; exact hc)]
    exact Or.comm
theorem joinF_symm {a b : List Rpt} (ha : logF a = 0) (hb : logF b = 0) : joinF a b = joinF b a := by
  have la := log_of ha
  have lb := log_of hb
  have e1 : joinF a b = if clashB a b = true then 12 else if 300 < (a ++ newK a b).length then 2 else 0 := by
    unfold joinF
    rw [if_neg (by rw [ha]; simp), if_neg (by rw [hb]; simp)]
  have e2 : joinF b a = if clashB b a = true then 12 else if 300 < (b ++ newK b a).length then 2 else 0 := by
    unfold joinF
    rw [if_neg (by rw [hb]; simp), if_neg (by rw [ha]; simp)]
  rw [e1, e2, clash_symm b a]
  by_cases hc : clashB a b = true
  · rw [if_pos hc, if_pos hc]
  · rw [if_neg hc, if_neg hc, ← uni_len, ← uni_len, uni_symm la.rise lb.rise (by simpa using hc)]
theorem joinR_symm {a b : List Rpt} (ha : logF a = 0) (hb : logF b = 0) : joinR a b = joinR b a := by
  unfold joinR
  rw [joinF_symm ha hb]
  by_cases h : joinF b a = 0
  · rw [if_pos h, if_pos h]
    have j := joins_of h
    exact uni_symm j.lb.rise j.la.rise (by rw [clash_symm]; exact j.no)
  · rw [if_neg h, if_neg h]
theorem joinR_ok {a b : List Rpt} (h : joinF a b = 0) : joinR a b = uniK a b := if_pos h
theorem join_again {a b : List Rpt} (h : joinF a b = 0) : joinF (joinR a b) b = 0 ∧ joinR (joinR a b) b = joinR a b := by
  have j := joins_of h
  have hl := j.log
  rw [joinR_ok h]
  have hc : clashB (uniK a b) b = false := clash_no.2 fun x hx y hy hk => by
    rcases (uni_mem j.no y).1 hy with hy | hy
    · exact clash_no.1 j.no x hx y hy hk
    · exact Decidable.byContradiction fun hne => by
        have hd := rise_dist j.lb.rise
        obtain ⟨i, hi, rfl⟩ := List.mem_iff_getElem.1 hx
        obtain ⟨k, hk2, rfl⟩ := List.mem_iff_getElem.1 hy
        rcases Nat.lt_trichotomy i k with h1 | h1 | h1
        · have := List.pairwise_iff_getElem.1 hd i k hi hk2 h1
          rw [sameK_symm hk] at this; cases this
        · subst h1; exact hne rfl
        · have := List.pairwise_iff_getElem.1 hd k i hk2 hi h1
          rw [hk] at this; cases this
  have he : uniK (uniK a b) b = uniK a b := rise_uniqR (uni_rise hl.rise j.lb.rise) hl.rise fun x => by
    rw [uni_mem hc, uni_mem j.no]
    exact ⟨fun h => h.elim id .inr, .inl⟩
  have hj : Joins (uniK a b) b := ⟨hl, j.lb, hc, by rw [he]; exact j.len⟩
  exact ⟨of_joins hj, by rw [joinR_ok (of_joins hj), he]⟩
theorem join_assoc {a b c : List Rpt} (h1 : joinF a b = 0) (h2 : joinF (joinR a b) c = 0) (h3 : joinF b c = 0) : joinF a (joinR b c) = 0 ∧ joinR (joinR a b) c = joinR a (joinR b c) := by
  have j1 := joins_of h1
  rw [joinR_ok h1] at h2 ⊢
  have j2 := joins_of h2
  have j3 := joins_of h3
  rw [joinR_ok h3, joinR_ok h2]
  have hl := j3.log
  have hc : clashB a (uniK b c) = false := clash_no.2 fun x hx y hy hk => by
    rcases (uni_mem j3.no x).1 hx with hx | hx
    · exact clash_no.1 j1.no x hx y hy hk
    · exact clash_no.1 j2.no x hx y ((uni_mem j1.no y).2 (.inl hy)) hk
  have he : uniK (uniK a b) c = uniK a (uniK b c) := rise_uniqR (uni_rise j1.log.rise j3.lb.rise) (uni_rise j1.la.rise hl.rise) fun x => by
    rw [uni_mem j2.no, uni_mem j1.no, uni_mem hc, uni_mem j3.no, or_assoc]
  have hj : Joins a (uniK b c) := ⟨j1.la, hl, hc, by rw [← he]; exact j2.len⟩
  exact ⟨of_joins hj, by rw [joinR_ok (of_joins hj), he]⟩
theorem join_len {a b : List Rpt} (h : joinF a b ≠ 0) : joinR a b = [] := if_neg h


end Go.Proofs.YtekenfknoakboaaDoor


namespace Go.Proofs.YtekenfknoakboaaDoor
open Go.RowKit
set_option linter.unusedVariables false

/-! Types. -/
namespace TyM2
theorem ag_40 : AggT Tryd.prog 40 5 := .of (by kernel_rfl)
theorem ag_42 : AggT Tryd.prog 42 3 := .of (by kernel_rfl)
theorem et_22 : ElemTy Tryd.prog 22 40 5 64 (.agg #[(.string ⟨#[]⟩), (.int .i64 0), (.int .i64 0), (.int .i64 0), (.slice none 0 0)]) := ⟨by kernel_rfl, by kernel_rfl, by kernel_rfl, by decide⟩
theorem et_38 : ElemTy Tryd.prog 38 42 3 32 (.agg #[(.string ⟨#[]⟩), (.int .i64 0), (.int .i64 0)]) := ⟨by kernel_rfl, by kernel_rfl, by kernel_rfl, by decide⟩
theorem et_63 : ElemTy Tryd.prog 63 3 1 8 (.int .i64 0) := ⟨by kernel_rfl, by kernel_rfl, by kernel_rfl, by decide⟩
theorem fo_40_0 : fieldOff Tryd.prog 40 0 = some 0 := by kernel_rfl
theorem fo_40_1 : fieldOff Tryd.prog 40 1 = some 1 := by kernel_rfl
theorem fo_40_2 : fieldOff Tryd.prog 40 2 = some 2 := by kernel_rfl
theorem fo_40_3 : fieldOff Tryd.prog 40 3 = some 3 := by kernel_rfl
theorem fo_40_4 : fieldOff Tryd.prog 40 4 = some 4 := by kernel_rfl
theorem fo_42_0 : fieldOff Tryd.prog 42 0 = some 0 := by kernel_rfl
theorem fo_42_1 : fieldOff Tryd.prog 42 1 = some 1 := by kernel_rfl
theorem fo_42_2 : fieldOff Tryd.prog 42 2 = some 2 := by kernel_rfl
theorem sc_3 : Scal Tryd.prog 3 := .of (by kernel_rfl)
theorem sc_38 : Scal Tryd.prog 38 := .of (by kernel_rfl)
theorem sc_9 : Scal Tryd.prog 9 := .of (by kernel_rfl)
theorem sz_40 : ∀ w, (sizeOf 40).run Tryd.prog w = .ok 5 w := SizeT.of (by kernel_rfl)
theorem sz_42 : ∀ w, (sizeOf 42).run Tryd.prog w = .ok 3 w := SizeT.of (by kernel_rfl)
theorem zt_40 : (Tryd.prog.info? 40).bind (·.zero) = some (.agg #[(.string ⟨#[]⟩), (.int .i64 0), (.int .i64 0), (.int .i64 0), (.slice none 0 0)]) := by kernel_rfl
theorem zt_42 : (Tryd.prog.info? 42).bind (·.zero) = some (.agg #[(.string ⟨#[]⟩), (.int .i64 0), (.int .i64 0)]) := by kernel_rfl
end TyM2
open TyM2


open Go.Lib
def okRpt (x : Rpt) : Prop := x.source.size ≤ 9223372036854775807 ∧ ∀ u ∈ x.lines, u.title.size ≤ 9223372036854775807
theorem rCmp_str (a b : Rpt) : rCmp a b = if strCmp a.source b.source = 0 then (if a.no < b.no then -1 else if b.no < a.no then 1 else 0) else strCmp a.source b.source := rfl
theorem orI_rpt (a b : Rpt) : orI [strCmp a.source b.source, if a.no < b.no then -1 else if b.no < a.no then 1 else 0] = rCmp a b := by
  rw [orI_two, rCmp_str]
theorem bf_1 {a b : Rpt} (h : slt a.source b.source = true) : ltR a b = true := by
  have h2 := strCmp_lt.2 h
  refine decide_eq_true ?_
  rw [rCmp_str, if_neg (by omega)]
  exact h2
theorem bf_2 {a b : Rpt} (h : slt a.source b.source = false) (hne : ¬ a.source = b.source) : ltR a b = false := by
  refine decide_eq_false ?_
  rw [rCmp_str, if_neg (fun hh => hne (strCmp_zero.1 hh))]
  intro hh
  rw [strCmp_lt.1 hh] at h; cases h
theorem bf_3 {a b : Rpt} (h : a.source = b.source) : ltR a b = decide (a.no < b.no) := by
  unfold ltR
  rw [rCmp_str, if_pos (strCmp_zero.2 h)]
  apply decide_eq_decide.2
  split
  · simp [*]
  · split <;> simp [*]
theorem ltR_no {a b : Rpt} (h : ltR a b = false) : 0 ≤ rCmp a b := by
  unfold ltR at h
  have := of_decide_eq_false h
  omega
theorem ltR_yes {a b : Rpt} (h : ltR a b = true) : ¬ 0 ≤ rCmp a b := by
  unfold ltR at h
  have := of_decide_eq_true h
  omega


set_option maxRecDepth 100000 in
set_option maxHeartbeats 1000000 in
theorem c_pRpt (x : Rpt) (hx : okRpt x) : ACallT Tryd.prog MaxT 43 [.agg x.ds] (.v (.int .i64 (rptF x))) := by
  refine acall_ofT (n := 75) (ds' := [.v (.int .i64 (rptF x))]) Tryd.func43 rfl (by kernel_rfl) rfl [2] rfl rfl ?_
  intro B w0 F0 hT
  refine AWP.seq ?_
  refine AWP.region ?_
  refine AOps.step rfl rfl rfl (AOp.box rfl rfl rfl) ?_
  refine AOps.step rfl rfl rfl (AOp.assignD rfl rfl) ?_
  refine AOps.nil ?_
  refine AWP.seq ?_
  refine AWP.block ?_
  refine AWP.seq ?_
  refine AWP.region ?_
  refine AOps.step rfl rfl rfl (AOp.fieldAddr rfl fo_40_0 rfl) ?_
  refine AOps.step rfl rfl rfl (AOp.load rfl sc_9 rfl) ?_
  refine AOps.step rfl rfl rfl (AOp.call rfl (.cons (ArgOk.rfl' rfl) .nil) (c_pName _ hx.1)) ?_
  refine AOps.step rfl rfl rfl (AOp.not rfl rfl) ?_
  refine AOps.step rfl rfl rfl (AOp.assignD rfl rfl) ?_
  refine AOps.nil ?_
  refine AWP.cond rfl (fun h1 => ?_) (fun h1 => ?_)
  · replace h1 := bnot_t h1
    have n0 := h1
    have HR : rptF x = 5 := by unfold rptF; (first | (exfalso; omega) | ((repeat (first | rw [if_pos (by first | assumption | omega)] | rw [if_neg (by first | assumption | omega)])); first | done | rfl | omega | decide))
    refine AWP.seq ?_
    refine AWP.region ?_
    refine AOps.step rfl rfl rfl (AOp.assignD rfl rfl) ?_
    refine AOps.nil ?_
    refine AWP.ret ?_
    refine ⟨RetD.eq rfl ?_, trivial⟩
    all_goals (first | rw [HR] | (rw [HX, ffst_hit (f := usdF x.lines) hk.2 (by unfold usdF; rw [dif_pos hlt]; (first | (exfalso; omega) | ((repeat (first | rw [if_pos (by first | assumption | omega)] | rw [if_neg (by first | assumption | omega)])); first | done | rfl | omega | decide))) _ hlt]; unfold usdF; rw [dif_pos hlt]; (first | (exfalso; omega) | ((repeat (first | rw [if_pos (by first | assumption | omega)] | rw [if_neg (by first | assumption | omega)])); first | done | rfl | omega | decide))) | rw [show rptF x = 1 from by unfold rptF; (first | (exfalso; omega) | ((repeat (first | rw [if_pos (by first | assumption | omega)] | rw [if_neg (by first | assumption | omega)])); first | done | rfl | omega | decide))])
  · replace h1 := bnot_f h1
    have n1 : ¬ nameOk x.source = false := by rw [h1]; decide
    refine AWP.seq ?_
    refine AWP.region ?_
    refine AOps.step rfl rfl rfl (AOp.fieldAddr rfl fo_40_1 rfl) ?_
    refine AOps.step rfl rfl rfl (AOp.load rfl sc_3 rfl) ?_
    refine AOps.step rfl rfl rfl (AOp.call rfl (.cons (ArgOk.rfl' rfl) (.cons (ArgOk.rfl' rfl) (.cons (ArgOk.rfl' rfl) .nil))) (c_pIn _ _ _)) ?_
    refine AOps.step rfl rfl rfl (AOp.not rfl rfl) ?_
    refine AOps.step rfl rfl rfl (AOp.moveD rfl rfl) ?_
    refine AOps.split 15 rfl (fun g2 => ?_) (fun g2 => ?_)
    · replace g2 := bnot_t g2; replace g2 := of_decide_eq_false g2
      refine AOps.pass ⟨15, rfl, .inl ⟨_, rfl, rfl⟩⟩ rfl rfl ?_
      refine AOps.pass ⟨15, rfl, .inl ⟨_, rfl, rfl⟩⟩ rfl rfl ?_
      refine AOps.pass ⟨15, rfl, .inl ⟨_, rfl, rfl⟩⟩ rfl rfl ?_
      refine AOps.pass ⟨15, rfl, .inl ⟨_, rfl, rfl⟩⟩ rfl rfl ?_
      refine AOps.step rfl rfl rfl (AOp.pickT rfl rfl rfl) ?_
      refine AOps.step rfl rfl rfl (AOp.moveD rfl rfl) ?_
      refine AOps.pass ⟨21, rfl, .inl ⟨_, rfl, rfl⟩⟩ rfl rfl ?_
      refine AOps.pass ⟨21, rfl, .inl ⟨_, rfl, rfl⟩⟩ rfl rfl ?_
      refine AOps.pass ⟨21, rfl, .inl ⟨_, rfl, rfl⟩⟩ rfl rfl ?_
      refine AOps.pass ⟨21, rfl, .inl ⟨_, rfl, rfl⟩⟩ rfl rfl ?_
      refine AOps.pass ⟨21, rfl, .inl ⟨_, rfl, rfl⟩⟩ rfl rfl ?_
      refine AOps.pass ⟨21, rfl, .inl ⟨_, rfl, rfl⟩⟩ rfl rfl ?_
      refine AOps.pass ⟨21, rfl, .inl ⟨_, rfl, rfl⟩⟩ rfl rfl ?_
      refine AOps.step rfl rfl rfl (AOp.pickT rfl rfl rfl) ?_
      refine AOps.step rfl rfl rfl (AOp.assignD rfl rfl) ?_
      refine AOps.nil ?_
      refine AWP.cond rfl (fun _ => ?_) (fun h => nomatch h)
      refine AWP.seq ?_
      refine AWP.region ?_
      refine AOps.step rfl rfl rfl (AOp.assignD rfl rfl) ?_
      refine AOps.nil ?_
      refine AWP.ret ?_
      refine ⟨RetD.eq rfl ?_, trivial⟩
      all_goals (first | rw [HR] | (rw [HX, ffst_hit (f := usdF x.lines) hk.2 (by unfold usdF; rw [dif_pos hlt]; (first | (exfalso; omega) | ((repeat (first | rw [if_pos (by first | assumption | omega)] | rw [if_neg (by first | assumption | omega)])); first | done | rfl | omega | decide))) _ hlt]; unfold usdF; rw [dif_pos hlt]; (first | (exfalso; omega) | ((repeat (first | rw [if_pos (by first | assumption | omega)] | rw [if_neg (by first | assumption | omega)])); first | done | rfl | omega | decide))) | rw [show rptF x = 1 from by unfold rptF; (first | (exfalso; omega) | ((repeat (first | rw [if_pos (by first | assumption | omega)] | rw [if_neg (by first | assumption | omega)])); first | done | rfl | omega | decide))])
    · replace g2 := bnot_f g2; replace g2 := of_decide_eq_true g2
      refine AOps.step ⟨15, rfl, .inl ⟨_, rfl, rfl⟩⟩ rfl rfl (AOp.fieldAddr rfl fo_40_2 rfl) ?_
      refine AOps.step ⟨15, rfl, .inl ⟨_, rfl, rfl⟩⟩ rfl rfl (AOp.load rfl sc_3 rfl) ?_
      refine AOps.step ⟨15, rfl, .inl ⟨_, rfl, rfl⟩⟩ rfl rfl (AOp.call rfl (.cons (ArgOk.rfl' rfl) (.cons (ArgOk.rfl' rfl) (.cons (ArgOk.rfl' rfl) .nil))) (c_pIn _ _ _)) ?_
      refine AOps.step ⟨15, rfl, .inl ⟨_, rfl, rfl⟩⟩ rfl rfl (AOp.not rfl rfl) ?_
      refine AOps.step rfl rfl rfl (AOp.pickF rfl rfl rfl) ?_
      refine AOps.step rfl rfl rfl (AOp.moveD rfl rfl) ?_
      refine AOps.split 21 rfl (fun g3 => ?_) (fun g3 => ?_)
      · replace g3 := bnot_t g3; replace g3 := of_decide_eq_false g3
        refine AOps.pass ⟨21, rfl, .inl ⟨_, rfl, rfl⟩⟩ rfl rfl ?_
        refine AOps.pass ⟨21, rfl, .inl ⟨_, rfl, rfl⟩⟩ rfl rfl ?_
        refine AOps.pass ⟨21, rfl, .inl ⟨_, rfl, rfl⟩⟩ rfl rfl ?_
        refine AOps.pass ⟨21, rfl, .inl ⟨_, rfl, rfl⟩⟩ rfl rfl ?_
        refine AOps.pass ⟨21, rfl, .inl ⟨_, rfl, rfl⟩⟩ rfl rfl ?_
        refine AOps.pass ⟨21, rfl, .inl ⟨_, rfl, rfl⟩⟩ rfl rfl ?_
        refine AOps.pass ⟨21, rfl, .inl ⟨_, rfl, rfl⟩⟩ rfl rfl ?_
        refine AOps.step rfl rfl rfl (AOp.pickT rfl rfl rfl) ?_
        refine AOps.step rfl rfl rfl (AOp.assignD rfl rfl) ?_
        refine AOps.nil ?_
        refine AWP.cond rfl (fun _ => ?_) (fun h => nomatch h)
        refine AWP.seq ?_
        refine AWP.region ?_
        refine AOps.step rfl rfl rfl (AOp.assignD rfl rfl) ?_
        refine AOps.nil ?_
        refine AWP.ret ?_
        refine ⟨RetD.eq rfl ?_, trivial⟩
        all_goals (first | rw [HR] | (rw [HX, ffst_hit (f := usdF x.lines) hk.2 (by unfold usdF; rw [dif_pos hlt]; (first | (exfalso; omega) | ((repeat (first | rw [if_pos (by first | assumption | omega)] | rw [if_neg (by first | assumption | omega)])); first | done | rfl | omega | decide))) _ hlt]; unfold usdF; rw [dif_pos hlt]; (first | (exfalso; omega) | ((repeat (first | rw [if_pos (by first | assumption | omega)] | rw [if_neg (by first | assumption | omega)])); first | done | rfl | omega | decide))) | rw [show rptF x = 1 from by unfold rptF; (first | (exfalso; omega) | ((repeat (first | rw [if_pos (by first | assumption | omega)] | rw [if_neg (by first | assumption | omega)])); first | done | rfl | omega | decide))])
      · replace g3 := bnot_f g3; replace g3 := of_decide_eq_true g3
        refine AOps.step ⟨21, rfl, .inl ⟨_, rfl, rfl⟩⟩ rfl rfl (AOp.fieldAddr rfl fo_40_3 rfl) ?_
        refine AOps.step ⟨21, rfl, .inl ⟨_, rfl, rfl⟩⟩ rfl rfl (AOp.load rfl sc_3 rfl) ?_
        refine AOps.step ⟨21, rfl, .inl ⟨_, rfl, rfl⟩⟩ rfl rfl (AOp.fieldAddr rfl fo_40_1 rfl) ?_
        refine AOps.step ⟨21, rfl, .inl ⟨_, rfl, rfl⟩⟩ rfl rfl (AOp.load rfl sc_3 rfl) ?_
        refine AOps.step ⟨21, rfl, .inl ⟨_, rfl, rfl⟩⟩ rfl rfl (AOp.sub64 rfl rfl rfl (by omega) (by omega)) ?_
        refine AOps.step ⟨21, rfl, .inl ⟨_, rfl, rfl⟩⟩ rfl rfl (AOp.call rfl (.cons (ArgOk.rfl' rfl) (.cons (ArgOk.rfl' rfl) (.cons (ArgOk.rfl' rfl) .nil))) (c_pIn _ _ _)) ?_
        refine AOps.step ⟨21, rfl, .inl ⟨_, rfl, rfl⟩⟩ rfl rfl (AOp.not rfl rfl) ?_
        refine AOps.step rfl rfl rfl (AOp.pickF rfl rfl rfl) ?_
        refine AOps.step rfl rfl rfl (AOp.assignD rfl rfl) ?_
        refine AOps.nil ?_
        refine AWP.cond rfl (fun h4 => ?_) (fun h4 => ?_)
        · replace h4 := bnot_t h4; replace h4 := of_decide_eq_false h4
          have HR : rptF x = 1 := by unfold rptF; (first | (exfalso; omega) | ((repeat (first | rw [if_pos (by first | assumption | omega)] | rw [if_neg (by first | assumption | omega)])); first | done | rfl | omega | decide))
          refine AWP.seq ?_
          refine AWP.region ?_
          refine AOps.step rfl rfl rfl (AOp.assignD rfl rfl) ?_
          refine AOps.nil ?_
          refine AWP.ret ?_
          refine ⟨RetD.eq rfl ?_, trivial⟩
          all_goals (first | rw [HR] | (rw [HX, ffst_hit (f := usdF x.lines) hk.2 (by unfold usdF; rw [dif_pos hlt]; (first | (exfalso; omega) | ((repeat (first | rw [if_pos (by first | assumption | omega)] | rw [if_neg (by first | assumption | omega)])); first | done | rfl | omega | decide))) _ hlt]; unfold usdF; rw [dif_pos hlt]; (first | (exfalso; omega) | ((repeat (first | rw [if_pos (by first | assumption | omega)] | rw [if_neg (by first | assumption | omega)])); first | done | rfl | omega | decide))) | rw [show rptF x = 1 from by unfold rptF; (first | (exfalso; omega) | ((repeat (first | rw [if_pos (by first | assumption | omega)] | rw [if_neg (by first | assumption | omega)])); first | done | rfl | omega | decide))])
        · replace h4 := bnot_f h4; replace h4 := of_decide_eq_true h4
          refine AWP.seq ?_
          refine AWP.region ?_
          refine AOps.step rfl rfl rfl (AOp.fieldAddr rfl fo_40_4 rfl) ?_
          refine AOps.step rfl rfl rfl (AOp.load rfl sc_38 rfl) ?_
          refine AOps.step rfl rfl rfl (AOp.lenSl rfl et_38.ht rfl) ?_
          refine AOps.step rfl rfl rfl (AOp.gtr rfl rfl rfl) ?_
          refine AOps.step rfl rfl rfl (AOp.assignD rfl rfl) ?_
          refine AOps.nil ?_
          refine AWP.cond rfl (fun h5 => ?_) (fun h5 => ?_)
          · replace h5 := of_decide_eq_true h5
            rw [List.length_map] at h5
            have HR : rptF x = 2 := by unfold rptF; (first | (exfalso; omega) | ((repeat (first | rw [if_pos (by first | assumption | omega)] | rw [if_neg (by first | assumption | omega)])); first | done | rfl | omega | decide))
            refine AWP.seq ?_
            refine AWP.region ?_
            refine AOps.step rfl rfl rfl (AOp.assignD rfl rfl) ?_
            refine AOps.nil ?_
            refine AWP.ret ?_
            refine ⟨RetD.eq rfl ?_, trivial⟩
            all_goals (first | rw [HR] | (rw [HX, ffst_hit (f := usdF x.lines) hk.2 (by unfold usdF; rw [dif_pos hlt]; (first | (exfalso; omega) | ((repeat (first | rw [if_pos (by first | assumption | omega)] | rw [if_neg (by first | assumption | omega)])); first | done | rfl | omega | decide))) _ hlt]; unfold usdF; rw [dif_pos hlt]; (first | (exfalso; omega) | ((repeat (first | rw [if_pos (by first | assumption | omega)] | rw [if_neg (by first | assumption | omega)])); first | done | rfl | omega | decide))) | rw [show rptF x = 1 from by unfold rptF; (first | (exfalso; omega) | ((repeat (first | rw [if_pos (by first | assumption | omega)] | rw [if_neg (by first | assumption | omega)])); first | done | rfl | omega | decide))])
          · replace h5 := of_decide_eq_false h5
            rw [List.length_map] at h5
            have HX : rptF x = ffst (usdF x.lines) x.lines.length := by unfold rptF; (first | (exfalso; omega) | ((repeat (first | rw [if_pos (by first | assumption | omega)] | rw [if_neg (by first | assumption | omega)])); first | done | rfl | omega | decide))
            refine AWP.skip ?_
            refine AWP.seq ?_
            refine AWP.seq ?_
            refine AWP.region ?_
            refine AOps.step rfl rfl rfl (AOp.fieldAddr rfl fo_40_4 rfl) ?_
            refine AOps.step rfl rfl rfl (AOp.load rfl sc_38 rfl) ?_
            refine AOps.step rfl rfl rfl (AOp.lenSl rfl et_38.ht rfl) ?_
            refine AOps.step rfl rfl rfl (AOp.moveD rfl rfl) ?_
            refine AOps.nil ?_
            refine AWP.block ?_
            refine AWP.loop (G := Nat) (fun k => Env.of [(38, .d (.v (.int .i64 (k : Int)))), (36, .d (.sl (x.lines.map Usd.ds))), (37, .d (.v (.int .i64 ((x.lines.map Usd.ds).length : Int)))), (1, .d (.fp x.ds))]) (fun k => []) (fun k => k ≤ x.lines.length ∧ ffst (usdF x.lines) k = 0) (fun k => x.lines.length - k) 0 ⟨Nat.zero_le _, rfl⟩ (Sub.less ⟨(SLe.of_eq rfl), SLe.refl _, SLe.refl _, SLe.refl _, trivial⟩ (fun _ h => h)) ?_
            intro k hk
            refine AWP.seq ?_
            refine AWP.region ?_
            refine AOps.step rfl rfl rfl (AOp.lss rfl rfl rfl) ?_
            refine AOps.nil ?_
            refine AWP.seq ?_
            refine AWP.cond rfl (fun h6 => ?_) (fun h6 => ?_)
            · replace h6 := of_decide_eq_true h6
              rw [List.length_map] at h6
              have hlt : k < x.lines.length := by omega
              have hbk := hx.2 _ (List.getElem_mem hlt)
              refine AWP.skip ?_
              refine AWP.seq ?_
              refine AWP.block ?_
              refine AWP.seq ?_
              refine AWP.region ?_
              refine AOps.step rfl rfl rfl (AOp.moveD rfl rfl) ?_
              refine AOps.step rfl rfl rfl (AOp.indexAddr rfl et_38 rfl rfl k rfl (at_lst hlt) rfl) ?_
              refine AOps.step rfl rfl rfl (AOp.loadAgg rfl ag_42 rfl rfl) ?_
              refine AOps.alloc 101 rfl rfl rfl rfl zt_42 rfl rfl rfl ?_
              refine AOps.step rfl rfl rfl (AOp.assignD rfl rfl) ?_
              refine AOps.store rfl rfl rfl sz_42 rfl (.head _) rfl rfl rfl (Nat.le_of_ble_eq_true rfl) ?_
              refine AOps.freezeCells 4 (ds := x.lines[k].ds) rfl (.head _) ?_
              refine AOps.nil ?_
              refine AWP.block ?_
              refine AWP.seq ?_
              refine AWP.region ?_
              refine AOps.step rfl rfl rfl (AOp.fieldAddr rfl fo_42_0 rfl) ?_
              refine AOps.step rfl rfl rfl (AOp.load rfl sc_9 rfl) ?_
              -- wants the world
              refine AOps.callT rfl rfl rfl hT maxT_stays rfl (.cons (ArgOk.rfl' rfl) .nil) (c_pTitle _ hbk) ?_
              refine AOps.step rfl rfl rfl (AOp.not rfl rfl) ?_
              refine AOps.step rfl rfl rfl (AOp.assignD rfl rfl) ?_
              refine AOps.nil ?_
              refine AWP.cond rfl (fun h7 => ?_) (fun h7 => ?_)
              · replace h7 := bnot_t h7
                refine AWP.seq ?_
                refine AWP.region ?_
                refine AOps.step rfl rfl rfl (AOp.assignD rfl rfl) ?_
                refine AOps.nil ?_
                refine AWP.ret ?_
                refine ⟨RetD.eq rfl ?_, trivial⟩
                all_goals (first | rw [HR] | (rw [HX, ffst_hit (f := usdF x.lines) hk.2 (by unfold usdF; rw [dif_pos hlt]; (first | (exfalso; omega) | ((repeat (first | rw [if_pos (by first | assumption | omega)] | rw [if_neg (by first | assumption | omega)])); first | done | rfl | omega | decide))) _ hlt]; unfold usdF; rw [dif_pos hlt]; (first | (exfalso; omega) | ((repeat (first | rw [if_pos (by first | assumption | omega)] | rw [if_neg (by first | assumption | omega)])); first | done | rfl | omega | decide))) | rw [show rptF x = 1 from by unfold rptF; (first | (exfalso; omega) | ((repeat (first | rw [if_pos (by first | assumption | omega)] | rw [if_neg (by first | assumption | omega)])); first | done | rfl | omega | decide))])
              · replace h7 := bnot_f h7
                have n4 : ¬ titleOk x.lines[k].title = false := by rw [h7]; decide
                refine AWP.seq ?_
                refine AWP.region ?_
                refine AOps.step rfl rfl rfl (AOp.fieldAddr rfl fo_42_1 rfl) ?_
                refine AOps.step rfl rfl rfl (AOp.load rfl sc_3 rfl) ?_
                refine AOps.step rfl rfl rfl (AOp.call rfl (.cons (ArgOk.rfl' rfl) (.cons (ArgOk.rfl' rfl) (.cons (ArgOk.rfl' rfl) .nil))) (c_pIn _ _ _)) ?_
                refine AOps.step rfl rfl rfl (AOp.not rfl rfl) ?_
                refine AOps.step rfl rfl rfl (AOp.moveD rfl rfl) ?_
                refine AOps.split 53 rfl (fun g8 => ?_) (fun g8 => ?_)
                · replace g8 := bnot_t g8; replace g8 := of_decide_eq_false g8
                  refine AOps.pass ⟨53, rfl, .inl ⟨_, rfl, rfl⟩⟩ rfl rfl ?_
                  refine AOps.pass ⟨53, rfl, .inl ⟨_, rfl, rfl⟩⟩ rfl rfl ?_
                  refine AOps.pass ⟨53, rfl, .inl ⟨_, rfl, rfl⟩⟩ rfl rfl ?_
                  refine AOps.pass ⟨53, rfl, .inl ⟨_, rfl, rfl⟩⟩ rfl rfl ?_
                  refine AOps.step rfl rfl rfl (AOp.pickT rfl rfl rfl) ?_
                  refine AOps.step rfl rfl rfl (AOp.assignD rfl rfl) ?_
                  refine AOps.nil ?_
                  refine AWP.cond rfl (fun _ => ?_) (fun h => nomatch h)
                  refine AWP.seq ?_
                  refine AWP.region ?_
                  refine AOps.step rfl rfl rfl (AOp.assignD rfl rfl) ?_
                  refine AOps.nil ?_
                  refine AWP.ret ?_
                  refine ⟨RetD.eq rfl ?_, trivial⟩
                  all_goals (first | rw [HR] | (rw [HX, ffst_hit (f := usdF x.lines) hk.2 (by unfold usdF; rw [dif_pos hlt]; (first | (exfalso; omega) | ((repeat (first | rw [if_pos (by first | assumption | omega)] | rw [if_neg (by first | assumption | omega)])); first | done | rfl | omega | decide))) _ hlt]; unfold usdF; rw [dif_pos hlt]; (first | (exfalso; omega) | ((repeat (first | rw [if_pos (by first | assumption | omega)] | rw [if_neg (by first | assumption | omega)])); first | done | rfl | omega | decide))) | rw [show rptF x = 1 from by unfold rptF; (first | (exfalso; omega) | ((repeat (first | rw [if_pos (by first | assumption | omega)] | rw [if_neg (by first | assumption | omega)])); first | done | rfl | omega | decide))])
                · replace g8 := bnot_f g8; replace g8 := of_decide_eq_true g8
                  refine AOps.step ⟨53, rfl, .inl ⟨_, rfl, rfl⟩⟩ rfl rfl (AOp.fieldAddr rfl fo_42_2 rfl) ?_
                  refine AOps.step ⟨53, rfl, .inl ⟨_, rfl, rfl⟩⟩ rfl rfl (AOp.load rfl sc_3 rfl) ?_
                  refine AOps.step ⟨53, rfl, .inl ⟨_, rfl, rfl⟩⟩ rfl rfl (AOp.call rfl (.cons (ArgOk.rfl' rfl) (.cons (ArgOk.rfl' rfl) (.cons (ArgOk.rfl' rfl) .nil))) (c_pIn _ _ _)) ?_
                  refine AOps.step ⟨53, rfl, .inl ⟨_, rfl, rfl⟩⟩ rfl rfl (AOp.not rfl rfl) ?_
                  refine AOps.step rfl rfl rfl (AOp.pickF rfl rfl rfl) ?_
                  refine AOps.step rfl rfl rfl (AOp.assignD rfl rfl) ?_
                  refine AOps.nil ?_
                  refine AWP.cond rfl (fun h9 => ?_) (fun h9 => ?_)
                  · replace h9 := bnot_t h9; replace h9 := of_decide_eq_false h9
                    refine AWP.seq ?_
                    refine AWP.region ?_
                    refine AOps.step rfl rfl rfl (AOp.assignD rfl rfl) ?_
                    refine AOps.nil ?_
                    refine AWP.ret ?_
                    refine ⟨RetD.eq rfl ?_, trivial⟩
                    all_goals (first | rw [HR] | (rw [HX, ffst_hit (f := usdF x.lines) hk.2 (by unfold usdF; rw [dif_pos hlt]; (first | (exfalso; omega) | ((repeat (first | rw [if_pos (by first | assumption | omega)] | rw [if_neg (by first | assumption | omega)])); first | done | rfl | omega | decide))) _ hlt]; unfold usdF; rw [dif_pos hlt]; (first | (exfalso; omega) | ((repeat (first | rw [if_pos (by first | assumption | omega)] | rw [if_neg (by first | assumption | omega)])); first | done | rfl | omega | decide))) | rw [show rptF x = 1 from by unfold rptF; (first | (exfalso; omega) | ((repeat (first | rw [if_pos (by first | assumption | omega)] | rw [if_neg (by first | assumption | omega)])); first | done | rfl | omega | decide))])
                  · replace h9 := bnot_f h9; replace h9 := of_decide_eq_true h9
                    refine AWP.seq ?_
                    refine AWP.draw (by kernel_rfl) (by kernel_rfl) ?_
                    refine DRun.step rfl rfl rfl (AOp.moveD rfl rfl) ?_
                    refine DRun.step rfl rfl rfl (AOp.gtr rfl rfl rfl) ?_
                    refine DRun.step rfl rfl rfl (AOp.moveD rfl rfl) ?_
                    refine DRun.split 62 rfl (fun g10 => ?_) (fun g10 => ?_)
                    · replace g10 := of_decide_eq_true g10
                      have hk0 : 0 < k := by omega
                      refine DRun.step ⟨62, rfl, .inl ⟨_, rfl, rfl⟩⟩ rfl rfl (AOp.fieldAddr rfl fo_42_0 rfl) ?_
                      refine DRun.step ⟨62, rfl, .inl ⟨_, rfl, rfl⟩⟩ rfl rfl (AOp.load rfl sc_9 rfl) ?_
                      refine DRun.step ⟨62, rfl, .inl ⟨_, rfl, rfl⟩⟩ rfl rfl (AOp.fieldAddr rfl fo_40_4 rfl) ?_
                      refine DRun.step ⟨62, rfl, .inl ⟨_, rfl, rfl⟩⟩ rfl rfl (AOp.load rfl sc_38 rfl) ?_
                      refine DRun.step ⟨62, rfl, .inl ⟨_, rfl, rfl⟩⟩ rfl rfl (AOp.moveD rfl rfl) ?_
                      refine DRun.step ⟨62, rfl, .inl ⟨_, rfl, rfl⟩⟩ rfl rfl (AOp.sub64 rfl rfl rfl (by omega) (by omega)) ?_
                      refine DRun.step ⟨62, rfl, .inl ⟨_, rfl, rfl⟩⟩ rfl rfl (AOp.indexAddr rfl et_38 rfl rfl (k - 1) (by omega) (at_lst (by omega)) rfl) ?_
                      refine DRun.step ⟨62, rfl, .inl ⟨_, rfl, rfl⟩⟩ rfl rfl (AOp.fieldAddr rfl fo_42_0 rfl) ?_
                      refine DRun.step ⟨62, rfl, .inl ⟨_, rfl, rfl⟩⟩ rfl rfl (AOp.load rfl sc_9 rfl) ?_
                      refine DRun.step ⟨62, rfl, .inl ⟨_, rfl, rfl⟩⟩ rfl rfl (AOp.sleq rfl rfl rfl) ?_
                      refine DRun.step rfl rfl rfl (AOp.pickT rfl rfl rfl) ?_
                      refine DRun.step rfl rfl rfl (AOp.assignD rfl rfl) ?_
                      refine DRun.nil ?_
                      refine AWP.cond rfl (fun h11 => ?_) (fun h11 => ?_)
                      · skip
                        have n5 : (0 < k ∧ sle x.lines[k].title (x.lines[k-1]'(by omega)).title = true) := ⟨hk0, h11⟩
                        refine AWP.seq ?_
                        refine AWP.region ?_
                        refine AOps.step rfl rfl rfl (AOp.assignD rfl rfl) ?_
                        refine AOps.nil ?_
                        refine AWP.ret ?_
                        refine ⟨RetD.eq rfl ?_, trivial⟩
                        all_goals (first | rw [HR] | (rw [HX, ffst_hit (f := usdF x.lines) hk.2 (by unfold usdF; rw [dif_pos hlt]; (first | (exfalso; omega) | ((repeat (first | rw [if_pos (by first | assumption | omega)] | rw [if_neg (by first | assumption | omega)])); first | done | rfl | omega | decide))) _ hlt]; unfold usdF; rw [dif_pos hlt]; (first | (exfalso; omega) | ((repeat (first | rw [if_pos (by first | assumption | omega)] | rw [if_neg (by first | assumption | omega)])); first | done | rfl | omega | decide))) | rw [show rptF x = 1 from by unfold rptF; (first | (exfalso; omega) | ((repeat (first | rw [if_pos (by first | assumption | omega)] | rw [if_neg (by first | assumption | omega)])); first | done | rfl | omega | decide))])
                      · skip
                        have n5 : ¬ (0 < k ∧ sle x.lines[k].title (x.lines[k-1]'(by omega)).title = true) := fun hh => by have h5 := hh.2; rw [show sle x.lines[k].title (x.lines[k-1]'(by omega)).title = false from h11] at h5; cases h5
                        refine AWP.skip ?_
                        refine AWP.region ?_
                        refine AOps.step rfl rfl rfl (AOp.add64 rfl rfl rfl (by omega) (by omega)) ?_
                        refine AOps.step rfl rfl rfl (AOp.moveD rfl rfl) ?_
                        refine AOps.nil ?_
                        refine ⟨k + 1, ⟨by omega, ffst_next hk.2 (by unfold usdF; rw [dif_pos hlt]; (first | (exfalso; omega) | ((repeat (first | rw [if_pos (by first | assumption | omega)] | rw [if_neg (by first | assumption | omega)])); first | done | rfl | omega | decide)))⟩, (by dsimp only; omega), Sub.less ⟨(SLe.of_eq rfl), SLe.refl _, SLe.refl _, SLe.refl _, trivial⟩ (fun _ h => h)⟩
                    · replace g10 := of_decide_eq_false g10
                      have n5 : ¬ (0 < k ∧ sle x.lines[k].title (x.lines[k-1]'(by omega)).title = true) := fun hh => by omega
                      refine DRun.pass ⟨62, rfl, .inl ⟨_, rfl, rfl⟩⟩ rfl rfl ?_
                      refine DRun.pass ⟨62, rfl, .inl ⟨_, rfl, rfl⟩⟩ rfl rfl ?_
                      refine DRun.pass ⟨62, rfl, .inl ⟨_, rfl, rfl⟩⟩ rfl rfl ?_
                      refine DRun.pass ⟨62, rfl, .inl ⟨_, rfl, rfl⟩⟩ rfl rfl ?_
                      refine DRun.pass ⟨62, rfl, .inl ⟨_, rfl, rfl⟩⟩ rfl rfl ?_
                      refine DRun.pass ⟨62, rfl, .inl ⟨_, rfl, rfl⟩⟩ rfl rfl ?_
                      refine DRun.pass ⟨62, rfl, .inl ⟨_, rfl, rfl⟩⟩ rfl rfl ?_
                      refine DRun.pass ⟨62, rfl, .inl ⟨_, rfl, rfl⟩⟩ rfl rfl ?_
                      refine DRun.pass ⟨62, rfl, .inl ⟨_, rfl, rfl⟩⟩ rfl rfl ?_
                      refine DRun.pass ⟨62, rfl, .inl ⟨_, rfl, rfl⟩⟩ rfl rfl ?_
                      refine DRun.step rfl rfl rfl (AOp.pickF rfl rfl rfl) ?_
                      refine DRun.step rfl rfl rfl (AOp.assignD rfl rfl) ?_
                      refine DRun.nil ?_
                      refine AWP.cond rfl (fun h => nomatch h) (fun _ => ?_)
                      refine AWP.skip ?_
                      refine AWP.region ?_
                      refine AOps.step rfl rfl rfl (AOp.add64 rfl rfl rfl (by omega) (by omega)) ?_
                      refine AOps.step rfl rfl rfl (AOp.moveD rfl rfl) ?_
                      refine AOps.nil ?_
                      refine ⟨k + 1, ⟨by omega, ffst_next hk.2 (by unfold usdF; rw [dif_pos hlt]; (first | (exfalso; omega) | ((repeat (first | rw [if_pos (by first | assumption | omega)] | rw [if_neg (by first | assumption | omega)])); first | done | rfl | omega | decide)))⟩, (by dsimp only; omega), Sub.less ⟨(SLe.of_eq rfl), SLe.refl _, SLe.refl _, SLe.refl _, trivial⟩ (fun _ h => h)⟩
            · replace h6 := of_decide_eq_false h6
              rw [List.length_map] at h6
              have HR : rptF x = 0 := by rw [HX, show x.lines.length = k by omega]; exact hk.2
              refine AWP.exit ?_
              refine AWP.seq ?_
              refine AWP.region ?_
              refine AOps.step rfl rfl rfl (AOp.assignD rfl rfl) ?_
              refine AOps.nil ?_
              refine AWP.ret ?_
              refine ⟨RetD.eq rfl ?_, trivial⟩
              all_goals (first | rw [HR] | (rw [HX, ffst_hit (f := usdF x.lines) hk.2 (by unfold usdF; rw [dif_pos hlt]; (first | (exfalso; omega) | ((repeat (first | rw [if_pos (by first | assumption | omega)] | rw [if_neg (by first | assumption | omega)])); first | done | rfl | omega | decide))) _ hlt]; unfold usdF; rw [dif_pos hlt]; (first | (exfalso; omega) | ((repeat (first | rw [if_pos (by first | assumption | omega)] | rw [if_neg (by first | assumption | omega)])); first | done | rfl | omega | decide))) | rw [show rptF x = 1 from by unfold rptF; (first | (exfalso; omega) | ((repeat (first | rw [if_pos (by first | assumption | omega)] | rw [if_neg (by first | assumption | omega)])); first | done | rfl | omega | decide))])

set_option maxRecDepth 100000 in
set_option maxHeartbeats 1000000 in
theorem c_cmpRpt (a b : Rpt) : ACall Tryd.prog 44 [.agg a.ds, .agg b.ds] (.v (.int .i64 (rCmp a b))) := by
  refine acall_of (n := 17) (ds' := [.v (.int .i64 (rCmp a b))]) Tryd.func44 rfl (by kernel_rfl) rfl [4] rfl rfl ?_
  intro B w0 F0 fr
  refine AWP.seq ?_
  refine AWP.region ?_
  refine AOps.step rfl rfl rfl (AOp.box rfl rfl rfl) ?_
  refine AOps.step rfl rfl rfl (AOp.box rfl rfl rfl) ?_
  refine AOps.step rfl rfl rfl (AOp.assignD rfl rfl) ?_
  refine AOps.nil ?_
  refine AWP.seq ?_
  refine AWP.draw (by kernel_rfl) (by kernel_rfl) ?_
  refine DRun.step rfl rfl rfl (AOp.fieldAddr rfl fo_40_0 rfl) ?_
  refine DRun.step rfl rfl rfl (AOp.load rfl sc_9 rfl) ?_
  refine DRun.step rfl rfl rfl (AOp.fieldAddr rfl fo_40_0 rfl) ?_
  refine DRun.step rfl rfl rfl (AOp.load rfl sc_9 rfl) ?_
  refine DRun.step rfl rfl rfl (AOp.call rfl (.cons (ArgOk.rfl' rfl) (.cons (ArgOk.rfl' rfl) .nil)) (c_strCmp _ _)) ?_
  refine DRun.step rfl rfl rfl (AOp.fieldAddr rfl fo_40_1 rfl) ?_
  refine DRun.step rfl rfl rfl (AOp.load rfl sc_3 rfl) ?_
  refine DRun.step rfl rfl rfl (AOp.fieldAddr rfl fo_40_1 rfl) ?_
  refine DRun.step rfl rfl rfl (AOp.load rfl sc_3 rfl) ?_
  refine DRun.step rfl rfl rfl (AOp.call rfl (.cons (ArgOk.rfl' rfl) (.cons (ArgOk.rfl' rfl) .nil)) (c_cmpInt _ _)) ?_
  refine DRun.step rfl rfl rfl (AOp.buildSlice rfl et_63 (.cons rfl rfl rfl (.cons rfl rfl rfl .nil)) rfl (by decide)) ?_
  refine DRun.step rfl rfl rfl (AOp.call rfl (.cons (ArgOk.rfl' rfl) .nil) (c_or [strCmp a.source b.source, if a.no < b.no then -1 else if b.no < a.no then 1 else 0])) ?_
  refine DRun.step rfl rfl rfl (AOp.assignD rfl rfl) ?_
  refine DRun.nil ?_
  refine AWP.ret ?_
  refine ⟨RetD.eq rfl ?_, trivial⟩
  all_goals (rw [orI_rpt])

set_option maxRecDepth 100000 in
set_option maxHeartbeats 1000000 in
theorem c_pLog (l : List Rpt) (hl : ∀ x ∈ l, okRpt x) : ACallT Tryd.prog MaxT 16 [.sl (l.map Rpt.ds)] (.v (.int .i64 (logF l))) := by
  refine acall_ofT (n := 34) (ds' := [.v (.int .i64 (logF l))]) Tryd.func16 rfl (by kernel_rfl) rfl [2] rfl rfl ?_
  intro B w0 F0 hT
  refine AWP.seq ?_
  refine AWP.region ?_
  refine AOps.step rfl rfl rfl (AOp.assignD rfl rfl) ?_
  refine AOps.nil ?_
  refine AWP.seq ?_
  refine AWP.seq ?_
  refine AWP.region ?_
  refine AOps.step rfl rfl rfl (AOp.moveD rfl rfl) ?_
  refine AOps.step rfl rfl rfl (AOp.lenSl rfl et_22.ht rfl) ?_
  refine AOps.step rfl rfl rfl (AOp.gtr rfl rfl rfl) ?_
  refine AOps.nil ?_
  refine AWP.cond rfl (fun h1 => ?_) (fun h1 => ?_)
  · replace h1 := of_decide_eq_true h1
    rw [List.length_map] at h1
    have HR : logF l = 2 := if_pos (by omega)
    refine AWP.seq ?_
    refine AWP.region ?_
    refine AOps.step rfl rfl rfl (AOp.assignD rfl rfl) ?_
    refine AOps.nil ?_
    refine AWP.ret ?_
    refine ⟨RetD.eq rfl ?_, trivial⟩
    all_goals (first | rw [HR] | (rw [HX, ffst_hit (f := repF l) hk.2 (by unfold repF; rw [dif_pos hlt]; (first | (exfalso; omega) | ((repeat (first | rw [if_pos (by first | assumption | omega)] | rw [if_neg (by first | assumption | omega)])); first | done | rfl | omega | decide))) _ hlt]; unfold repF; rw [dif_pos hlt]; (first | (exfalso; omega) | ((repeat (first | rw [if_pos (by first | assumption | omega)] | rw [if_neg (by first | assumption | omega)])); first | done | rfl | omega | decide))))
  · replace h1 := of_decide_eq_false h1
    rw [List.length_map] at h1
    have HX : logF l = ffst (repF l) l.length := if_neg (by omega)
    refine AWP.skip ?_
    refine AWP.seq ?_
    refine AWP.seq ?_
    refine AWP.region ?_
    refine AOps.step rfl rfl rfl (AOp.moveD rfl rfl) ?_
    refine AOps.step rfl rfl rfl (AOp.lenSl rfl et_22.ht rfl) ?_
    refine AOps.step rfl rfl rfl (AOp.moveD rfl rfl) ?_
    refine AOps.nil ?_
    refine AWP.block ?_
    refine AWP.loop (G := Nat) (fun k => Env.of [(11, .d (.v (.int .i64 (k : Int)))), (9, .d (.sl (l.map Rpt.ds))), (10, .d (.v (.int .i64 ((l.map Rpt.ds).length : Int)))), (0, .d (.sl (l.map Rpt.ds)))]) (fun k => []) (fun k => k ≤ l.length ∧ ffst (repF l) k = 0) (fun k => l.length - k) 0 ⟨Nat.zero_le _, rfl⟩ (Sub.less ⟨(SLe.of_eq rfl), SLe.refl _, SLe.refl _, SLe.refl _, trivial⟩ (fun _ h => h)) ?_
    intro k hk
    refine AWP.seq ?_
    refine AWP.region ?_
    refine AOps.step rfl rfl rfl (AOp.lss rfl rfl rfl) ?_
    refine AOps.nil ?_
    refine AWP.seq ?_
    refine AWP.cond rfl (fun h2 => ?_) (fun h2 => ?_)
    · replace h2 := of_decide_eq_true h2
      rw [List.length_map] at h2
      have hlt : k < l.length := by omega
      have hbk := hl _ (List.getElem_mem hlt)
      refine AWP.skip ?_
      refine AWP.seq ?_
      refine AWP.block ?_
      refine AWP.seq ?_
      refine AWP.region ?_
      refine AOps.step rfl rfl rfl (AOp.moveD rfl rfl) ?_
      refine AOps.step rfl rfl rfl (AOp.indexAddr rfl et_22 rfl rfl k rfl (at_lst hlt) rfl) ?_
      refine AOps.step rfl rfl rfl (AOp.loadAgg rfl ag_40 rfl rfl) ?_
      refine AOps.alloc 101 rfl rfl rfl rfl zt_40 rfl rfl rfl ?_
      refine AOps.step rfl rfl rfl (AOp.assignD rfl rfl) ?_
      refine AOps.store rfl rfl rfl sz_40 rfl (.head _) rfl rfl rfl (Nat.le_of_ble_eq_true rfl) ?_
      refine AOps.freezeCells 4 (ds := l[k].ds) rfl (.head _) ?_
      refine AOps.nil ?_
      refine AWP.seq ?_
      refine AWP.seq ?_
      refine AWP.region ?_
      refine AOps.step rfl rfl rfl (AOp.loadAgg rfl ag_40 rfl rfl) ?_
      -- wants the world
      refine AOps.callT rfl rfl rfl hT maxT_stays rfl (.cons (ArgOk.rfl' rfl) .nil) (c_pRpt _ hbk) ?_
      refine AOps.step rfl rfl rfl (AOp.assignD rfl rfl) ?_
      refine AOps.nil ?_
      refine AWP.seq ?_
      refine AWP.region ?_
      refine AOps.step rfl rfl rfl (AOp.moveD rfl rfl) ?_
      refine AOps.step rfl rfl rfl (AOp.neq rfl rfl rfl) ?_
      refine AOps.nil ?_
      refine AWP.cond rfl (fun h3 => ?_) (fun h3 => ?_)
      · replace h3 := of_decide_eq_true h3
        have n1 : rptF l[k] ≠ 0 := by omega
        refine AWP.seq ?_
        refine AWP.region ?_
        refine AOps.step rfl rfl rfl (AOp.moveD rfl rfl) ?_
        refine AOps.step rfl rfl rfl (AOp.assignD rfl rfl) ?_
        refine AOps.nil ?_
        refine AWP.ret ?_
        refine ⟨RetD.eq rfl ?_, trivial⟩
        all_goals (first | rw [HR] | (rw [HX, ffst_hit (f := repF l) hk.2 (by unfold repF; rw [dif_pos hlt]; (first | (exfalso; omega) | ((repeat (first | rw [if_pos (by first | assumption | omega)] | rw [if_neg (by first | assumption | omega)])); first | done | rfl | omega | decide))) _ hlt]; unfold repF; rw [dif_pos hlt]; (first | (exfalso; omega) | ((repeat (first | rw [if_pos (by first | assumption | omega)] | rw [if_neg (by first | assumption | omega)])); first | done | rfl | omega | decide))))
      · replace h3 := of_decide_eq_false h3
        have n1 : ¬ rptF l[k] ≠ 0 := by omega
        refine AWP.skip ?_
        refine AWP.seq ?_
        refine AWP.draw (by kernel_rfl) (by kernel_rfl) ?_
        refine DRun.step rfl rfl rfl (AOp.moveD rfl rfl) ?_
        refine DRun.step rfl rfl rfl (AOp.gtr rfl rfl rfl) ?_
        refine DRun.step rfl rfl rfl (AOp.moveD rfl rfl) ?_
        refine DRun.split 23 rfl (fun g4 => ?_) (fun g4 => ?_)
        · replace g4 := of_decide_eq_true g4
          have hk0 : 0 < k := by omega
          refine DRun.step ⟨23, rfl, .inl ⟨_, rfl, rfl⟩⟩ rfl rfl (AOp.moveD rfl rfl) ?_
          refine DRun.step ⟨23, rfl, .inl ⟨_, rfl, rfl⟩⟩ rfl rfl (AOp.moveD rfl rfl) ?_
          refine DRun.step ⟨23, rfl, .inl ⟨_, rfl, rfl⟩⟩ rfl rfl (AOp.sub64 rfl rfl rfl (by omega) (by omega)) ?_
          refine DRun.step ⟨23, rfl, .inl ⟨_, rfl, rfl⟩⟩ rfl rfl (AOp.indexAddr rfl et_22 rfl rfl (k - 1) (by omega) (at_lst (by omega)) rfl) ?_
          refine DRun.step ⟨23, rfl, .inl ⟨_, rfl, rfl⟩⟩ rfl rfl (AOp.loadAgg rfl ag_40 rfl rfl) ?_
          refine DRun.step ⟨23, rfl, .inl ⟨_, rfl, rfl⟩⟩ rfl rfl (AOp.loadAgg rfl ag_40 rfl rfl) ?_
          refine DRun.step ⟨23, rfl, .inl ⟨_, rfl, rfl⟩⟩ rfl rfl (AOp.call rfl (.cons (ArgOk.rfl' rfl) (.cons (ArgOk.rfl' rfl) .nil)) (c_cmpRpt _ _)) ?_
          refine DRun.step ⟨23, rfl, .inl ⟨_, rfl, rfl⟩⟩ rfl rfl (AOp.geq rfl rfl rfl) ?_
          refine DRun.step rfl rfl rfl (AOp.pickT rfl rfl rfl) ?_
          refine DRun.nil ?_
          refine AWP.cond rfl (fun h5 => ?_) (fun h5 => ?_)
          · replace h5 := of_decide_eq_true h5
            have n3 : (0 < k ∧ 0 ≤ rCmp (l[k-1]'(by omega)) l[k]) := ⟨hk0, by omega⟩
            refine AWP.seq ?_
            refine AWP.region ?_
            refine AOps.step rfl rfl rfl (AOp.assignD rfl rfl) ?_
            refine AOps.nil ?_
            refine AWP.ret ?_
            refine ⟨RetD.eq rfl ?_, trivial⟩
            all_goals (first | rw [HR] | (rw [HX, ffst_hit (f := repF l) hk.2 (by unfold repF; rw [dif_pos hlt]; (first | (exfalso; omega) | ((repeat (first | rw [if_pos (by first | assumption | omega)] | rw [if_neg (by first | assumption | omega)])); first | done | rfl | omega | decide))) _ hlt]; unfold repF; rw [dif_pos hlt]; (first | (exfalso; omega) | ((repeat (first | rw [if_pos (by first | assumption | omega)] | rw [if_neg (by first | assumption | omega)])); first | done | rfl | omega | decide))))
          · replace h5 := of_decide_eq_false h5
            have n3 : ¬ (0 < k ∧ 0 ≤ rCmp (l[k-1]'(by omega)) l[k]) := fun hh => by have := hh.2; omega
            refine AWP.skip ?_
            refine AWP.region ?_
            refine AOps.step rfl rfl rfl (AOp.add64 rfl rfl rfl (by omega) (by omega)) ?_
            refine AOps.step rfl rfl rfl (AOp.moveD rfl rfl) ?_
            refine AOps.nil ?_
            refine ⟨k + 1, ⟨by omega, ffst_next hk.2 (by unfold repF; rw [dif_pos hlt]; (first | (exfalso; omega) | ((repeat (first | rw [if_pos (by first | assumption | omega)] | rw [if_neg (by first | assumption | omega)])); first | done | rfl | omega | decide)))⟩, (by dsimp only; omega), Sub.less ⟨(SLe.of_eq rfl), SLe.refl _, SLe.refl _, SLe.refl _, trivial⟩ (fun _ h => h)⟩
        · replace g4 := of_decide_eq_false g4
          have n3 : ¬ (0 < k ∧ 0 ≤ rCmp (l[k-1]'(by omega)) l[k]) := fun hh => by omega
          refine DRun.pass ⟨23, rfl, .inl ⟨_, rfl, rfl⟩⟩ rfl rfl ?_
          refine DRun.pass ⟨23, rfl, .inl ⟨_, rfl, rfl⟩⟩ rfl rfl ?_
          refine DRun.pass ⟨23, rfl, .inl ⟨_, rfl, rfl⟩⟩ rfl rfl ?_
          refine DRun.pass ⟨23, rfl, .inl ⟨_, rfl, rfl⟩⟩ rfl rfl ?_
          refine DRun.pass ⟨23, rfl, .inl ⟨_, rfl, rfl⟩⟩ rfl rfl ?_
          refine DRun.pass ⟨23, rfl, .inl ⟨_, rfl, rfl⟩⟩ rfl rfl ?_
          refine DRun.pass ⟨23, rfl, .inl ⟨_, rfl, rfl⟩⟩ rfl rfl ?_
          refine DRun.pass ⟨23, rfl, .inl ⟨_, rfl, rfl⟩⟩ rfl rfl ?_
          refine DRun.step rfl rfl rfl (AOp.pickF rfl rfl rfl) ?_
          refine DRun.nil ?_
          refine AWP.cond rfl (fun h => nomatch h) (fun _ => ?_)
          refine AWP.skip ?_
          refine AWP.region ?_
          refine AOps.step rfl rfl rfl (AOp.add64 rfl rfl rfl (by omega) (by omega)) ?_
          refine AOps.step rfl rfl rfl (AOp.moveD rfl rfl) ?_
          refine AOps.nil ?_
          refine ⟨k + 1, ⟨by omega, ffst_next hk.2 (by unfold repF; rw [dif_pos hlt]; (first | (exfalso; omega) | ((repeat (first | rw [if_pos (by first | assumption | omega)] | rw [if_neg (by first | assumption | omega)])); first | done | rfl | omega | decide)))⟩, (by dsimp only; omega), Sub.less ⟨(SLe.of_eq rfl), SLe.refl _, SLe.refl _, SLe.refl _, trivial⟩ (fun _ h => h)⟩
    · replace h2 := of_decide_eq_false h2
      rw [List.length_map] at h2
      have HR : logF l = 0 := by rw [HX, show l.length = k by omega]; exact hk.2
      refine AWP.exit ?_
      refine AWP.seq ?_
      refine AWP.region ?_
      refine AOps.step rfl rfl rfl (AOp.assignD rfl rfl) ?_
      refine AOps.nil ?_
      refine AWP.ret ?_
      refine ⟨RetD.eq rfl ?_, trivial⟩
      all_goals (first | rw [HR] | (rw [HX, ffst_hit (f := repF l) hk.2 (by unfold repF; rw [dif_pos hlt]; (first | (exfalso; omega) | ((repeat (first | rw [if_pos (by first | assumption | omega)] | rw [if_neg (by first | assumption | omega)])); first | done | rfl | omega | decide))) _ hlt]; unfold repF; rw [dif_pos hlt]; (first | (exfalso; omega) | ((repeat (first | rw [if_pos (by first | assumption | omega)] | rw [if_neg (by first | assumption | omega)])); first | done | rfl | omega | decide))))

end Go.Proofs.YtekenfknoakboaaDoor


namespace Go.Proofs.YtekenfknoakboaaDoor
open Go.RowKit
set_option linter.unusedVariables false

/-! Types. -/
namespace TyM3
theorem ag_40 : AggT Tryd.prog 40 5 := .of (by kernel_rfl)
theorem et_38 : ElemTy Tryd.prog 38 42 3 32 (.agg #[(.string ⟨#[]⟩), (.int .i64 0), (.int .i64 0)]) := ⟨by kernel_rfl, by kernel_rfl, by kernel_rfl, by decide⟩
theorem fo_40_4 : fieldOff Tryd.prog 40 4 = some 4 := by kernel_rfl
theorem sc_38 : Scal Tryd.prog 38 := .of (by kernel_rfl)
theorem sz_38 : ∀ w, (sizeOf 38).run Tryd.prog w = .ok 1 w := SizeT.of (by kernel_rfl)
theorem sz_40 : ∀ w, (sizeOf 40).run Tryd.prog w = .ok 5 w := SizeT.of (by kernel_rfl)
theorem zt_40 : (Tryd.prog.info? 40).bind (·.zero) = some (.agg #[(.string ⟨#[]⟩), (.int .i64 0), (.int .i64 0), (.int .i64 0), (.slice none 0 0)]) := by kernel_rfl
end TyM3
open TyM3


open Go.Lib
theorem SLe.fn (f : Nat) : SLe (.d (.v (.func (.func f) #[] #[]))) (.d (.clo (.func f) [])) := fun F ρ w x h => by
  cases repS_v h
  exact .d (.clo _ [] [] rfl (fun i h => absurd h (Nat.not_lt_zero i)))
theorem ArgOk.fn {e : Env} {x : Operand} {f : Fn} (h : e.ev x = .d (.v (.func f #[] #[]))) : ArgOk e x (.clo f []) := ⟨_, h, fun F w y hy => by
  rw [rep_v hy]
  exact .clo f [] [] rfl (fun i h1 => absurd h1 (by simp))⟩
theorem row_sameM {i e s : Nat} {els els' : List (List D)} {τ : Obs} (h : els = els') : ∀ p ∈ [(i, Ob.row e s els')], p ∈ (i, Ob.row e s els) :: τ := fun p hp => by
  subst h
  rw [List.mem_singleton] at hp; subst hp; exact .head _
theorem rpt_lines {x : Rpt} (h : rptF x = 0) : x.lines.length ≤ 100 := by
  unfold rptF at h
  split at h
  · omega
  · split at h
    · omega
    · split at h
      · omega
      · omega
theorem take_eq {α : Type} {l r : List α} {k : Nat} (h1 : k < l.length) (h2 : k < r.length) (h : l.take k = r.take k) (e : l[k] = r[k]) : l.take (k + 1) = r.take (k + 1) := by
  rw [List.take_add_one, List.take_add_one, List.getElem?_eq_getElem h1, List.getElem?_eq_getElem h2, h, e]
theorem take_all_eq {α : Type} {l r : List α} (hl : l.length = r.length) (h : l.take l.length = r.take l.length) : l = r := by
  rw [List.take_length, hl, List.take_length] at h
  exact h
theorem usd_ext {x y : Usd} (h : x.title = y.title ∧ x.units = y.units ∧ x.money = y.money) : x = y := by
  cases x; cases y
  simp only [Usd.mk.injEq]
  exact h
theorem eqT_usd : EqT Tryd.prog 42 [.str, .int .i64, .int .i64] := .of (by kernel_rfl)
theorem eq_usd (x y : Usd) : EqD Tryd.prog 42 x.ds y.ds (decide (x.title = y.title ∧ x.units = y.units ∧ x.money = y.money)) := .of eqT_usd [.string x.title, .int .i64 x.units, .int .i64 x.money] [.string y.title, .int .i64 y.units, .int .i64 y.money] rfl rfl rfl rfl (by simp [sameL, sameV])
theorem rpt_eq {x y : Rpt} (e1 : x.source = y.source) (e2 : x.no = y.no) (e3 : x.period = y.period) (e4 : x.corrects = y.corrects) : decide (x = y) = decide (x.lines = y.lines) := by
  cases x; cases y
  simp only at e1 e2 e3 e4
  subst e1; subst e2; subst e3; subst e4
  simp
theorem rpt_ext {x y : Rpt} (h : sameK x y = true) (e3 : x.period = y.period) (e4 : x.corrects = y.corrects) (e5 : x.lines = y.lines) : x = y := by
  rw [sameK_iff] at h
  cases x; cases y
  simp only at h e3 e4 e5
  simp [h.1, h.2, e3, e4, e5]
/-- The binary search: the number to which it comes. -/
def bsr (lt : Nat → Bool) (i j : Nat) : Nat := if h : i < j then (if lt ((i + j) / 2) = true then bsr lt ((i + j) / 2 + 1) j else bsr lt i ((i + j) / 2)) else i
termination_by j - i
decreasing_by all_goals omega
theorem bsr_up {lt : Nat → Bool} {i j : Nat} (h : i < j) (h2 : lt ((i + j) / 2) = true) : bsr lt i j = bsr lt ((i + j) / 2 + 1) j := by rw [bsr, dif_pos h, if_pos h2]
theorem bsr_dn {lt : Nat → Bool} {i j : Nat} (h : i < j) (h2 : lt ((i + j) / 2) = false) : bsr lt i j = bsr lt i ((i + j) / 2) := by rw [bsr, dif_pos h, if_neg (by rw [h2]; simp)]
theorem bsr_end {lt : Nat → Bool} {i j : Nat} (h : ¬ i < j) : bsr lt i j = i := by rw [bsr, dif_neg h]
theorem bsr_le {lt : Nat → Bool} : ∀ (n i j : Nat), j - i ≤ n → i ≤ j → i ≤ bsr lt i j ∧ bsr lt i j ≤ j
  | 0, i, j, h, hij => by rw [bsr_end (by omega)]; omega
  | n + 1, i, j, h, hij => by
    by_cases hlt : i < j
    · by_cases hb : lt ((i + j) / 2) = true
      · rw [bsr_up hlt hb]
        have := bsr_le (lt := lt) n ((i + j) / 2 + 1) j (by omega) (by omega)
        omega
      · rw [bsr_dn hlt (by simpa using hb)]
        have := bsr_le (lt := lt) n i ((i + j) / 2) (by omega) (by omega)
        omega
    · rw [bsr_end hlt]; omega
/-- Where it comes to, if what is less lies ahead of what is not. -/
theorem bsr_spec {lt : Nat → Bool} (hm : ∀ a b, a ≤ b → lt b = true → lt a = true) : ∀ (n i j : Nat), j - i ≤ n → i ≤ j → (∀ k, k < i → lt k = true) → (∀ k, i ≤ k → k < bsr lt i j → lt k = true) ∧ (∀ k, bsr lt i j ≤ k → k < j → lt k = false)
  | 0, i, j, h, hij, _ => by rw [bsr_end (by omega)]; exact ⟨fun k h1 h2 => by omega, fun k h1 h2 => by omega⟩
  | n + 1, i, j, h, hij, h0 => by
    by_cases hlt : i < j
    · by_cases hb : lt ((i + j) / 2) = true
      · rw [bsr_up hlt hb]
        have h1 := bsr_spec hm n ((i + j) / 2 + 1) j (by omega) (by omega) (fun k hk => hm k _ (by omega) hb)
        refine ⟨fun k h2 h3 => ?_, h1.2⟩
        by_cases hk : k ≤ (i + j) / 2
        · exact hm k _ hk hb
        · exact h1.1 k (by omega) h3
      · have hb' : lt ((i + j) / 2) = false := by simpa using hb
        rw [bsr_dn hlt hb']
        have h1 := bsr_spec hm n i ((i + j) / 2) (by omega) (by omega) h0
        refine ⟨h1.1, fun k h2 h3 => ?_⟩
        by_cases hk : k < (i + j) / 2
        · exact h1.2 k h2 hk
        · cases hlk : lt k with
          | false => rfl
          | true => rw [hm _ k (by omega) hlk] at hb'; simp at hb'
    · rw [bsr_end hlt]; exact ⟨fun k h1 h2 => by omega, fun k h1 h2 => by omega⟩

def ltQ (l : List Rpt) (t : Rpt) (k : Nat) : Bool := decide (k < l.length) && decide (rCmp (l.getD k default) t < 0)
def posR (l : List Rpt) (t : Rpt) : Nat := bsr (ltQ l t) 0 l.length
def hasR (l : List Rpt) (t : Rpt) : Bool := decide (posR l t < l.length) && decide (rCmp (l.getD (posR l t) default) t = 0)
theorem posR_le (l : List Rpt) (t : Rpt) : posR l t ≤ l.length := (bsr_le _ 0 l.length (Nat.le_refl _) (Nat.zero_le _)).2
theorem ltQ_at {l : List Rpt} {t : Rpt} {k : Nat} (hk : k < l.length) : ltQ l t k = ltR l[k] t := by unfold ltQ ltR; rw [decide_eq_true hk, List.getD_eq_getElem?_getD, List.getElem?_eq_getElem hk]; rfl
theorem ltQ_t {l : List Rpt} {t : Rpt} {k : Nat} (hk : k < l.length) (h : rCmp l[k] t < 0) : ltQ l t k = true := by rw [ltQ_at hk]; exact decide_eq_true h
theorem ltQ_f {l : List Rpt} {t : Rpt} {k : Nat} (hk : k < l.length) (h : ¬ rCmp l[k] t < 0) : ltQ l t k = false := by rw [ltQ_at hk]; exact decide_eq_false h
theorem hasR_at {l : List Rpt} {t : Rpt} (hk : posR l t < l.length) : hasR l t = decide (rCmp l[posR l t] t = 0) := by unfold hasR; rw [decide_eq_true hk, List.getD_eq_getElem?_getD, List.getElem?_eq_getElem hk]; rfl
theorem hasR_t {l : List Rpt} {t : Rpt} {k : Nat} (hk : k < l.length) (hp : posR l t = k) (h : rCmp l[k] t = 0) : hasR l t = true := by subst hp; rw [hasR_at hk]; exact decide_eq_true h
theorem hasR_f {l : List Rpt} {t : Rpt} {k : Nat} (hk : k < l.length) (hp : posR l t = k) (h : ¬ rCmp l[k] t = 0) : hasR l t = false := by subst hp; rw [hasR_at hk]; exact decide_eq_false h
theorem hasR_e {l : List Rpt} {t : Rpt} {k : Nat} (hk : ¬ k < l.length) (hp : posR l t = k) : hasR l t = false := by unfold hasR; rw [hp]; simp [hk]
theorem hasR_k {l : List Rpt} {t : Rpt} {k : Nat} (hk : k < l.length) (hp : posR l t = k) : hasR l t = decide (rCmp l[k] t = 0) := by subst hp; exact hasR_at hk
theorem hasR_yes {l : List Rpt} {t : Rpt} (h : hasR l t = true) : ∃ hp : posR l t < l.length, sameK l[posR l t] t = true := by
  by_cases hp : posR l t < l.length
  · rw [hasR_at hp] at h
    exact ⟨hp, sameK_cmp.1 (of_decide_eq_true h)⟩
  · rw [hasR_e hp rfl] at h; cases h
theorem ltQ_mono {l : List Rpt} (hr : Rise l) (t : Rpt) : ∀ a b, a ≤ b → ltQ l t b = true → ltQ l t a = true := fun a b hab h => by
  by_cases hb : b < l.length
  · rw [ltQ_at hb] at h
    rw [ltQ_at (show a < l.length by omega)]
    by_cases e : a = b
    · subst e; exact h
    · exact ltR_trans (List.pairwise_iff_getElem.1 hr a b (by omega) hb (by omega)) h
  · unfold ltQ at h
    rw [decide_eq_false hb] at h; cases h
theorem hasR_eq {l : List Rpt} (hr : Rise l) (t : Rpt) : hasR l t = hasK l t := by
  cases h : hasK l t with
  | true =>
    obtain ⟨y, hy, hk⟩ := hasK_iff.1 h
    obtain ⟨i, hi, rfl⟩ := List.mem_iff_getElem.1 hy
    have h1 := bsr_spec (ltQ_mono hr t) l.length 0 l.length (by omega) (Nat.zero_le _) (fun k hk => by omega)
    have hi0 : ltQ l t i = false := by rw [ltQ_at hi, (ltR_same hk).1, ltR_irr]
    have hle : posR l t ≤ i := Nat.not_lt.1 fun hlt => by
      have := h1.1 i (Nat.zero_le _) hlt
      rw [hi0] at this; cases this
    have hge : ¬ posR l t < i := fun hlt => by
      have h2 := h1.2 (posR l t) (Nat.le_refl _) (show posR l t < l.length by omega)
      rw [ltQ_at (show posR l t < l.length by omega)] at h2
      have h3 := List.pairwise_iff_getElem.1 hr (posR l t) i (by omega) hi hlt
      rw [(ltR_same (sameK_symm hk)).2, h3] at h2; cases h2
    have e : posR l t = i := by omega
    exact hasR_t hi e (sameK_cmp.2 hk)
  | false =>
    cases h2 : hasR l t with
    | false => rfl
    | true =>
      obtain ⟨hp, hs⟩ := hasR_yes h2
      rw [hasK_iff.2 ⟨_, List.getElem_mem hp, hs⟩] at h; cases h


set_option maxRecDepth 100000 in
set_option maxHeartbeats 1000000 in
theorem c_clUsd (l : List Usd) (hl : l.length ≤ 1000000) : OCall Tryd.prog 45 [.sl (l.map Usd.ds)] 42 3 (l.map Usd.ds) := by
  refine ocall_of (n := 8) Tryd.func45 rfl (by kernel_rfl) rfl 2 rfl rfl ?_
  intro B w0 F0 fr
  refine (Classical.em (l = [])).elim (fun hn => ?_) (fun hn => ?_)
  subst hn
  refine AWP.nilOr 0 rfl ?_ (fun ad cap hcap => ?_)
  · skip
    refine AWP.seq ?_
    refine AWP.region ?_
    refine AOps.step rfl rfl rfl (AOp.assignD rfl rfl) ?_
    refine AOps.nil ?_
    refine AWP.seq ?_
    refine AWP.seq ?_
    refine AWP.region ?_
    refine AOps.step rfl rfl rfl (AOp.moveD rfl rfl) ?_
    refine AOps.step rfl rfl rfl (AOp.eqNilV rfl Tryd.underlying38 rfl rfl) ?_
    refine AOps.nil ?_
    refine AWP.cond rfl (fun _ => ?_) (fun h => nomatch h)
    refine AWP.seq ?_
    refine AWP.region ?_
    refine AOps.step rfl rfl rfl (AOp.assignD rfl rfl) ?_
    refine AOps.nil ?_
    refine AWP.adopt 2 51 42 3 rfl rfl ?_
    refine AWP.ret ?_
    refine ⟨51, rfl, mem_row_eq (.head _) ?_⟩
    first | rfl | simp
  · skip
    refine AWP.seq ?_
    refine AWP.region ?_
    refine AOps.step rfl rfl rfl (AOp.assignD rfl rfl) ?_
    refine AOps.nil ?_
    refine AWP.seq ?_
    refine AWP.seq ?_
    refine AWP.region ?_
    refine AOps.step rfl rfl rfl (AOp.moveD rfl rfl) ?_
    refine AOps.step rfl rfl rfl (AOp.eqNilV rfl Tryd.underlying38 rfl rfl) ?_
    refine AOps.nil ?_
    refine AWP.cond rfl (fun h => nomatch h) (fun _ => ?_)
    refine AWP.skip ?_
    refine AWP.seq ?_
    refine AWP.region ?_
    refine AOps.build0 102 rfl rfl rfl rfl et_38 rfl ?_
    refine AOps.step rfl rfl rfl (AOp.moveD rfl rfl) ?_
    refine AOps.le 6 rfl (SLe.d (Le.empty hcap)) ?_
    -- append 7
    refine AOps.append rfl rfl rfl rfl et_38 rfl (.head _) rfl (fun y hy => by first | exact absurd hy List.not_mem_nil | (obtain ⟨x, _, rfl⟩ := List.mem_map.1 hy; rfl)) (by simp; try omega) (by simp; try omega) ?_
    refine AOps.step rfl rfl rfl (AOp.assignO rfl rfl) ?_
    refine AOps.nil ?_
    refine AWP.ret ?_
    refine ⟨102, rfl, mem_row_eq (.head _) ?_⟩
    first | rfl | simp
  · skip
    refine AWP.seq ?_
    refine AWP.region ?_
    refine AOps.step rfl rfl rfl (AOp.assignD rfl rfl) ?_
    refine AOps.nil ?_
    refine AWP.seq ?_
    refine AWP.seq ?_
    refine AWP.region ?_
    refine AOps.step rfl rfl rfl (AOp.moveD rfl rfl) ?_
    refine AOps.step rfl rfl rfl (AOp.eqNilS rfl Tryd.underlying38 rfl rfl (fun h => hn (List.map_eq_nil_iff.1 h))) ?_
    refine AOps.nil ?_
    refine AWP.cond rfl (fun h => nomatch h) (fun _ => ?_)
    refine AWP.skip ?_
    refine AWP.seq ?_
    refine AWP.region ?_
    refine AOps.build0 103 rfl rfl rfl rfl et_38 rfl ?_
    refine AOps.step rfl rfl rfl (AOp.moveD rfl rfl) ?_
    -- append 7
    refine AOps.append rfl rfl rfl rfl et_38 rfl (.head _) rfl (fun y hy => by first | exact absurd hy List.not_mem_nil | (obtain ⟨x, _, rfl⟩ := List.mem_map.1 hy; rfl)) (by simp; try omega) (by simp; try omega) ?_
    refine AOps.step rfl rfl rfl (AOp.assignO rfl rfl) ?_
    refine AOps.nil ?_
    refine AWP.ret ?_
    refine ⟨103, rfl, mem_row_eq (.head _) ?_⟩
    first | rfl | simp

set_option maxRecDepth 100000 in
set_option maxHeartbeats 1000000 in
theorem c_own (x : Rpt) (hl : x.lines.length ≤ 1000000) : ACall Tryd.prog 18 [.agg x.ds] (.agg x.ds) := by
  refine acall_ofR (n := 8) (ds' := [.agg x.ds]) Tryd.func18 rfl (by kernel_rfl) rfl [.cell 2 40] rfl rfl ?_
  intro B w0 F0 fr
  refine AWP.seq ?_
  refine AWP.region ?_
  refine AOps.boxOwn 101 rfl rfl rfl rfl rfl rfl rfl ?_
  refine AOps.alloc 102 rfl rfl rfl rfl zt_40 rfl rfl rfl ?_
  refine AOps.nil ?_
  refine AWP.seq ?_
  refine AWP.region ?_
  refine AOps.step rfl rfl rfl (AOp.fieldAddrP rfl fo_40_4 rfl) ?_
  refine AOps.step rfl rfl rfl (AOp.loadP rfl sc_38 rfl (.tail _ (.head _)) rfl) ?_
  refine AOps.step rfl rfl rfl (AOp.call rfl (.cons (ArgOk.rfl' rfl) .nil) (c_clUsd x.lines hl).toA) ?_
  refine AOps.step rfl rfl rfl (AOp.fieldAddrP rfl fo_40_4 rfl) ?_
  refine AOps.store rfl rfl rfl sz_38 rfl (.tail _ (.head _)) rfl rfl rfl (Nat.le_of_ble_eq_true rfl) ?_
  refine AOps.nil ?_
  refine AWP.seq ?_
  refine AWP.region ?_
  refine AOps.step rfl rfl rfl (AOp.loadPU rfl ag_40 rfl (.tail _ (.head _)) rfl rfl) ?_
  refine AOps.store rfl rfl rfl sz_40 rfl (.head _) rfl rfl rfl (Nat.le_of_ble_eq_true rfl) ?_
  refine AOps.nil ?_
  refine AWP.ret ?_
  refine ⟨RetR.agg rfl (.head _) ag_40 rfl (.cons (by first | exact CellD.nil | exact CellD.d | exact CellD.eq (by simp) | (refine CellD.own (by first | exact .head _ | exact .tail _ (.head _)) ?_; rfl)) (.cons (by first | exact CellD.nil | exact CellD.d | exact CellD.eq (by simp) | (refine CellD.own (by first | exact .head _ | exact .tail _ (.head _)) ?_; rfl)) (.cons (by first | exact CellD.nil | exact CellD.d | exact CellD.eq (by simp) | (refine CellD.own (by first | exact .head _ | exact .tail _ (.head _)) ?_; rfl)) (.cons (by first | exact CellD.nil | exact CellD.d | exact CellD.eq (by simp) | (refine CellD.own (by first | exact .head _ | exact .tail _ (.head _)) ?_; rfl)) (.cons (by first | exact CellD.nil | exact CellD.d | exact CellD.eq (by simp) | (refine CellD.own (by first | exact .head _ | exact .tail _ (.head _)) ?_; rfl)) .nil))))), trivial⟩
  all_goals (rfl)

end Go.Proofs.YtekenfknoakboaaDoor


namespace Go.Proofs.YtekenfknoakboaaDoor
open Go.RowKit Go.MapKept
set_option linter.unusedVariables false
set_option linter.unusedSimpArgs false

/-- v, ok := m[key]. -/
def MGetOk (M : List (Value × D)) (key : Value) (z d : D) (ok : Bool) : Prop := (ok = true ∧ ∃ i, M[i]? = some (key, d) ∧ ∀ (j : Nat) (p : Value × D), M[j]? = some p → p.1 = key → j = i) ∨ (ok = false ∧ (∀ p ∈ M, p.1 ≠ key) ∧ d = z)
theorem rep_agg2 {F : Nat → Prop} {w : World} {v k1 k2 : Value} (h : Rep F w v (.agg [.v k1, .v k2])) : v = .agg #[k1, k2] := by
  cases h with
  | agg cs _ hl hone h =>
    obtain ⟨a, b, rfl⟩ : ∃ a b, cs = [a, b] := by
      match cs, hl with
      | [a, b], _ => exact ⟨a, b, rfl⟩
    have h1 := h 0 (by simp) (by simp)
    have h2 := h 1 (by simp) (by simp)
    simp only [List.getElem_cons_zero, List.getElem_cons_succ] at h1 h2
    rw [rep_v h1, rep_v h2]
section
variable {cx : Cx} {ops : Array Oper} {o : Oper} {rest : List Oper} {e : Env} {σ σ' : Obs} {Q : Post} {P : Program} {B : Nat}
theorem EOp.mapUpdateK {t k et : TypeId} {id : Nat} {m x v : Operand} {key k1 k2 : Value} {d : D} {M M' : List (Value × D)}  (hdst : o.dst = none) (ho : o.op = .mapUpdate t m x v) (ht : cx.P.underlying t = some (.map k et)) (K : Maps.Keyed cx.P k) (hm : e.ev m = .own id) (hmem : (id, Ob.map M) ∈ σ)
    (hx : e.ev x = .d (.agg [.v k1, .v k2])) (hke : key = .agg #[k1, k2]) (hv : e.ev v = .d d) (hg : ∃ l, keyOf cx.P k key = some l) (hgs : ∀ p ∈ M, ∃ l, keyOf cx.P k p.1 = some l) (hp : MPut M key d M') : EOp cx ops o e σ (Obs.upd id (.map M') σ) := by
  intro F ρ a w e0 hr ha
  have hop : ∀ y ∈ o.op.operands.toList, RepS F ρ w (a.eval y) (e.ev y) := fun y hy => ev_rep fun t ht => ha t (looks_op (by rw [← ht]; exact hy))
  have r1 := hop m (by rw [ho]; simp [Op.operands])
  have r2 := hop x (by rw [ho]; simp [Op.operands])
  have r3 := hop v (by rw [ho]; simp [Op.operands])
  rw [hm] at r1
  rw [hx] at r2
  rw [hv] at r3
  obtain ⟨b, es, clock, hρ, hB, hF, hh, hMC, hall⟩ := hr.obs.ok _ hmem
  have hl := hMC.size
  dsimp only at hρ
  have hmv : a.eval m = .map (some b) := by rw [← hρ]; generalize a.eval m = u at r1; cases r1; rfl
  have hxv := (rep_agg2 (repS_d r2)).trans hke.symm
  have r3' := repS_d r3
  have hks : ∀ en ∈ es.toList, ∃ l, keyOf cx.P k en.key = some l := fun en hen => by
    obtain ⟨j, hj⟩ := List.mem_iff_getElem?.1 hen
    obtain ⟨p, h1, h2, _⟩ := entries_get hl hall hj
    rw [h2]; exact hgs p (List.mem_of_getElem? h1)
  obtain ⟨kl, hkl⟩ := hg
  have hblk : blk (ρ id) = some b := by rw [hρ]; rfl
  unfold Oper.wp execOp
  simp only [ho, hmv, hxv]
  rcases K.find w hkl es.toList hks with ⟨h1, h2⟩ | ⟨j, en, h1, h2, h3⟩
  · have hrun : (Instr.mapUpdate t (.map (some b)) key (a.eval v)).run cx.P w = .ok () { w with heap := w.heap.setIfInBounds b (.map (es.push { key := key, val := a.eval v, born := clock }) (clock + 1)) } := by
      simp [Instr.mapUpdate, run_underlying ht, MapKept.run_getObj_map hh, K.check w _ hkl, h1, MapKept.run_setObj_map _ hh, Result.andThen]
    rw [Sem.run_bind, hrun]
    refine ⟨by rw [hdst]; rfl, fun e2 hr2 => ⟨F, ρ, hr2.writeOb hblk hmem hB hF setObj_turn ?_⟩⟩
    have hM' : M' = M ++ [(key, d)] := by
      rcases hp with ⟨i, d0, hi, _, _⟩ | ⟨_, hM'⟩
      · exfalso
        have hil : i < M.length := (List.getElem?_eq_some_iff.1 hi).1
        have h4 := (hall i (by omega) hil).1
        have h5 : M[i] = (key, d0) := (List.getElem?_eq_some_iff.1 hi).2
        rw [h5] at h4
        exact h2 es[i] (by simp) h4
      · exact hM'
    have hkeep : ∀ {u : Value} {y : D}, Rep F w u y → Rep F { w with heap := w.heap.setIfInBounds b (.map (es.push { key := key, val := a.eval v, born := clock }) (clock + 1)) } u y := fun h => h.mono (fun _ h => h) fun c hc => by
      have : b ≠ c := fun h => hF (by rw [h]; exact hc)
      simp [this]
    subst hM'
    refine ⟨b, _, _, hρ, hB, hF, (MapKept.heap_set hh).1, by simpa using hMC.push key (a.eval v), fun i hi hi' => ?_⟩
    by_cases hc : i < es.size
    · have hc' : i < M.length := by omega
      rw [Array.getElem_push_lt hc, List.getElem_append_left hc']
      exact ⟨(hall i hc hc').1, hkeep (hall i hc hc').2⟩
    · have : i = es.size := by simp at hi; omega
      subst this
      rw [Array.getElem_push_eq, List.getElem_append_right (by omega)]
      simp only [hl, Nat.sub_self, List.getElem_cons_zero]
      exact ⟨trivial, hkeep r3'⟩
  · have hjs : j < es.size := by simpa using (List.getElem?_eq_some_iff.1 h2).1
    have hej : es[j] = en := by have := (List.getElem?_eq_some_iff.1 h2).2; simpa using this
    have hrun : (Instr.mapUpdate t (.map (some b)) key (a.eval v)).run cx.P w = .ok () { w with heap := w.heap.setIfInBounds b (.map (es.modify j fun e => { e with key := key, val := a.eval v }) clock) } := by
      have h0 : ((es[j]?).map (·.key)).getD key = key := by rw [Array.getElem?_eq_getElem hjs, hej]; simp [h3]
      simp only [Instr.mapUpdate, run_underlying ht, Sem.run_bind, Result.andThen_ok, MapKept.run_getObj_map hh, K.check w _ hkl, h1, h0, K.stays w hkl, MapKept.run_setObj_map _ hh]
    rw [Sem.run_bind, hrun]
    refine ⟨by rw [hdst]; rfl, fun e2 hr2 => ⟨F, ρ, hr2.writeOb hblk hmem hB hF setObj_turn ?_⟩⟩
    have hjl : j < M.length := by omega
    have hkj : M[j].1 = key := by rw [← (hall j hjs hjl).1, hej]; exact h3
    have hM' : M' = M.set j (key, d) := by
      rcases hp with ⟨i, d0, hi, hu, hM'⟩ | ⟨hno, _⟩
      · have := hu j M[j] (List.getElem?_eq_getElem hjl) hkj
        rw [this]; exact hM'
      · exact absurd hkj (hno _ (List.getElem_mem hjl))
    have hkeep : ∀ {u : Value} {y : D}, Rep F w u y → Rep F { w with heap := w.heap.setIfInBounds b (.map (es.modify j fun e => { e with key := key, val := a.eval v }) clock) } u y := fun h => h.mono (fun _ h => h) fun c hc => by
      have : b ≠ c := fun h => hF (by rw [h]; exact hc)
      simp [this]
    subst hM'
    refine ⟨b, _, _, hρ, hB, hF, (MapKept.heap_set hh).1, by rw [List.length_set]; exact hMC.modify _ _ (fun _ => rfl), fun i hi hi' => ?_⟩
    have hc : i < es.size := by simpa using hi
    have hc' : i < M.length := by omega
    rw [Array.getElem_modify, List.getElem_set]
    by_cases hij : j = i
    · rw [if_pos hij, if_pos hij]
      exact ⟨rfl, hkeep r3'⟩
    · rw [if_neg hij, if_neg hij]
      exact ⟨(hall i hc hc').1, hkeep (hall i hc hc').2⟩
/-- make(map[K]V) -/
theorem AOp.lookupK {x ix : Operand} {t k et : TypeId} {id : Nat} {M : List (Value × D)} {key z k1 k2 : Value} {d : D}  (ho : o.op = .lookup t x ix false) (ht : P.underlying t = some (.map k et)) (K : Maps.Keyed P k) (hz : (P.info? et).bind (·.zero) = some z) (hx : e.ev x = .own id) (hm : (id, Ob.map M) ∈ σ)
    (hi : e.ev ix = .d (.agg [.v k1, .v k2])) (hke : key = .agg #[k1, k2]) (hg : ∃ l, keyOf P k key = some l) (hgs : ∀ p ∈ M, ∃ l, keyOf P k p.1 = some l) (hd : MGet M key (.v z) d) : AOp P B ops o e σ (.d d) := .value fun F ρ w a hF hr hσ => by
  have h1 := hr x (by rw [ho]; simp [Op.operands])
  have h2 := hr ix (by rw [ho]; simp [Op.operands])
  rw [hx] at h1
  rw [hi] at h2
  have hxv := (rep_agg2 (repS_d h2)).trans hke.symm
  obtain ⟨b, es, clock, hρ, hB, hFb, hh, ⟨hl, _, _⟩, hall⟩ := hσ.ok _ hm
  dsimp only at hρ
  have hv : a.eval x = .map (some b) := by rw [← hρ]; generalize a.eval x = u at h1; cases h1; rfl
  have hks : ∀ en ∈ es.toList, ∃ l, keyOf P k en.key = some l := fun en hen => by
    obtain ⟨j, hj⟩ := List.mem_iff_getElem?.1 hen
    obtain ⟨p, h1, h2, _⟩ := entries_get hl hall hj
    rw [h2]; exact hgs p (List.mem_of_getElem? h1)
  obtain ⟨kl, hkl⟩ := hg
  obtain ⟨ti, hti, hzz⟩ := Option.bind_eq_some_iff.1 hz
  have hprog : (program : Sem Program).run P w = .ok P w := rfl
  rcases K.find w hkl es.toList hks with ⟨h3, h4⟩ | ⟨j, en, h3, h4, h5⟩
  · refine ⟨z, F, w, ?_, ?_, Ext.refl hF⟩
    · unfold execOp
      simp only [ho, hv, hxv, Sem.run_bind]
      simp [Instr.lookup, run_underlying ht, MapKept.run_getObj_map hh, K.check w _ hkl, h3, zeroValue, typeInfo, hti, hzz, Result.andThen]
    · rcases hd with ⟨i, hi2, _⟩ | ⟨_, rfl⟩
      · exfalso
        have hil : i < M.length := (List.getElem?_eq_some_iff.1 hi2).1
        have h6 := (hall i (by omega) hil).1
        rw [(List.getElem?_eq_some_iff.1 hi2).2] at h6
        exact h4 es[i] (by simp) h6
      · exact .d (.v _)
  · have hjs : j < es.size := by simpa using (List.getElem?_eq_some_iff.1 h4).1
    have hej : es[j] = en := by have := (List.getElem?_eq_some_iff.1 h4).2; simpa using this
    have hjl : j < M.length := by omega
    refine ⟨en.val, F, w, ?_, ?_, Ext.refl hF⟩
    · unfold execOp
      simp only [ho, hv, hxv, Sem.run_bind]
      simp [Instr.lookup, run_underlying ht, MapKept.run_getObj_map hh, K.check w _ hkl, h3, Result.andThen]
    · have hkj : M[j].1 = key := by rw [← (hall j hjs hjl).1, hej]; exact h5
      rcases hd with ⟨i, hi2, hu⟩ | ⟨hno, _⟩
      · have := hu j M[j] (List.getElem?_eq_getElem hjl) hkj
        subst this
        have h6 := (hall j hjs hjl).2
        rw [(List.getElem?_eq_some_iff.1 hi2).2, hej] at h6
        exact .d h6
      · exact absurd hkj (hno _ (List.getElem_mem hjl))

theorem AOp.lookupOkK {x ix : Operand} {t k et : TypeId} {id : Nat} {M : List (Value × D)} {key z k1 k2 : Value} {d : D}  (ho : o.op = .lookup t x ix true) (ht : P.underlying t = some (.map k et)) (K : Maps.Keyed P k) (hz : (P.info? et).bind (·.zero) = some z) (hx : e.ev x = .own id) (hm : (id, Ob.map M) ∈ σ)
    (hi : e.ev ix = .d (.agg [.v k1, .v k2])) (hke : key = .agg #[k1, k2]) (hg : ∃ l, keyOf P k key = some l) (hgs : ∀ p ∈ M, ∃ l, keyOf P k p.1 = some l) (ok : Bool) (hd : MGetOk M key (.v z) d ok) : AOp P B ops o e σ (.d (.tup [d, .v (.bool ok)])) := .value fun F ρ w a hF hr hσ => by
  have h1 := hr x (by rw [ho]; simp [Op.operands])
  have h2 := hr ix (by rw [ho]; simp [Op.operands])
  rw [hx] at h1
  rw [hi] at h2
  have hxv := (rep_agg2 (repS_d h2)).trans hke.symm
  obtain ⟨b, es, clock, hρ, hB, hFb, hh, ⟨hl, _, _⟩, hall⟩ := hσ.ok _ hm
  dsimp only at hρ
  have hv : a.eval x = .map (some b) := by rw [← hρ]; generalize a.eval x = u at h1; cases h1; rfl
  have hks : ∀ en ∈ es.toList, ∃ l, keyOf P k en.key = some l := fun en hen => by
    obtain ⟨j, hj⟩ := List.mem_iff_getElem?.1 hen
    obtain ⟨p, h1, h2, _⟩ := entries_get hl hall hj
    rw [h2]; exact hgs p (List.mem_of_getElem? h1)
  obtain ⟨kl, hkl⟩ := hg
  obtain ⟨ti, hti, hzz⟩ := Option.bind_eq_some_iff.1 hz
  have hprog : (program : Sem Program).run P w = .ok P w := rfl
  rcases K.find w hkl es.toList hks with ⟨h3, h4⟩ | ⟨j, en, h3, h4, h5⟩
  · refine ⟨.tuple #[z, .bool false], F, w, ?_, ?_, Ext.refl hF⟩
    · unfold execOp
      simp only [ho, hv, hxv, Sem.run_bind]
      simp [Instr.lookup, run_underlying ht, MapKept.run_getObj_map hh, K.check w _ hkl, h3, zeroValue, typeInfo, hti, hzz, Result.andThen]
    · rcases hd with ⟨_, i, hi2, _⟩ | ⟨hok, _, rfl⟩
      · exfalso
        have hil : i < M.length := (List.getElem?_eq_some_iff.1 hi2).1
        have h6 := (hall i (by omega) hil).1
        rw [(List.getElem?_eq_some_iff.1 hi2).2] at h6
        exact h4 es[i] (by simp) h6
      · subst hok
        exact .d (.tup [_, _] [_, _] rfl (fun i a b => by
          match i, a with
          | 0, _ => exact .v _
          | 1, _ => exact .v _))
  · have hjs : j < es.size := by simpa using (List.getElem?_eq_some_iff.1 h4).1
    have hej : es[j] = en := by have := (List.getElem?_eq_some_iff.1 h4).2; simpa using this
    have hjl : j < M.length := by omega
    refine ⟨.tuple #[en.val, .bool true], F, w, ?_, ?_, Ext.refl hF⟩
    · unfold execOp
      simp only [ho, hv, hxv, Sem.run_bind]
      simp [Instr.lookup, run_underlying ht, MapKept.run_getObj_map hh, K.check w _ hkl, h3, Result.andThen]
    · have hkj : M[j].1 = key := by rw [← (hall j hjs hjl).1, hej]; exact h5
      rcases hd with ⟨hok, i, hi2, hu⟩ | ⟨_, hno, _⟩
      · have := hu j M[j] (List.getElem?_eq_getElem hjl) hkj
        subst this
        have h6 := (hall j hjs hjl).2
        rw [(List.getElem?_eq_some_iff.1 hi2).2, hej] at h6
        subst hok
        exact .d (.tup [_, _] [_, _] rfl (fun i a b => by
          match i, a with
          | 0, _ => exact h6
          | 1, _ => exact .v _))
      · exact absurd hkj (hno _ (List.getElem_mem hjl))

end
end Go.Proofs.YtekenfknoakboaaDoor
