/- Walks and laws over abstract values, merged by tools/merge.py. No statement of the seat. -/
import Derived.Lib.ConvBytes
import Derived.Lib.Strings
import Derived.Test.YtfajemnegkfigaaDoorXE3

namespace Go.Proofs.YtfajemnegkfigaaDoor
open Go.RowKit
set_option linter.unusedVariables false

/-! Types. -/
namespace TyU2
theorem st_9 : Tryd.prog.underlying 9 = some .string := by kernel_rfl
end TyU2
open TyU2


open Go.Lib
theorem c_pName (s : ByteArray) (hs : s.size ≤ 9223372036854775807) : ACall Tryd.prog 52 [.v (.string s)] (.v (.bool (nameOk s))) :=
  acall_exact (us := [_]) (.of Tryd.func52 (by kernel_rfl) rfl) fun w => pName_any s w hs
theorem c_strCmp (a b : ByteArray) : ACall Tryd.prog 72 [.v (.string a), .v (.string b)] (.v (.int .i64 (strCmp a b))) :=
  acall_exact (us := [_, _]) (.of Tryd.func72 (by kernel_rfl) rfl) fun w => by
    have h := Any.strings_Compare Tryd.l106 a b w
    change Calls Tryd.prog 72 #[.string a, .string b] w _ at h
    exact h.mono fun _ _ ⟨h1, h2⟩ => ⟨h1, h2 ▸ Below.refl _ _⟩
/-- The library's variable holds some number. -/
def MaxT (w : World) : Prop := ∃ m, w.cell? ⟨Tryd.l144_ren.g 1, 0, none⟩ = some (.int .i64 m)
theorem maxT_stays : Stays MaxT := fun w w' k ⟨m, hm⟩ => by
  refine ⟨m, ?_⟩
  have hlt := World.block_lt_of_cell? _ _ hm
  dsimp only at hlt
  rw [World.cell?_of_block (k.block _ hlt (fun h => by have h2 : w.heap.size ≤ Tryd.l144_ren.g 1 := h; omega))]
  exact hm
theorem c_contains (s p : ByteArray) (hs : s.size < 4294967281) : ACallT Tryd.prog MaxT 80 [.v (.string s), .v (.string p)] (.v (.bool (Lib.contains s.data.toList p.data.toList))) :=
  ⟨.of Tryd.func80 (by kernel_rfl) rfl, fun F w vs hT hF hv => by
    rw [repL_v (us := [.string s, .string p]) hv]
    obtain ⟨m, hm⟩ := hT
    have h := Any.strings_Contains { Tryd.l144 with } s p m w hs hm
    change Calls Tryd.prog 80 #[.string s, .string p] w _ at h
    refine h.mono fun e w' ⟨h1, h2⟩ => ?_
    subst h2
    exact ⟨_, F, h1, .v _, Ext.refl hF⟩⟩
theorem c_contains2 (s : ByteArray) (hs : s.size ≤ 100) : ACallT Tryd.prog MaxT 80 [.v (.string s), .v (.string ⟨#[32, 32]⟩)] (.v (.bool (Lib.contains s.data.toList [32, 32]))) := c_contains s ⟨#[32, 32]⟩ (by omega)
theorem at0_ba {s : ByteArray} {i : Nat} (h : i < s.data.toList.length) : s.data.toList[i]? = some (at0 s.data.toList i) := by rw [at0_eq h, List.getElem?_eq_getElem h]
theorem emp_size {s : ByteArray} (h : s = ⟨#[]⟩) : s.size = 0 := by rw [h]; rfl
theorem nemp_size {s : ByteArray} (h : ¬ s = ⟨#[]⟩) : 0 < s.size := by
  rcases Nat.eq_zero_or_pos s.size with h0 | h0
  · exfalso; apply h
    apply ByteArray.ext
    have : s.data.toList = [] := List.eq_nil_of_length_eq_zero (by rw [← Lib.size_eq]; exact h0)
    exact Array.toList_inj.1 this
  · exact h0
theorem headD_at (l : List UInt8) : l.headD 0 = at0 l 0 := by cases l <;> rfl
theorem nm_len {s : ByteArray} (h : ¬ (1 ≤ s.data.toList.length ∧ s.data.toList.length ≤ 40)) : nameOk s = false := by
  unfold nameOk isName
  by_cases h1 : 1 ≤ s.data.toList.length
  · rw [decide_eq_false (show ¬ s.data.toList.length ≤ 40 by omega), Bool.and_false, Bool.false_and, Bool.false_and]
  · rw [decide_eq_false h1, Bool.false_and, Bool.false_and, Bool.false_and]
theorem nm_head {s : ByteArray} (h : ¬ (97 ≤ (at0 s.data.toList 0).toNat ∧ (at0 s.data.toList 0).toNat ≤ 122)) : nameOk s = false := by
  unfold nameOk isName
  rw [headD_at]
  have : headB (at0 s.data.toList 0) = false := by
    unfold headB
    rw [Bool.eq_false_iff]
    simp only [ne_eq, Bool.and_eq_true, decide_eq_true_eq]
    exact h
  rw [this, Bool.and_false, Bool.false_and]
theorem nameB_iff {c : UInt8} : nameB c = true ↔ (97 ≤ c.toNat ∧ c.toNat ≤ 122) ∨ (48 ≤ c.toNat ∧ c.toNat ≤ 57) ∨ c.toNat = 45 := by
  unfold nameB
  simp only [Bool.or_eq_true, Bool.and_eq_true, decide_eq_true_eq]
  omega
theorem all_nx {p : UInt8 → Bool} {l : List UInt8} {k : Nat} (hk : k < l.length) (h : ∀ c ∈ l.take k, p c = true) (h2 : p (at0 l k) = true) : ∀ c ∈ l.take (k + 1), p c = true := fun c hc => by
  rw [List.take_add_one, List.getElem?_eq_getElem hk, Option.toList_some, List.mem_append, List.mem_singleton] at hc
  rcases hc with hc | hc
  · exact h c hc
  · rw [hc, ← at0_eq hk]; exact h2
theorem all_end {p : UInt8 → Bool} {l : List UInt8} {k : Nat} (hk : l.length ≤ k) (h : ∀ c ∈ l.take k, p c = true) : l.all p = true := by
  rw [List.take_of_length_le hk] at h
  rw [List.all_eq_true]; exact h
theorem all_hit {p : UInt8 → Bool} {l : List UInt8} {k : Nat} (hk : k < l.length) (h : ¬ p (at0 l k) = true) : l.all p = false := by
  cases ha : l.all p with
  | false => rfl
  | true => exact absurd (by rw [at0_eq hk]; exact List.all_eq_true.1 ha _ (List.getElem_mem hk)) h
theorem nm_ch {s : ByteArray} {k : Nat} (hk : k < s.data.toList.length) (h : ¬ nameB (at0 s.data.toList k) = true) : nameOk s = false := by
  unfold nameOk isName
  rw [all_hit hk h, Bool.and_false]
theorem nm_ok {s : ByteArray} (h1 : 1 ≤ s.data.toList.length ∧ s.data.toList.length ≤ 40) (h2 : 97 ≤ (at0 s.data.toList 0).toNat ∧ (at0 s.data.toList 0).toNat ≤ 122) (h3 : s.data.toList.all nameB = true) : nameOk s = true := by
  unfold nameOk isName
  rw [headD_at, h3, decide_eq_true h1.1, decide_eq_true h1.2]
  unfold headB
  rw [decide_eq_true h2.1, decide_eq_true h2.2]; rfl
theorem tt_no {l : List UInt8} (h : ¬ (1 ≤ l.length ∧ l.length ≤ 100 ∧ at0 l 0 ≠ 32 ∧ at0 l (l.length - 1) ≠ 32 ∧ Lib.contains l [32, 32] = false ∧ l.all prB = true)) : titleB l = false := by
  rw [Bool.eq_false_iff]
  intro hb
  unfold titleB at hb
  simp only [Bool.and_eq_true, decide_eq_true_eq, Bool.not_eq_true', decide_eq_false_iff_not] at hb
  exact h ⟨hb.1.1.1.1.1, hb.1.1.1.1.2, hb.1.1.1.2, hb.1.1.2, hb.1.2, hb.2⟩
theorem tt_yes {l : List UInt8} (h1 : 1 ≤ l.length) (h2 : l.length ≤ 100) (h3 : at0 l 0 ≠ 32) (h4 : at0 l (l.length - 1) ≠ 32) (h5 : Lib.contains l [32, 32] = false) (h6 : l.all prB = true) : titleB l = true := by
  unfold titleB
  simp only [h1, h2, h3, h4, h5, h6, decide_true, decide_false, Bool.not_false, Bool.and_true]
theorem u32' {x : UInt8} (h : (x.toNat : Int) = 32) : x = 32 := UInt8.toNat_inj.1 (by show x.toNat = 32; omega)
theorem u32n {x : UInt8} (h : ¬ (x.toNat : Int) = 32) : x ≠ 32 := fun e => h (by rw [e]; rfl)
theorem prB_iff {c : UInt8} : prB c = true ↔ 32 ≤ c.toNat ∧ c.toNat ≤ 126 := by unfold prB; simp


set_option maxRecDepth 100000 in
set_option maxHeartbeats 1000000 in
theorem c_rName (s : ByteArray) (hs : s.size ≤ 9223372036854775807) : ACall Tryd.prog 29 [.v (.string s)] (.v (.bool (nameOk s))) := by
  refine acall_of (n := 49) (ds' := [.v (.bool (nameOk s))]) Tryd.func29 rfl (by kernel_rfl) rfl [2] rfl rfl ?_
  intro B w0 F0 fr
  have hsz := Lib.size_eq s
  refine AWP.seq ?_
  refine AWP.region ?_
  refine AOps.step rfl rfl rfl (AOp.assignD rfl rfl) ?_
  refine AOps.nil ?_
  refine AWP.seq ?_
  refine AWP.seq ?_
  refine AWP.region ?_
  refine AOps.step rfl rfl rfl (AOp.moveD rfl rfl) ?_
  refine AOps.step rfl rfl rfl (AOp.seql rfl rfl rfl) ?_
  refine AOps.step rfl rfl rfl (AOp.moveD rfl rfl) ?_
  refine AOps.split 7 rfl (fun g1 => ?_) (fun g1 => ?_)
  · replace g1 := of_decide_eq_true g1
    have HR := nm_len (s := s) (by have := emp_size g1; omega)
    refine AOps.pass ⟨7, rfl, .inl ⟨_, rfl, rfl⟩⟩ rfl rfl ?_
    refine AOps.pass ⟨7, rfl, .inl ⟨_, rfl, rfl⟩⟩ rfl rfl ?_
    refine AOps.pass ⟨7, rfl, .inl ⟨_, rfl, rfl⟩⟩ rfl rfl ?_
    refine AOps.step rfl rfl rfl (AOp.pickT rfl rfl rfl) ?_
    refine AOps.step rfl rfl rfl (AOp.moveD rfl rfl) ?_
    refine AOps.pass ⟨12, rfl, .inl ⟨_, rfl, rfl⟩⟩ rfl rfl ?_
    refine AOps.pass ⟨12, rfl, .inl ⟨_, rfl, rfl⟩⟩ rfl rfl ?_
    refine AOps.pass ⟨12, rfl, .inl ⟨_, rfl, rfl⟩⟩ rfl rfl ?_
    refine AOps.step rfl rfl rfl (AOp.pickT rfl rfl rfl) ?_
    refine AOps.step rfl rfl rfl (AOp.moveD rfl rfl) ?_
    refine AOps.pass ⟨17, rfl, .inl ⟨_, rfl, rfl⟩⟩ rfl rfl ?_
    refine AOps.pass ⟨17, rfl, .inl ⟨_, rfl, rfl⟩⟩ rfl rfl ?_
    refine AOps.pass ⟨17, rfl, .inl ⟨_, rfl, rfl⟩⟩ rfl rfl ?_
    refine AOps.step rfl rfl rfl (AOp.pickT rfl rfl rfl) ?_
    refine AOps.nil ?_
    refine AWP.cond rfl (fun _ => ?_) (fun h => nomatch h)
    refine AWP.seq ?_
    refine AWP.region ?_
    refine AOps.step rfl rfl rfl (AOp.assignD rfl rfl) ?_
    refine AOps.nil ?_
    refine AWP.ret ?_
    refine ⟨RetD.eq rfl ?_, trivial⟩
    all_goals (first | rw [HR] | rw [nm_ch hlt (fun hc => by have := nameB_iff.1 hc; omega)])
  · replace g1 := of_decide_eq_false g1
    have hp := nemp_size g1
    refine AOps.step ⟨7, rfl, .inl ⟨_, rfl, rfl⟩⟩ rfl rfl (AOp.moveD rfl rfl) ?_
    refine AOps.step ⟨7, rfl, .inl ⟨_, rfl, rfl⟩⟩ rfl rfl (AOp.lenStr rfl st_9 rfl) ?_
    refine AOps.step ⟨7, rfl, .inl ⟨_, rfl, rfl⟩⟩ rfl rfl (AOp.gtr rfl rfl rfl) ?_
    refine AOps.step rfl rfl rfl (AOp.pickF rfl rfl rfl) ?_
    refine AOps.step rfl rfl rfl (AOp.moveD rfl rfl) ?_
    refine AOps.split 12 rfl (fun g2 => ?_) (fun g2 => ?_)
    · replace g2 := of_decide_eq_true g2
      have HR := nm_len (s := s) (by omega)
      refine AOps.pass ⟨12, rfl, .inl ⟨_, rfl, rfl⟩⟩ rfl rfl ?_
      refine AOps.pass ⟨12, rfl, .inl ⟨_, rfl, rfl⟩⟩ rfl rfl ?_
      refine AOps.pass ⟨12, rfl, .inl ⟨_, rfl, rfl⟩⟩ rfl rfl ?_
      refine AOps.step rfl rfl rfl (AOp.pickT rfl rfl rfl) ?_
      refine AOps.step rfl rfl rfl (AOp.moveD rfl rfl) ?_
      refine AOps.pass ⟨17, rfl, .inl ⟨_, rfl, rfl⟩⟩ rfl rfl ?_
      refine AOps.pass ⟨17, rfl, .inl ⟨_, rfl, rfl⟩⟩ rfl rfl ?_
      refine AOps.pass ⟨17, rfl, .inl ⟨_, rfl, rfl⟩⟩ rfl rfl ?_
      refine AOps.step rfl rfl rfl (AOp.pickT rfl rfl rfl) ?_
      refine AOps.nil ?_
      refine AWP.cond rfl (fun _ => ?_) (fun h => nomatch h)
      refine AWP.seq ?_
      refine AWP.region ?_
      refine AOps.step rfl rfl rfl (AOp.assignD rfl rfl) ?_
      refine AOps.nil ?_
      refine AWP.ret ?_
      refine ⟨RetD.eq rfl ?_, trivial⟩
      all_goals (first | rw [HR] | rw [nm_ch hlt (fun hc => by have := nameB_iff.1 hc; omega)])
    · replace g2 := of_decide_eq_false g2
      refine AOps.step ⟨12, rfl, .inl ⟨_, rfl, rfl⟩⟩ rfl rfl (AOp.moveD rfl rfl) ?_
      refine AOps.step ⟨12, rfl, .inl ⟨_, rfl, rfl⟩⟩ rfl rfl (AOp.indexStr rfl st_9 rfl rfl 0 rfl (at0_ba (by omega))) ?_
      refine AOps.step ⟨12, rfl, .inl ⟨_, rfl, rfl⟩⟩ rfl rfl (AOp.lss rfl rfl rfl) ?_
      refine AOps.step rfl rfl rfl (AOp.pickF rfl rfl rfl) ?_
      refine AOps.step rfl rfl rfl (AOp.moveD rfl rfl) ?_
      refine AOps.split 17 rfl (fun g3 => ?_) (fun g3 => ?_)
      · replace g3 := of_decide_eq_true g3
        have HR := nm_head (s := s) (by omega)
        refine AOps.pass ⟨17, rfl, .inl ⟨_, rfl, rfl⟩⟩ rfl rfl ?_
        refine AOps.pass ⟨17, rfl, .inl ⟨_, rfl, rfl⟩⟩ rfl rfl ?_
        refine AOps.pass ⟨17, rfl, .inl ⟨_, rfl, rfl⟩⟩ rfl rfl ?_
        refine AOps.step rfl rfl rfl (AOp.pickT rfl rfl rfl) ?_
        refine AOps.nil ?_
        refine AWP.cond rfl (fun _ => ?_) (fun h => nomatch h)
        refine AWP.seq ?_
        refine AWP.region ?_
        refine AOps.step rfl rfl rfl (AOp.assignD rfl rfl) ?_
        refine AOps.nil ?_
        refine AWP.ret ?_
        refine ⟨RetD.eq rfl ?_, trivial⟩
        all_goals (first | rw [HR] | rw [nm_ch hlt (fun hc => by have := nameB_iff.1 hc; omega)])
      · replace g3 := of_decide_eq_false g3
        refine AOps.step ⟨17, rfl, .inl ⟨_, rfl, rfl⟩⟩ rfl rfl (AOp.moveD rfl rfl) ?_
        refine AOps.step ⟨17, rfl, .inl ⟨_, rfl, rfl⟩⟩ rfl rfl (AOp.indexStr rfl st_9 rfl rfl 0 rfl (at0_ba (by omega))) ?_
        refine AOps.step ⟨17, rfl, .inl ⟨_, rfl, rfl⟩⟩ rfl rfl (AOp.gtr rfl rfl rfl) ?_
        refine AOps.step rfl rfl rfl (AOp.pickF rfl rfl rfl) ?_
        refine AOps.nil ?_
        refine AWP.cond rfl (fun h4 => ?_) (fun h4 => ?_)
        · replace h4 := of_decide_eq_true h4
          have HR := nm_head (s := s) (by omega)
          refine AWP.seq ?_
          refine AWP.region ?_
          refine AOps.step rfl rfl rfl (AOp.assignD rfl rfl) ?_
          refine AOps.nil ?_
          refine AWP.ret ?_
          refine ⟨RetD.eq rfl ?_, trivial⟩
          all_goals (first | rw [HR] | rw [nm_ch hlt (fun hc => by have := nameB_iff.1 hc; omega)])
        · replace h4 := of_decide_eq_false h4
          have hhd : 97 ≤ (at0 s.data.toList 0).toNat ∧ (at0 s.data.toList 0).toNat ≤ 122 := by omega
          refine AWP.skip ?_
          refine AWP.seq ?_
          refine AWP.seq ?_
          refine AWP.region ?_
          refine AOps.step rfl rfl rfl (AOp.moveD rfl rfl) ?_
          refine AOps.step rfl rfl rfl (AOp.lenStr rfl st_9 rfl) ?_
          refine AOps.step rfl rfl rfl (AOp.moveD rfl rfl) ?_
          refine AOps.nil ?_
          refine AWP.block ?_
          refine AWP.loop (G := Nat) (fun k => Env.of [(24, .d (.v (.int .i64 (k : Int)))), (23, .d (.v (.int .i64 (s.size : Int)))), (0, .d (.v (.string s)))]) (fun k => []) (fun k => k ≤ s.size ∧ ∀ c ∈ s.data.toList.take k, nameB c = true) (fun k => s.size - k) 0 ⟨Nat.zero_le _, fun c h => by simp at h⟩ (Sub.less ⟨(SLe.of_eq rfl), SLe.refl _, SLe.refl _, trivial⟩ (fun _ h => h)) ?_
          intro k hk
          refine AWP.seq ?_
          refine AWP.region ?_
          refine AOps.step rfl rfl rfl (AOp.lss rfl rfl rfl) ?_
          refine AOps.nil ?_
          refine AWP.seq ?_
          refine AWP.cond rfl (fun h5 => ?_) (fun h5 => ?_)
          · replace h5 := of_decide_eq_true h5
            have hlt : k < s.data.toList.length := by omega
            refine AWP.skip ?_
            refine AWP.seq ?_
            refine AWP.block ?_
            refine AWP.seq ?_
            refine AWP.region ?_
            refine AOps.step rfl rfl rfl (AOp.moveD rfl rfl) ?_
            refine AOps.step rfl rfl rfl (AOp.assignD rfl rfl) ?_
            refine AOps.nil ?_
            refine AWP.seq ?_
            refine AWP.region ?_
            refine AOps.step rfl rfl rfl (AOp.moveD rfl rfl) ?_
            refine AOps.step rfl rfl rfl (AOp.moveD rfl rfl) ?_
            refine AOps.step rfl rfl rfl (AOp.indexStr rfl st_9 rfl rfl k rfl (at0_ba hlt)) ?_
            refine AOps.step rfl rfl rfl (AOp.assignD rfl rfl) ?_
            refine AOps.nil ?_
            refine AWP.seq ?_
            refine AWP.region ?_
            refine AOps.step rfl rfl rfl (AOp.moveD rfl rfl) ?_
            refine AOps.step rfl rfl rfl (AOp.lss rfl rfl rfl) ?_
            refine AOps.step rfl rfl rfl (AOp.moveD rfl rfl) ?_
            refine AOps.split 32 rfl (fun g6 => ?_) (fun g6 => ?_)
            · replace g6 := of_decide_eq_true g6
              refine AOps.pass ⟨32, rfl, .inl ⟨_, rfl, rfl⟩⟩ rfl rfl ?_
              refine AOps.pass ⟨32, rfl, .inl ⟨_, rfl, rfl⟩⟩ rfl rfl ?_
              refine AOps.step rfl rfl rfl (AOp.pickT rfl rfl rfl) ?_
              refine AOps.step rfl rfl rfl (AOp.moveD rfl rfl) ?_
              refine AOps.step ⟨36, rfl, .inl ⟨_, rfl, rfl⟩⟩ rfl rfl (AOp.moveD rfl rfl) ?_
              refine AOps.step ⟨36, rfl, .inl ⟨_, rfl, rfl⟩⟩ rfl rfl (AOp.lss rfl rfl rfl) ?_
              refine AOps.step ⟨36, rfl, .inl ⟨_, rfl, rfl⟩⟩ rfl rfl (AOp.moveD rfl rfl) ?_
              refine AOps.split 39 rfl (fun g7 => ?_) (fun g7 => ?_)
              · replace g7 := of_decide_eq_true g7
                refine AOps.pass ⟨39, rfl, .inl ⟨_, rfl, rfl⟩⟩ rfl rfl ?_
                refine AOps.pass ⟨39, rfl, .inl ⟨_, rfl, rfl⟩⟩ rfl rfl ?_
                refine AOps.step ⟨36, rfl, .inl ⟨_, rfl, rfl⟩⟩ rfl rfl (AOp.pickT rfl rfl rfl) ?_
                refine AOps.step rfl rfl rfl (AOp.pickT rfl rfl rfl) ?_
                refine AOps.step rfl rfl rfl (AOp.moveD rfl rfl) ?_
                refine AOps.step ⟨44, rfl, .inl ⟨_, rfl, rfl⟩⟩ rfl rfl (AOp.moveD rfl rfl) ?_
                refine AOps.step ⟨44, rfl, .inl ⟨_, rfl, rfl⟩⟩ rfl rfl (AOp.neq rfl rfl rfl) ?_
                refine AOps.step rfl rfl rfl (AOp.pickT rfl rfl rfl) ?_
                refine AOps.nil ?_
                refine AWP.cond rfl (fun h8 => ?_) (fun h8 => ?_)
                · replace h8 := of_decide_eq_true h8
                  refine AWP.seq ?_
                  refine AWP.region ?_
                  refine AOps.step rfl rfl rfl (AOp.assignD rfl rfl) ?_
                  refine AOps.nil ?_
                  refine AWP.ret ?_
                  refine ⟨RetD.eq rfl ?_, trivial⟩
                  all_goals (first | rw [HR] | rw [nm_ch hlt (fun hc => by have := nameB_iff.1 hc; omega)])
                · replace h8 := of_decide_eq_false h8
                  refine AWP.skip ?_
                  refine AWP.region ?_
                  refine AOps.step rfl rfl rfl (AOp.add64 rfl rfl rfl (by omega) (by omega)) ?_
                  refine AOps.step rfl rfl rfl (AOp.moveD rfl rfl) ?_
                  refine AOps.nil ?_
                  refine ⟨k + 1, ⟨by omega, all_nx hlt hk.2 (nameB_iff.2 (by omega))⟩, (by dsimp only; omega), Sub.less ⟨(SLe.of_eq rfl), SLe.refl _, SLe.refl _, trivial⟩ (fun _ h => h)⟩
              · replace g7 := of_decide_eq_false g7
                refine AOps.step ⟨39, rfl, .inl ⟨_, rfl, rfl⟩⟩ rfl rfl (AOp.moveD rfl rfl) ?_
                refine AOps.step ⟨39, rfl, .inl ⟨_, rfl, rfl⟩⟩ rfl rfl (AOp.gtr rfl rfl rfl) ?_
                refine AOps.step ⟨36, rfl, .inl ⟨_, rfl, rfl⟩⟩ rfl rfl (AOp.pickF rfl rfl rfl) ?_
                refine AOps.step rfl rfl rfl (AOp.pickT rfl rfl rfl) ?_
                refine AOps.step rfl rfl rfl (AOp.moveD rfl rfl) ?_
                refine AOps.split 44 rfl (fun g9 => ?_) (fun g9 => ?_)
                · replace g9 := of_decide_eq_true g9
                  refine AOps.step ⟨44, rfl, .inl ⟨_, rfl, rfl⟩⟩ rfl rfl (AOp.moveD rfl rfl) ?_
                  refine AOps.step ⟨44, rfl, .inl ⟨_, rfl, rfl⟩⟩ rfl rfl (AOp.neq rfl rfl rfl) ?_
                  refine AOps.step rfl rfl rfl (AOp.pickT rfl rfl rfl) ?_
                  refine AOps.nil ?_
                  refine AWP.cond rfl (fun h10 => ?_) (fun h10 => ?_)
                  · replace h10 := of_decide_eq_true h10
                    refine AWP.seq ?_
                    refine AWP.region ?_
                    refine AOps.step rfl rfl rfl (AOp.assignD rfl rfl) ?_
                    refine AOps.nil ?_
                    refine AWP.ret ?_
                    refine ⟨RetD.eq rfl ?_, trivial⟩
                    all_goals (first | rw [HR] | rw [nm_ch hlt (fun hc => by have := nameB_iff.1 hc; omega)])
                  · replace h10 := of_decide_eq_false h10
                    refine AWP.skip ?_
                    refine AWP.region ?_
                    refine AOps.step rfl rfl rfl (AOp.add64 rfl rfl rfl (by omega) (by omega)) ?_
                    refine AOps.step rfl rfl rfl (AOp.moveD rfl rfl) ?_
                    refine AOps.nil ?_
                    refine ⟨k + 1, ⟨by omega, all_nx hlt hk.2 (nameB_iff.2 (by omega))⟩, (by dsimp only; omega), Sub.less ⟨(SLe.of_eq rfl), SLe.refl _, SLe.refl _, trivial⟩ (fun _ h => h)⟩
                · replace g9 := of_decide_eq_false g9
                  refine AOps.pass ⟨44, rfl, .inl ⟨_, rfl, rfl⟩⟩ rfl rfl ?_
                  refine AOps.pass ⟨44, rfl, .inl ⟨_, rfl, rfl⟩⟩ rfl rfl ?_
                  refine AOps.step rfl rfl rfl (AOp.pickF rfl rfl rfl) ?_
                  refine AOps.nil ?_
                  refine AWP.cond rfl (fun h => nomatch h) (fun _ => ?_)
                  refine AWP.skip ?_
                  refine AWP.region ?_
                  refine AOps.step rfl rfl rfl (AOp.add64 rfl rfl rfl (by omega) (by omega)) ?_
                  refine AOps.step rfl rfl rfl (AOp.moveD rfl rfl) ?_
                  refine AOps.nil ?_
                  refine ⟨k + 1, ⟨by omega, all_nx hlt hk.2 (nameB_iff.2 (by omega))⟩, (by dsimp only; omega), Sub.less ⟨(SLe.of_eq rfl), SLe.refl _, SLe.refl _, trivial⟩ (fun _ h => h)⟩
            · replace g6 := of_decide_eq_false g6
              refine AOps.step ⟨32, rfl, .inl ⟨_, rfl, rfl⟩⟩ rfl rfl (AOp.moveD rfl rfl) ?_
              refine AOps.step ⟨32, rfl, .inl ⟨_, rfl, rfl⟩⟩ rfl rfl (AOp.gtr rfl rfl rfl) ?_
              refine AOps.step rfl rfl rfl (AOp.pickF rfl rfl rfl) ?_
              refine AOps.step rfl rfl rfl (AOp.moveD rfl rfl) ?_
              refine AOps.split 36 rfl (fun g11 => ?_) (fun g11 => ?_)
              · replace g11 := of_decide_eq_true g11
                refine AOps.step ⟨36, rfl, .inl ⟨_, rfl, rfl⟩⟩ rfl rfl (AOp.moveD rfl rfl) ?_
                refine AOps.step ⟨36, rfl, .inl ⟨_, rfl, rfl⟩⟩ rfl rfl (AOp.lss rfl rfl rfl) ?_
                refine AOps.step ⟨36, rfl, .inl ⟨_, rfl, rfl⟩⟩ rfl rfl (AOp.moveD rfl rfl) ?_
                refine AOps.split 39 rfl (fun g12 => ?_) (fun g12 => ?_)
                · replace g12 := of_decide_eq_true g12
                  refine AOps.pass ⟨39, rfl, .inl ⟨_, rfl, rfl⟩⟩ rfl rfl ?_
                  refine AOps.pass ⟨39, rfl, .inl ⟨_, rfl, rfl⟩⟩ rfl rfl ?_
                  refine AOps.step ⟨36, rfl, .inl ⟨_, rfl, rfl⟩⟩ rfl rfl (AOp.pickT rfl rfl rfl) ?_
                  refine AOps.step rfl rfl rfl (AOp.pickT rfl rfl rfl) ?_
                  refine AOps.step rfl rfl rfl (AOp.moveD rfl rfl) ?_
                  refine AOps.step ⟨44, rfl, .inl ⟨_, rfl, rfl⟩⟩ rfl rfl (AOp.moveD rfl rfl) ?_
                  refine AOps.step ⟨44, rfl, .inl ⟨_, rfl, rfl⟩⟩ rfl rfl (AOp.neq rfl rfl rfl) ?_
                  refine AOps.step rfl rfl rfl (AOp.pickT rfl rfl rfl) ?_
                  refine AOps.nil ?_
                  refine AWP.cond rfl (fun h13 => ?_) (fun h13 => ?_)
                  · replace h13 := of_decide_eq_true h13
                    refine AWP.seq ?_
                    refine AWP.region ?_
                    refine AOps.step rfl rfl rfl (AOp.assignD rfl rfl) ?_
                    refine AOps.nil ?_
                    refine AWP.ret ?_
                    refine ⟨RetD.eq rfl ?_, trivial⟩
                    all_goals (first | rw [HR] | rw [nm_ch hlt (fun hc => by have := nameB_iff.1 hc; omega)])
                  · replace h13 := of_decide_eq_false h13
                    refine AWP.skip ?_
                    refine AWP.region ?_
                    refine AOps.step rfl rfl rfl (AOp.add64 rfl rfl rfl (by omega) (by omega)) ?_
                    refine AOps.step rfl rfl rfl (AOp.moveD rfl rfl) ?_
                    refine AOps.nil ?_
                    refine ⟨k + 1, ⟨by omega, all_nx hlt hk.2 (nameB_iff.2 (by omega))⟩, (by dsimp only; omega), Sub.less ⟨(SLe.of_eq rfl), SLe.refl _, SLe.refl _, trivial⟩ (fun _ h => h)⟩
                · replace g12 := of_decide_eq_false g12
                  refine AOps.step ⟨39, rfl, .inl ⟨_, rfl, rfl⟩⟩ rfl rfl (AOp.moveD rfl rfl) ?_
                  refine AOps.step ⟨39, rfl, .inl ⟨_, rfl, rfl⟩⟩ rfl rfl (AOp.gtr rfl rfl rfl) ?_
                  refine AOps.step ⟨36, rfl, .inl ⟨_, rfl, rfl⟩⟩ rfl rfl (AOp.pickF rfl rfl rfl) ?_
                  refine AOps.step rfl rfl rfl (AOp.pickT rfl rfl rfl) ?_
                  refine AOps.step rfl rfl rfl (AOp.moveD rfl rfl) ?_
                  refine AOps.split 44 rfl (fun g14 => ?_) (fun g14 => ?_)
                  · replace g14 := of_decide_eq_true g14
                    refine AOps.step ⟨44, rfl, .inl ⟨_, rfl, rfl⟩⟩ rfl rfl (AOp.moveD rfl rfl) ?_
                    refine AOps.step ⟨44, rfl, .inl ⟨_, rfl, rfl⟩⟩ rfl rfl (AOp.neq rfl rfl rfl) ?_
                    refine AOps.step rfl rfl rfl (AOp.pickT rfl rfl rfl) ?_
                    refine AOps.nil ?_
                    refine AWP.cond rfl (fun h15 => ?_) (fun h15 => ?_)
                    · replace h15 := of_decide_eq_true h15
                      refine AWP.seq ?_
                      refine AWP.region ?_
                      refine AOps.step rfl rfl rfl (AOp.assignD rfl rfl) ?_
                      refine AOps.nil ?_
                      refine AWP.ret ?_
                      refine ⟨RetD.eq rfl ?_, trivial⟩
                      all_goals (first | rw [HR] | rw [nm_ch hlt (fun hc => by have := nameB_iff.1 hc; omega)])
                    · replace h15 := of_decide_eq_false h15
                      refine AWP.skip ?_
                      refine AWP.region ?_
                      refine AOps.step rfl rfl rfl (AOp.add64 rfl rfl rfl (by omega) (by omega)) ?_
                      refine AOps.step rfl rfl rfl (AOp.moveD rfl rfl) ?_
                      refine AOps.nil ?_
                      refine ⟨k + 1, ⟨by omega, all_nx hlt hk.2 (nameB_iff.2 (by omega))⟩, (by dsimp only; omega), Sub.less ⟨(SLe.of_eq rfl), SLe.refl _, SLe.refl _, trivial⟩ (fun _ h => h)⟩
                  · replace g14 := of_decide_eq_false g14
                    refine AOps.pass ⟨44, rfl, .inl ⟨_, rfl, rfl⟩⟩ rfl rfl ?_
                    refine AOps.pass ⟨44, rfl, .inl ⟨_, rfl, rfl⟩⟩ rfl rfl ?_
                    refine AOps.step rfl rfl rfl (AOp.pickF rfl rfl rfl) ?_
                    refine AOps.nil ?_
                    refine AWP.cond rfl (fun h => nomatch h) (fun _ => ?_)
                    refine AWP.skip ?_
                    refine AWP.region ?_
                    refine AOps.step rfl rfl rfl (AOp.add64 rfl rfl rfl (by omega) (by omega)) ?_
                    refine AOps.step rfl rfl rfl (AOp.moveD rfl rfl) ?_
                    refine AOps.nil ?_
                    refine ⟨k + 1, ⟨by omega, all_nx hlt hk.2 (nameB_iff.2 (by omega))⟩, (by dsimp only; omega), Sub.less ⟨(SLe.of_eq rfl), SLe.refl _, SLe.refl _, trivial⟩ (fun _ h => h)⟩
              · replace g11 := of_decide_eq_false g11
                refine AOps.pass ⟨36, rfl, .inl ⟨_, rfl, rfl⟩⟩ rfl rfl ?_
                refine AOps.pass ⟨36, rfl, .inl ⟨_, rfl, rfl⟩⟩ rfl rfl ?_
                refine AOps.pass ⟨36, rfl, .inl ⟨_, rfl, rfl⟩⟩ rfl rfl ?_
                refine AOps.pass ⟨39, rfl, .inr ⟨rfl, rfl⟩⟩ rfl rfl ?_
                refine AOps.pass ⟨39, rfl, .inr ⟨rfl, rfl⟩⟩ rfl rfl ?_
                refine AOps.pass ⟨36, rfl, .inl ⟨_, rfl, rfl⟩⟩ rfl rfl ?_
                refine AOps.step rfl rfl rfl (AOp.pickF rfl rfl rfl) ?_
                refine AOps.step rfl rfl rfl (AOp.moveD rfl rfl) ?_
                refine AOps.pass ⟨44, rfl, .inl ⟨_, rfl, rfl⟩⟩ rfl rfl ?_
                refine AOps.pass ⟨44, rfl, .inl ⟨_, rfl, rfl⟩⟩ rfl rfl ?_
                refine AOps.step rfl rfl rfl (AOp.pickF rfl rfl rfl) ?_
                refine AOps.nil ?_
                refine AWP.cond rfl (fun h => nomatch h) (fun _ => ?_)
                refine AWP.skip ?_
                refine AWP.region ?_
                refine AOps.step rfl rfl rfl (AOp.add64 rfl rfl rfl (by omega) (by omega)) ?_
                refine AOps.step rfl rfl rfl (AOp.moveD rfl rfl) ?_
                refine AOps.nil ?_
                refine ⟨k + 1, ⟨by omega, all_nx hlt hk.2 (nameB_iff.2 (by omega))⟩, (by dsimp only; omega), Sub.less ⟨(SLe.of_eq rfl), SLe.refl _, SLe.refl _, trivial⟩ (fun _ h => h)⟩
          · replace h5 := of_decide_eq_false h5
            have HR := nm_ok (s := s) (by omega) hhd (all_end (by omega) hk.2)
            refine AWP.exit ?_
            refine AWP.seq ?_
            refine AWP.region ?_
            refine AOps.step rfl rfl rfl (AOp.assignD rfl rfl) ?_
            refine AOps.nil ?_
            refine AWP.ret ?_
            refine ⟨RetD.eq rfl ?_, trivial⟩
            all_goals (first | rw [HR] | rw [nm_ch hlt (fun hc => by have := nameB_iff.1 hc; omega)])

set_option maxRecDepth 100000 in
set_option maxHeartbeats 1000000 in
theorem c_pTitle (s : ByteArray) (hs : s.size ≤ 9223372036854775807) : ACallT Tryd.prog MaxT 53 [.v (.string s)] (.v (.bool (titleOk s))) := by
  refine acall_ofT (n := 45) (ds' := [.v (.bool (titleOk s))]) Tryd.func53 rfl (by kernel_rfl) rfl [2] rfl rfl ?_
  intro B w0 F0 hT
  have hsz := Lib.size_eq s
  refine AWP.seq ?_
  refine AWP.region ?_
  refine AOps.step rfl rfl rfl (AOp.assignD rfl rfl) ?_
  refine AOps.nil ?_
  refine AWP.seq ?_
  refine AWP.seq ?_
  refine AWP.region ?_
  refine AOps.step rfl rfl rfl (AOp.moveD rfl rfl) ?_
  refine AOps.step rfl rfl rfl (AOp.lenStr rfl st_9 rfl) ?_
  refine AOps.step rfl rfl rfl (AOp.lss rfl rfl rfl) ?_
  refine AOps.step rfl rfl rfl (AOp.moveD rfl rfl) ?_
  refine AOps.split 7 rfl (fun g1 => ?_) (fun g1 => ?_)
  · replace g1 := of_decide_eq_true g1
    have HR : titleOk s = false := tt_no (fun hh => by omega)
    refine AOps.pass ⟨7, rfl, .inl ⟨_, rfl, rfl⟩⟩ rfl rfl ?_
    refine AOps.pass ⟨7, rfl, .inl ⟨_, rfl, rfl⟩⟩ rfl rfl ?_
    refine AOps.pass ⟨7, rfl, .inl ⟨_, rfl, rfl⟩⟩ rfl rfl ?_
    refine AOps.step rfl rfl rfl (AOp.pickT rfl rfl rfl) ?_
    refine AOps.step rfl rfl rfl (AOp.moveD rfl rfl) ?_
    refine AOps.pass ⟨12, rfl, .inl ⟨_, rfl, rfl⟩⟩ rfl rfl ?_
    refine AOps.pass ⟨12, rfl, .inl ⟨_, rfl, rfl⟩⟩ rfl rfl ?_
    refine AOps.pass ⟨12, rfl, .inl ⟨_, rfl, rfl⟩⟩ rfl rfl ?_
    refine AOps.step rfl rfl rfl (AOp.pickT rfl rfl rfl) ?_
    refine AOps.step rfl rfl rfl (AOp.moveD rfl rfl) ?_
    refine AOps.pass ⟨17, rfl, .inl ⟨_, rfl, rfl⟩⟩ rfl rfl ?_
    refine AOps.pass ⟨17, rfl, .inl ⟨_, rfl, rfl⟩⟩ rfl rfl ?_
    refine AOps.pass ⟨17, rfl, .inl ⟨_, rfl, rfl⟩⟩ rfl rfl ?_
    refine AOps.pass ⟨17, rfl, .inl ⟨_, rfl, rfl⟩⟩ rfl rfl ?_
    refine AOps.pass ⟨17, rfl, .inl ⟨_, rfl, rfl⟩⟩ rfl rfl ?_
    refine AOps.pass ⟨17, rfl, .inl ⟨_, rfl, rfl⟩⟩ rfl rfl ?_
    refine AOps.step rfl rfl rfl (AOp.pickT rfl rfl rfl) ?_
    refine AOps.step rfl rfl rfl (AOp.moveD rfl rfl) ?_
    refine AOps.pass ⟨25, rfl, .inl ⟨_, rfl, rfl⟩⟩ rfl rfl ?_
    refine AOps.pass ⟨25, rfl, .inl ⟨_, rfl, rfl⟩⟩ rfl rfl ?_
    refine AOps.step rfl rfl rfl (AOp.pickT rfl rfl rfl) ?_
    refine AOps.nil ?_
    refine AWP.cond rfl (fun _ => ?_) (fun h => nomatch h)
    refine AWP.seq ?_
    refine AWP.region ?_
    refine AOps.step rfl rfl rfl (AOp.assignD rfl rfl) ?_
    refine AOps.nil ?_
    refine AWP.ret ?_
    refine ⟨RetD.eq rfl ?_, trivial⟩
    all_goals (first | rw [HR] | rw [show titleOk s = false from tt_no (fun hh => by rw [all_hit hlt (fun hc => by have := prB_iff.1 hc; omega)] at hh; exact absurd hh.2.2.2.2.2 (by decide))])
  · replace g1 := of_decide_eq_false g1
    have hp : 0 < s.size := by omega
    refine AOps.step ⟨7, rfl, .inl ⟨_, rfl, rfl⟩⟩ rfl rfl (AOp.moveD rfl rfl) ?_
    refine AOps.step ⟨7, rfl, .inl ⟨_, rfl, rfl⟩⟩ rfl rfl (AOp.lenStr rfl st_9 rfl) ?_
    refine AOps.step ⟨7, rfl, .inl ⟨_, rfl, rfl⟩⟩ rfl rfl (AOp.gtr rfl rfl rfl) ?_
    refine AOps.step rfl rfl rfl (AOp.pickF rfl rfl rfl) ?_
    refine AOps.step rfl rfl rfl (AOp.moveD rfl rfl) ?_
    refine AOps.split 12 rfl (fun g2 => ?_) (fun g2 => ?_)
    · replace g2 := of_decide_eq_true g2
      have HR : titleOk s = false := tt_no (fun hh => by omega)
      refine AOps.pass ⟨12, rfl, .inl ⟨_, rfl, rfl⟩⟩ rfl rfl ?_
      refine AOps.pass ⟨12, rfl, .inl ⟨_, rfl, rfl⟩⟩ rfl rfl ?_
      refine AOps.pass ⟨12, rfl, .inl ⟨_, rfl, rfl⟩⟩ rfl rfl ?_
      refine AOps.step rfl rfl rfl (AOp.pickT rfl rfl rfl) ?_
      refine AOps.step rfl rfl rfl (AOp.moveD rfl rfl) ?_
      refine AOps.pass ⟨17, rfl, .inl ⟨_, rfl, rfl⟩⟩ rfl rfl ?_
      refine AOps.pass ⟨17, rfl, .inl ⟨_, rfl, rfl⟩⟩ rfl rfl ?_
      refine AOps.pass ⟨17, rfl, .inl ⟨_, rfl, rfl⟩⟩ rfl rfl ?_
      refine AOps.pass ⟨17, rfl, .inl ⟨_, rfl, rfl⟩⟩ rfl rfl ?_
      refine AOps.pass ⟨17, rfl, .inl ⟨_, rfl, rfl⟩⟩ rfl rfl ?_
      refine AOps.pass ⟨17, rfl, .inl ⟨_, rfl, rfl⟩⟩ rfl rfl ?_
      refine AOps.step rfl rfl rfl (AOp.pickT rfl rfl rfl) ?_
      refine AOps.step rfl rfl rfl (AOp.moveD rfl rfl) ?_
      refine AOps.pass ⟨25, rfl, .inl ⟨_, rfl, rfl⟩⟩ rfl rfl ?_
      refine AOps.pass ⟨25, rfl, .inl ⟨_, rfl, rfl⟩⟩ rfl rfl ?_
      refine AOps.step rfl rfl rfl (AOp.pickT rfl rfl rfl) ?_
      refine AOps.nil ?_
      refine AWP.cond rfl (fun _ => ?_) (fun h => nomatch h)
      refine AWP.seq ?_
      refine AWP.region ?_
      refine AOps.step rfl rfl rfl (AOp.assignD rfl rfl) ?_
      refine AOps.nil ?_
      refine AWP.ret ?_
      refine ⟨RetD.eq rfl ?_, trivial⟩
      all_goals (first | rw [HR] | rw [show titleOk s = false from tt_no (fun hh => by rw [all_hit hlt (fun hc => by have := prB_iff.1 hc; omega)] at hh; exact absurd hh.2.2.2.2.2 (by decide))])
    · replace g2 := of_decide_eq_false g2
      have hq : s.size ≤ 100 := by omega
      refine AOps.step ⟨12, rfl, .inl ⟨_, rfl, rfl⟩⟩ rfl rfl (AOp.moveD rfl rfl) ?_
      refine AOps.step ⟨12, rfl, .inl ⟨_, rfl, rfl⟩⟩ rfl rfl (AOp.indexStr rfl st_9 rfl rfl 0 rfl (at0_ba (by omega))) ?_
      refine AOps.step ⟨12, rfl, .inl ⟨_, rfl, rfl⟩⟩ rfl rfl (AOp.eql rfl rfl rfl) ?_
      refine AOps.step rfl rfl rfl (AOp.pickF rfl rfl rfl) ?_
      refine AOps.step rfl rfl rfl (AOp.moveD rfl rfl) ?_
      refine AOps.split 17 rfl (fun g3 => ?_) (fun g3 => ?_)
      · replace g3 := of_decide_eq_true g3
        have HR : titleOk s = false := tt_no (fun hh => hh.2.2.1 (u32' g3))
        refine AOps.pass ⟨17, rfl, .inl ⟨_, rfl, rfl⟩⟩ rfl rfl ?_
        refine AOps.pass ⟨17, rfl, .inl ⟨_, rfl, rfl⟩⟩ rfl rfl ?_
        refine AOps.pass ⟨17, rfl, .inl ⟨_, rfl, rfl⟩⟩ rfl rfl ?_
        refine AOps.pass ⟨17, rfl, .inl ⟨_, rfl, rfl⟩⟩ rfl rfl ?_
        refine AOps.pass ⟨17, rfl, .inl ⟨_, rfl, rfl⟩⟩ rfl rfl ?_
        refine AOps.pass ⟨17, rfl, .inl ⟨_, rfl, rfl⟩⟩ rfl rfl ?_
        refine AOps.step rfl rfl rfl (AOp.pickT rfl rfl rfl) ?_
        refine AOps.step rfl rfl rfl (AOp.moveD rfl rfl) ?_
        refine AOps.pass ⟨25, rfl, .inl ⟨_, rfl, rfl⟩⟩ rfl rfl ?_
        refine AOps.pass ⟨25, rfl, .inl ⟨_, rfl, rfl⟩⟩ rfl rfl ?_
        refine AOps.step rfl rfl rfl (AOp.pickT rfl rfl rfl) ?_
        refine AOps.nil ?_
        refine AWP.cond rfl (fun _ => ?_) (fun h => nomatch h)
        refine AWP.seq ?_
        refine AWP.region ?_
        refine AOps.step rfl rfl rfl (AOp.assignD rfl rfl) ?_
        refine AOps.nil ?_
        refine AWP.ret ?_
        refine ⟨RetD.eq rfl ?_, trivial⟩
        all_goals (first | rw [HR] | rw [show titleOk s = false from tt_no (fun hh => by rw [all_hit hlt (fun hc => by have := prB_iff.1 hc; omega)] at hh; exact absurd hh.2.2.2.2.2 (by decide))])
      · replace g3 := of_decide_eq_false g3
        have hf := u32n g3
        refine AOps.step ⟨17, rfl, .inl ⟨_, rfl, rfl⟩⟩ rfl rfl (AOp.moveD rfl rfl) ?_
        refine AOps.step ⟨17, rfl, .inl ⟨_, rfl, rfl⟩⟩ rfl rfl (AOp.moveD rfl rfl) ?_
        refine AOps.step ⟨17, rfl, .inl ⟨_, rfl, rfl⟩⟩ rfl rfl (AOp.lenStr rfl st_9 rfl) ?_
        refine AOps.step ⟨17, rfl, .inl ⟨_, rfl, rfl⟩⟩ rfl rfl (AOp.sub64 rfl rfl rfl (by omega) (by omega)) ?_
        refine AOps.step ⟨17, rfl, .inl ⟨_, rfl, rfl⟩⟩ rfl rfl (AOp.indexStr rfl st_9 rfl rfl (s.data.toList.length - 1) (by omega) (at0_ba (by omega))) ?_
        refine AOps.step ⟨17, rfl, .inl ⟨_, rfl, rfl⟩⟩ rfl rfl (AOp.eql rfl rfl rfl) ?_
        refine AOps.step rfl rfl rfl (AOp.pickF rfl rfl rfl) ?_
        refine AOps.step rfl rfl rfl (AOp.moveD rfl rfl) ?_
        refine AOps.split 25 rfl (fun g4 => ?_) (fun g4 => ?_)
        · replace g4 := of_decide_eq_true g4
          have HR : titleOk s = false := tt_no (fun hh => hh.2.2.2.1 (u32' g4))
          refine AOps.pass ⟨25, rfl, .inl ⟨_, rfl, rfl⟩⟩ rfl rfl ?_
          refine AOps.pass ⟨25, rfl, .inl ⟨_, rfl, rfl⟩⟩ rfl rfl ?_
          refine AOps.step rfl rfl rfl (AOp.pickT rfl rfl rfl) ?_
          refine AOps.nil ?_
          refine AWP.cond rfl (fun _ => ?_) (fun h => nomatch h)
          refine AWP.seq ?_
          refine AWP.region ?_
          refine AOps.step rfl rfl rfl (AOp.assignD rfl rfl) ?_
          refine AOps.nil ?_
          refine AWP.ret ?_
          refine ⟨RetD.eq rfl ?_, trivial⟩
          all_goals (first | rw [HR] | rw [show titleOk s = false from tt_no (fun hh => by rw [all_hit hlt (fun hc => by have := prB_iff.1 hc; omega)] at hh; exact absurd hh.2.2.2.2.2 (by decide))])
        · replace g4 := of_decide_eq_false g4
          have hl := u32n g4
          refine AOps.step ⟨25, rfl, .inl ⟨_, rfl, rfl⟩⟩ rfl rfl (AOp.moveD rfl rfl) ?_
          -- wants the world
          refine AOps.callT ⟨25, rfl, .inl ⟨_, rfl, rfl⟩⟩ rfl rfl hT maxT_stays rfl (.cons (ArgOk.rfl' rfl) (.cons (ArgOk.rfl' rfl) .nil)) (c_contains2 s hq) ?_
          refine AOps.step rfl rfl rfl (AOp.pickF rfl rfl rfl) ?_
          refine AOps.nil ?_
          refine AWP.cond rfl (fun h5 => ?_) (fun h5 => ?_)
          · skip
            have HR : titleOk s = false := tt_no (fun hh => by rw [hh.2.2.2.2.1] at h5; cases h5)
            refine AWP.seq ?_
            refine AWP.region ?_
            refine AOps.step rfl rfl rfl (AOp.assignD rfl rfl) ?_
            refine AOps.nil ?_
            refine AWP.ret ?_
            refine ⟨RetD.eq rfl ?_, trivial⟩
            all_goals (first | rw [HR] | rw [show titleOk s = false from tt_no (fun hh => by rw [all_hit hlt (fun hc => by have := prB_iff.1 hc; omega)] at hh; exact absurd hh.2.2.2.2.2 (by decide))])
          · skip
            have hcn := h5
            refine AWP.skip ?_
            refine AWP.seq ?_
            refine AWP.seq ?_
            refine AWP.region ?_
            refine AOps.step rfl rfl rfl (AOp.moveD rfl rfl) ?_
            refine AOps.step rfl rfl rfl (AOp.lenStr rfl st_9 rfl) ?_
            refine AOps.step rfl rfl rfl (AOp.moveD rfl rfl) ?_
            refine AOps.nil ?_
            refine AWP.block ?_
            refine AWP.loop (G := Nat) (fun k => Env.of [(31, .d (.v (.int .i64 (k : Int)))), (30, .d (.v (.int .i64 (s.size : Int)))), (0, .d (.v (.string s)))]) (fun k => []) (fun k => k ≤ s.size ∧ ∀ c ∈ s.data.toList.take k, prB c = true) (fun k => s.size - k) 0 ⟨Nat.zero_le _, fun c h => by simp at h⟩ (Sub.less ⟨(SLe.of_eq rfl), SLe.refl _, SLe.refl _, trivial⟩ (fun _ h => h)) ?_
            intro k hk
            refine AWP.seq ?_
            refine AWP.region ?_
            refine AOps.step rfl rfl rfl (AOp.lss rfl rfl rfl) ?_
            refine AOps.nil ?_
            refine AWP.seq ?_
            refine AWP.cond rfl (fun h6 => ?_) (fun h6 => ?_)
            · replace h6 := of_decide_eq_true h6
              have hlt : k < s.data.toList.length := by omega
              refine AWP.skip ?_
              refine AWP.seq ?_
              refine AWP.block ?_
              refine AWP.seq ?_
              refine AWP.region ?_
              refine AOps.step rfl rfl rfl (AOp.moveD rfl rfl) ?_
              refine AOps.step rfl rfl rfl (AOp.assignD rfl rfl) ?_
              refine AOps.nil ?_
              refine AWP.seq ?_
              refine AWP.region ?_
              refine AOps.step rfl rfl rfl (AOp.moveD rfl rfl) ?_
              refine AOps.step rfl rfl rfl (AOp.moveD rfl rfl) ?_
              refine AOps.step rfl rfl rfl (AOp.indexStr rfl st_9 rfl rfl k rfl (at0_ba hlt)) ?_
              refine AOps.step rfl rfl rfl (AOp.lss rfl rfl rfl) ?_
              refine AOps.step rfl rfl rfl (AOp.moveD rfl rfl) ?_
              refine AOps.split 38 rfl (fun g7 => ?_) (fun g7 => ?_)
              · replace g7 := of_decide_eq_true g7
                refine AOps.pass ⟨38, rfl, .inl ⟨_, rfl, rfl⟩⟩ rfl rfl ?_
                refine AOps.pass ⟨38, rfl, .inl ⟨_, rfl, rfl⟩⟩ rfl rfl ?_
                refine AOps.pass ⟨38, rfl, .inl ⟨_, rfl, rfl⟩⟩ rfl rfl ?_
                refine AOps.pass ⟨38, rfl, .inl ⟨_, rfl, rfl⟩⟩ rfl rfl ?_
                refine AOps.step rfl rfl rfl (AOp.pickT rfl rfl rfl) ?_
                refine AOps.nil ?_
                refine AWP.cond rfl (fun _ => ?_) (fun h => nomatch h)
                refine AWP.seq ?_
                refine AWP.region ?_
                refine AOps.step rfl rfl rfl (AOp.assignD rfl rfl) ?_
                refine AOps.nil ?_
                refine AWP.ret ?_
                refine ⟨RetD.eq rfl ?_, trivial⟩
                all_goals (first | rw [HR] | rw [show titleOk s = false from tt_no (fun hh => by rw [all_hit hlt (fun hc => by have := prB_iff.1 hc; omega)] at hh; exact absurd hh.2.2.2.2.2 (by decide))])
              · replace g7 := of_decide_eq_false g7
                refine AOps.step ⟨38, rfl, .inl ⟨_, rfl, rfl⟩⟩ rfl rfl (AOp.moveD rfl rfl) ?_
                refine AOps.step ⟨38, rfl, .inl ⟨_, rfl, rfl⟩⟩ rfl rfl (AOp.moveD rfl rfl) ?_
                refine AOps.step ⟨38, rfl, .inl ⟨_, rfl, rfl⟩⟩ rfl rfl (AOp.indexStr rfl st_9 rfl rfl k rfl (at0_ba hlt)) ?_
                refine AOps.step ⟨38, rfl, .inl ⟨_, rfl, rfl⟩⟩ rfl rfl (AOp.gtr rfl rfl rfl) ?_
                refine AOps.step rfl rfl rfl (AOp.pickF rfl rfl rfl) ?_
                refine AOps.nil ?_
                refine AWP.cond rfl (fun h8 => ?_) (fun h8 => ?_)
                · replace h8 := of_decide_eq_true h8
                  refine AWP.seq ?_
                  refine AWP.region ?_
                  refine AOps.step rfl rfl rfl (AOp.assignD rfl rfl) ?_
                  refine AOps.nil ?_
                  refine AWP.ret ?_
                  refine ⟨RetD.eq rfl ?_, trivial⟩
                  all_goals (first | rw [HR] | rw [show titleOk s = false from tt_no (fun hh => by rw [all_hit hlt (fun hc => by have := prB_iff.1 hc; omega)] at hh; exact absurd hh.2.2.2.2.2 (by decide))])
                · replace h8 := of_decide_eq_false h8
                  refine AWP.skip ?_
                  refine AWP.region ?_
                  refine AOps.step rfl rfl rfl (AOp.add64 rfl rfl rfl (by omega) (by omega)) ?_
                  refine AOps.step rfl rfl rfl (AOp.moveD rfl rfl) ?_
                  refine AOps.nil ?_
                  refine ⟨k + 1, ⟨by omega, all_nx hlt hk.2 (prB_iff.2 (by omega))⟩, (by dsimp only; omega), Sub.less ⟨(SLe.of_eq rfl), SLe.refl _, SLe.refl _, trivial⟩ (fun _ h => h)⟩
            · replace h6 := of_decide_eq_false h6
              have HR : titleOk s = true := tt_yes (by omega) (by omega) hf hl hcn (all_end (by omega) hk.2)
              refine AWP.exit ?_
              refine AWP.seq ?_
              refine AWP.region ?_
              refine AOps.step rfl rfl rfl (AOp.assignD rfl rfl) ?_
              refine AOps.nil ?_
              refine AWP.ret ?_
              refine ⟨RetD.eq rfl ?_, trivial⟩
              all_goals (first | rw [HR] | rw [show titleOk s = false from tt_no (fun hh => by rw [all_hit hlt (fun hc => by have := prB_iff.1 hc; omega)] at hh; exact absurd hh.2.2.2.2.2 (by decide))])

set_option maxRecDepth 100000 in
set_option maxHeartbeats 1000000 in
theorem c_rTitle (s : ByteArray) (hs : s.size ≤ 9223372036854775807) : ACallT Tryd.prog MaxT 54 [.v (.string s)] (.v (.bool (titleOk s))) := by
  refine acall_ofT (n := 44) (ds' := [.v (.bool (titleOk s))]) Tryd.func54 rfl (by kernel_rfl) rfl [2] rfl rfl ?_
  intro B w0 F0 hT
  have hsz := Lib.size_eq s
  refine AWP.seq ?_
  refine AWP.region ?_
  refine AOps.step rfl rfl rfl (AOp.assignD rfl rfl) ?_
  refine AOps.nil ?_
  refine AWP.seq ?_
  refine AWP.seq ?_
  refine AWP.region ?_
  refine AOps.step rfl rfl rfl (AOp.moveD rfl rfl) ?_
  refine AOps.step rfl rfl rfl (AOp.seql rfl rfl rfl) ?_
  refine AOps.step rfl rfl rfl (AOp.moveD rfl rfl) ?_
  refine AOps.split 6 rfl (fun g1 => ?_) (fun g1 => ?_)
  · replace g1 := of_decide_eq_true g1
    have HR : titleOk s = false := tt_no (fun hh => by have := emp_size g1; omega)
    refine AOps.pass ⟨6, rfl, .inl ⟨_, rfl, rfl⟩⟩ rfl rfl ?_
    refine AOps.pass ⟨6, rfl, .inl ⟨_, rfl, rfl⟩⟩ rfl rfl ?_
    refine AOps.pass ⟨6, rfl, .inl ⟨_, rfl, rfl⟩⟩ rfl rfl ?_
    refine AOps.step rfl rfl rfl (AOp.pickT rfl rfl rfl) ?_
    refine AOps.step rfl rfl rfl (AOp.moveD rfl rfl) ?_
    refine AOps.pass ⟨11, rfl, .inl ⟨_, rfl, rfl⟩⟩ rfl rfl ?_
    refine AOps.pass ⟨11, rfl, .inl ⟨_, rfl, rfl⟩⟩ rfl rfl ?_
    refine AOps.pass ⟨11, rfl, .inl ⟨_, rfl, rfl⟩⟩ rfl rfl ?_
    refine AOps.step rfl rfl rfl (AOp.pickT rfl rfl rfl) ?_
    refine AOps.step rfl rfl rfl (AOp.moveD rfl rfl) ?_
    refine AOps.pass ⟨16, rfl, .inl ⟨_, rfl, rfl⟩⟩ rfl rfl ?_
    refine AOps.pass ⟨16, rfl, .inl ⟨_, rfl, rfl⟩⟩ rfl rfl ?_
    refine AOps.pass ⟨16, rfl, .inl ⟨_, rfl, rfl⟩⟩ rfl rfl ?_
    refine AOps.pass ⟨16, rfl, .inl ⟨_, rfl, rfl⟩⟩ rfl rfl ?_
    refine AOps.pass ⟨16, rfl, .inl ⟨_, rfl, rfl⟩⟩ rfl rfl ?_
    refine AOps.pass ⟨16, rfl, .inl ⟨_, rfl, rfl⟩⟩ rfl rfl ?_
    refine AOps.step rfl rfl rfl (AOp.pickT rfl rfl rfl) ?_
    refine AOps.step rfl rfl rfl (AOp.moveD rfl rfl) ?_
    refine AOps.pass ⟨24, rfl, .inl ⟨_, rfl, rfl⟩⟩ rfl rfl ?_
    refine AOps.pass ⟨24, rfl, .inl ⟨_, rfl, rfl⟩⟩ rfl rfl ?_
    refine AOps.step rfl rfl rfl (AOp.pickT rfl rfl rfl) ?_
    refine AOps.nil ?_
    refine AWP.cond rfl (fun _ => ?_) (fun h => nomatch h)
    refine AWP.seq ?_
    refine AWP.region ?_
    refine AOps.step rfl rfl rfl (AOp.assignD rfl rfl) ?_
    refine AOps.nil ?_
    refine AWP.ret ?_
    refine ⟨RetD.eq rfl ?_, trivial⟩
    all_goals (first | rw [HR] | rw [show titleOk s = false from tt_no (fun hh => by rw [all_hit hlt (fun hc => by have := prB_iff.1 hc; omega)] at hh; exact absurd hh.2.2.2.2.2 (by decide))])
  · replace g1 := of_decide_eq_false g1
    have hp : 0 < s.size := nemp_size g1
    refine AOps.step ⟨6, rfl, .inl ⟨_, rfl, rfl⟩⟩ rfl rfl (AOp.moveD rfl rfl) ?_
    refine AOps.step ⟨6, rfl, .inl ⟨_, rfl, rfl⟩⟩ rfl rfl (AOp.lenStr rfl st_9 rfl) ?_
    refine AOps.step ⟨6, rfl, .inl ⟨_, rfl, rfl⟩⟩ rfl rfl (AOp.gtr rfl rfl rfl) ?_
    refine AOps.step rfl rfl rfl (AOp.pickF rfl rfl rfl) ?_
    refine AOps.step rfl rfl rfl (AOp.moveD rfl rfl) ?_
    refine AOps.split 11 rfl (fun g2 => ?_) (fun g2 => ?_)
    · replace g2 := of_decide_eq_true g2
      have HR : titleOk s = false := tt_no (fun hh => by omega)
      refine AOps.pass ⟨11, rfl, .inl ⟨_, rfl, rfl⟩⟩ rfl rfl ?_
      refine AOps.pass ⟨11, rfl, .inl ⟨_, rfl, rfl⟩⟩ rfl rfl ?_
      refine AOps.pass ⟨11, rfl, .inl ⟨_, rfl, rfl⟩⟩ rfl rfl ?_
      refine AOps.step rfl rfl rfl (AOp.pickT rfl rfl rfl) ?_
      refine AOps.step rfl rfl rfl (AOp.moveD rfl rfl) ?_
      refine AOps.pass ⟨16, rfl, .inl ⟨_, rfl, rfl⟩⟩ rfl rfl ?_
      refine AOps.pass ⟨16, rfl, .inl ⟨_, rfl, rfl⟩⟩ rfl rfl ?_
      refine AOps.pass ⟨16, rfl, .inl ⟨_, rfl, rfl⟩⟩ rfl rfl ?_
      refine AOps.pass ⟨16, rfl, .inl ⟨_, rfl, rfl⟩⟩ rfl rfl ?_
      refine AOps.pass ⟨16, rfl, .inl ⟨_, rfl, rfl⟩⟩ rfl rfl ?_
      refine AOps.pass ⟨16, rfl, .inl ⟨_, rfl, rfl⟩⟩ rfl rfl ?_
      refine AOps.step rfl rfl rfl (AOp.pickT rfl rfl rfl) ?_
      refine AOps.step rfl rfl rfl (AOp.moveD rfl rfl) ?_
      refine AOps.pass ⟨24, rfl, .inl ⟨_, rfl, rfl⟩⟩ rfl rfl ?_
      refine AOps.pass ⟨24, rfl, .inl ⟨_, rfl, rfl⟩⟩ rfl rfl ?_
      refine AOps.step rfl rfl rfl (AOp.pickT rfl rfl rfl) ?_
      refine AOps.nil ?_
      refine AWP.cond rfl (fun _ => ?_) (fun h => nomatch h)
      refine AWP.seq ?_
      refine AWP.region ?_
      refine AOps.step rfl rfl rfl (AOp.assignD rfl rfl) ?_
      refine AOps.nil ?_
      refine AWP.ret ?_
      refine ⟨RetD.eq rfl ?_, trivial⟩
      all_goals (first | rw [HR] | rw [show titleOk s = false from tt_no (fun hh => by rw [all_hit hlt (fun hc => by have := prB_iff.1 hc; omega)] at hh; exact absurd hh.2.2.2.2.2 (by decide))])
    · replace g2 := of_decide_eq_false g2
      have hq : s.size ≤ 100 := by omega
      refine AOps.step ⟨11, rfl, .inl ⟨_, rfl, rfl⟩⟩ rfl rfl (AOp.moveD rfl rfl) ?_
      refine AOps.step ⟨11, rfl, .inl ⟨_, rfl, rfl⟩⟩ rfl rfl (AOp.indexStr rfl st_9 rfl rfl 0 rfl (at0_ba (by omega))) ?_
      refine AOps.step ⟨11, rfl, .inl ⟨_, rfl, rfl⟩⟩ rfl rfl (AOp.eql rfl rfl rfl) ?_
      refine AOps.step rfl rfl rfl (AOp.pickF rfl rfl rfl) ?_
      refine AOps.step rfl rfl rfl (AOp.moveD rfl rfl) ?_
      refine AOps.split 16 rfl (fun g3 => ?_) (fun g3 => ?_)
      · replace g3 := of_decide_eq_true g3
        have HR : titleOk s = false := tt_no (fun hh => hh.2.2.1 (u32' g3))
        refine AOps.pass ⟨16, rfl, .inl ⟨_, rfl, rfl⟩⟩ rfl rfl ?_
        refine AOps.pass ⟨16, rfl, .inl ⟨_, rfl, rfl⟩⟩ rfl rfl ?_
        refine AOps.pass ⟨16, rfl, .inl ⟨_, rfl, rfl⟩⟩ rfl rfl ?_
        refine AOps.pass ⟨16, rfl, .inl ⟨_, rfl, rfl⟩⟩ rfl rfl ?_
        refine AOps.pass ⟨16, rfl, .inl ⟨_, rfl, rfl⟩⟩ rfl rfl ?_
        refine AOps.pass ⟨16, rfl, .inl ⟨_, rfl, rfl⟩⟩ rfl rfl ?_
        refine AOps.step rfl rfl rfl (AOp.pickT rfl rfl rfl) ?_
        refine AOps.step rfl rfl rfl (AOp.moveD rfl rfl) ?_
        refine AOps.pass ⟨24, rfl, .inl ⟨_, rfl, rfl⟩⟩ rfl rfl ?_
        refine AOps.pass ⟨24, rfl, .inl ⟨_, rfl, rfl⟩⟩ rfl rfl ?_
        refine AOps.step rfl rfl rfl (AOp.pickT rfl rfl rfl) ?_
        refine AOps.nil ?_
        refine AWP.cond rfl (fun _ => ?_) (fun h => nomatch h)
        refine AWP.seq ?_
        refine AWP.region ?_
        refine AOps.step rfl rfl rfl (AOp.assignD rfl rfl) ?_
        refine AOps.nil ?_
        refine AWP.ret ?_
        refine ⟨RetD.eq rfl ?_, trivial⟩
        all_goals (first | rw [HR] | rw [show titleOk s = false from tt_no (fun hh => by rw [all_hit hlt (fun hc => by have := prB_iff.1 hc; omega)] at hh; exact absurd hh.2.2.2.2.2 (by decide))])
      · replace g3 := of_decide_eq_false g3
        have hf := u32n g3
        refine AOps.step ⟨16, rfl, .inl ⟨_, rfl, rfl⟩⟩ rfl rfl (AOp.moveD rfl rfl) ?_
        refine AOps.step ⟨16, rfl, .inl ⟨_, rfl, rfl⟩⟩ rfl rfl (AOp.moveD rfl rfl) ?_
        refine AOps.step ⟨16, rfl, .inl ⟨_, rfl, rfl⟩⟩ rfl rfl (AOp.lenStr rfl st_9 rfl) ?_
        refine AOps.step ⟨16, rfl, .inl ⟨_, rfl, rfl⟩⟩ rfl rfl (AOp.sub64 rfl rfl rfl (by omega) (by omega)) ?_
        refine AOps.step ⟨16, rfl, .inl ⟨_, rfl, rfl⟩⟩ rfl rfl (AOp.indexStr rfl st_9 rfl rfl (s.data.toList.length - 1) (by omega) (at0_ba (by omega))) ?_
        refine AOps.step ⟨16, rfl, .inl ⟨_, rfl, rfl⟩⟩ rfl rfl (AOp.eql rfl rfl rfl) ?_
        refine AOps.step rfl rfl rfl (AOp.pickF rfl rfl rfl) ?_
        refine AOps.step rfl rfl rfl (AOp.moveD rfl rfl) ?_
        refine AOps.split 24 rfl (fun g4 => ?_) (fun g4 => ?_)
        · replace g4 := of_decide_eq_true g4
          have HR : titleOk s = false := tt_no (fun hh => hh.2.2.2.1 (u32' g4))
          refine AOps.pass ⟨24, rfl, .inl ⟨_, rfl, rfl⟩⟩ rfl rfl ?_
          refine AOps.pass ⟨24, rfl, .inl ⟨_, rfl, rfl⟩⟩ rfl rfl ?_
          refine AOps.step rfl rfl rfl (AOp.pickT rfl rfl rfl) ?_
          refine AOps.nil ?_
          refine AWP.cond rfl (fun _ => ?_) (fun h => nomatch h)
          refine AWP.seq ?_
          refine AWP.region ?_
          refine AOps.step rfl rfl rfl (AOp.assignD rfl rfl) ?_
          refine AOps.nil ?_
          refine AWP.ret ?_
          refine ⟨RetD.eq rfl ?_, trivial⟩
          all_goals (first | rw [HR] | rw [show titleOk s = false from tt_no (fun hh => by rw [all_hit hlt (fun hc => by have := prB_iff.1 hc; omega)] at hh; exact absurd hh.2.2.2.2.2 (by decide))])
        · replace g4 := of_decide_eq_false g4
          have hl := u32n g4
          refine AOps.step ⟨24, rfl, .inl ⟨_, rfl, rfl⟩⟩ rfl rfl (AOp.moveD rfl rfl) ?_
          -- wants the world
          refine AOps.callT ⟨24, rfl, .inl ⟨_, rfl, rfl⟩⟩ rfl rfl hT maxT_stays rfl (.cons (ArgOk.rfl' rfl) (.cons (ArgOk.rfl' rfl) .nil)) (c_contains2 s hq) ?_
          refine AOps.step rfl rfl rfl (AOp.pickF rfl rfl rfl) ?_
          refine AOps.nil ?_
          refine AWP.cond rfl (fun h5 => ?_) (fun h5 => ?_)
          · skip
            have HR : titleOk s = false := tt_no (fun hh => by rw [hh.2.2.2.2.1] at h5; cases h5)
            refine AWP.seq ?_
            refine AWP.region ?_
            refine AOps.step rfl rfl rfl (AOp.assignD rfl rfl) ?_
            refine AOps.nil ?_
            refine AWP.ret ?_
            refine ⟨RetD.eq rfl ?_, trivial⟩
            all_goals (first | rw [HR] | rw [show titleOk s = false from tt_no (fun hh => by rw [all_hit hlt (fun hc => by have := prB_iff.1 hc; omega)] at hh; exact absurd hh.2.2.2.2.2 (by decide))])
          · skip
            have hcn := h5
            refine AWP.skip ?_
            refine AWP.seq ?_
            refine AWP.seq ?_
            refine AWP.region ?_
            refine AOps.step rfl rfl rfl (AOp.moveD rfl rfl) ?_
            refine AOps.step rfl rfl rfl (AOp.lenStr rfl st_9 rfl) ?_
            refine AOps.step rfl rfl rfl (AOp.moveD rfl rfl) ?_
            refine AOps.nil ?_
            refine AWP.block ?_
            refine AWP.loop (G := Nat) (fun k => Env.of [(30, .d (.v (.int .i64 (k : Int)))), (29, .d (.v (.int .i64 (s.size : Int)))), (0, .d (.v (.string s)))]) (fun k => []) (fun k => k ≤ s.size ∧ ∀ c ∈ s.data.toList.take k, prB c = true) (fun k => s.size - k) 0 ⟨Nat.zero_le _, fun c h => by simp at h⟩ (Sub.less ⟨(SLe.of_eq rfl), SLe.refl _, SLe.refl _, trivial⟩ (fun _ h => h)) ?_
            intro k hk
            refine AWP.seq ?_
            refine AWP.region ?_
            refine AOps.step rfl rfl rfl (AOp.lss rfl rfl rfl) ?_
            refine AOps.nil ?_
            refine AWP.seq ?_
            refine AWP.cond rfl (fun h6 => ?_) (fun h6 => ?_)
            · replace h6 := of_decide_eq_true h6
              have hlt : k < s.data.toList.length := by omega
              refine AWP.skip ?_
              refine AWP.seq ?_
              refine AWP.block ?_
              refine AWP.seq ?_
              refine AWP.region ?_
              refine AOps.step rfl rfl rfl (AOp.moveD rfl rfl) ?_
              refine AOps.step rfl rfl rfl (AOp.assignD rfl rfl) ?_
              refine AOps.nil ?_
              refine AWP.seq ?_
              refine AWP.region ?_
              refine AOps.step rfl rfl rfl (AOp.moveD rfl rfl) ?_
              refine AOps.step rfl rfl rfl (AOp.moveD rfl rfl) ?_
              refine AOps.step rfl rfl rfl (AOp.indexStr rfl st_9 rfl rfl k rfl (at0_ba hlt)) ?_
              refine AOps.step rfl rfl rfl (AOp.lss rfl rfl rfl) ?_
              refine AOps.step rfl rfl rfl (AOp.moveD rfl rfl) ?_
              refine AOps.split 37 rfl (fun g7 => ?_) (fun g7 => ?_)
              · replace g7 := of_decide_eq_true g7
                refine AOps.pass ⟨37, rfl, .inl ⟨_, rfl, rfl⟩⟩ rfl rfl ?_
                refine AOps.pass ⟨37, rfl, .inl ⟨_, rfl, rfl⟩⟩ rfl rfl ?_
                refine AOps.pass ⟨37, rfl, .inl ⟨_, rfl, rfl⟩⟩ rfl rfl ?_
                refine AOps.pass ⟨37, rfl, .inl ⟨_, rfl, rfl⟩⟩ rfl rfl ?_
                refine AOps.step rfl rfl rfl (AOp.pickT rfl rfl rfl) ?_
                refine AOps.nil ?_
                refine AWP.cond rfl (fun _ => ?_) (fun h => nomatch h)
                refine AWP.seq ?_
                refine AWP.region ?_
                refine AOps.step rfl rfl rfl (AOp.assignD rfl rfl) ?_
                refine AOps.nil ?_
                refine AWP.ret ?_
                refine ⟨RetD.eq rfl ?_, trivial⟩
                all_goals (first | rw [HR] | rw [show titleOk s = false from tt_no (fun hh => by rw [all_hit hlt (fun hc => by have := prB_iff.1 hc; omega)] at hh; exact absurd hh.2.2.2.2.2 (by decide))])
              · replace g7 := of_decide_eq_false g7
                refine AOps.step ⟨37, rfl, .inl ⟨_, rfl, rfl⟩⟩ rfl rfl (AOp.moveD rfl rfl) ?_
                refine AOps.step ⟨37, rfl, .inl ⟨_, rfl, rfl⟩⟩ rfl rfl (AOp.moveD rfl rfl) ?_
                refine AOps.step ⟨37, rfl, .inl ⟨_, rfl, rfl⟩⟩ rfl rfl (AOp.indexStr rfl st_9 rfl rfl k rfl (at0_ba hlt)) ?_
                refine AOps.step ⟨37, rfl, .inl ⟨_, rfl, rfl⟩⟩ rfl rfl (AOp.gtr rfl rfl rfl) ?_
                refine AOps.step rfl rfl rfl (AOp.pickF rfl rfl rfl) ?_
                refine AOps.nil ?_
                refine AWP.cond rfl (fun h8 => ?_) (fun h8 => ?_)
                · replace h8 := of_decide_eq_true h8
                  refine AWP.seq ?_
                  refine AWP.region ?_
                  refine AOps.step rfl rfl rfl (AOp.assignD rfl rfl) ?_
                  refine AOps.nil ?_
                  refine AWP.ret ?_
                  refine ⟨RetD.eq rfl ?_, trivial⟩
                  all_goals (first | rw [HR] | rw [show titleOk s = false from tt_no (fun hh => by rw [all_hit hlt (fun hc => by have := prB_iff.1 hc; omega)] at hh; exact absurd hh.2.2.2.2.2 (by decide))])
                · replace h8 := of_decide_eq_false h8
                  refine AWP.skip ?_
                  refine AWP.region ?_
                  refine AOps.step rfl rfl rfl (AOp.add64 rfl rfl rfl (by omega) (by omega)) ?_
                  refine AOps.step rfl rfl rfl (AOp.moveD rfl rfl) ?_
                  refine AOps.nil ?_
                  refine ⟨k + 1, ⟨by omega, all_nx hlt hk.2 (prB_iff.2 (by omega))⟩, (by dsimp only; omega), Sub.less ⟨(SLe.of_eq rfl), SLe.refl _, SLe.refl _, trivial⟩ (fun _ h => h)⟩
            · replace h6 := of_decide_eq_false h6
              have HR : titleOk s = true := tt_yes (by omega) (by omega) hf hl hcn (all_end (by omega) hk.2)
              refine AWP.exit ?_
              refine AWP.seq ?_
              refine AWP.region ?_
              refine AOps.step rfl rfl rfl (AOp.assignD rfl rfl) ?_
              refine AOps.nil ?_
              refine AWP.ret ?_
              refine ⟨RetD.eq rfl ?_, trivial⟩
              all_goals (first | rw [HR] | rw [show titleOk s = false from tt_no (fun hh => by rw [all_hit hlt (fun hc => by have := prB_iff.1 hc; omega)] at hh; exact absurd hh.2.2.2.2.2 (by decide))])

set_option maxRecDepth 100000 in
set_option maxHeartbeats 1000000 in
theorem c_pIn (n a b : Int) : ACall Tryd.prog 32 [.v (.int .i64 n), .v (.int .i64 a), .v (.int .i64 b)] (.v (.bool (decide (a ≤ n ∧ n ≤ b)))) := by
  refine acall_of (n := 15) (ds' := [.v (.bool (decide (a ≤ n ∧ n ≤ b)))]) Tryd.func32 rfl (by kernel_rfl) rfl [6] rfl rfl ?_
  intro B w0 F0 fr
  refine AWP.seq ?_
  refine AWP.region ?_
  refine AOps.step rfl rfl rfl (AOp.assignD rfl rfl) ?_
  refine AOps.nil ?_
  refine AWP.seq ?_
  refine AWP.region ?_
  refine AOps.step rfl rfl rfl (AOp.moveD rfl rfl) ?_
  refine AOps.step rfl rfl rfl (AOp.moveD rfl rfl) ?_
  refine AOps.step rfl rfl rfl (AOp.geq rfl rfl rfl) ?_
  refine AOps.step rfl rfl rfl (AOp.moveD rfl rfl) ?_
  refine AOps.split 10 rfl (fun g1 => ?_) (fun g1 => ?_)
  · replace g1 := of_decide_eq_true g1
    refine AOps.step ⟨10, rfl, .inl ⟨_, rfl, rfl⟩⟩ rfl rfl (AOp.moveD rfl rfl) ?_
    refine AOps.step ⟨10, rfl, .inl ⟨_, rfl, rfl⟩⟩ rfl rfl (AOp.moveD rfl rfl) ?_
    refine AOps.step ⟨10, rfl, .inl ⟨_, rfl, rfl⟩⟩ rfl rfl (AOp.leq rfl rfl rfl) ?_
    refine AOps.step rfl rfl rfl (AOp.pickT rfl rfl rfl) ?_
    refine AOps.step rfl rfl rfl (AOp.assignD rfl rfl) ?_
    refine AOps.nil ?_
    refine AWP.ret ?_
    refine ⟨RetD.eq rfl ?_, trivial⟩
    all_goals (simp; omega)
  · replace g1 := of_decide_eq_false g1
    refine AOps.pass ⟨10, rfl, .inl ⟨_, rfl, rfl⟩⟩ rfl rfl ?_
    refine AOps.pass ⟨10, rfl, .inl ⟨_, rfl, rfl⟩⟩ rfl rfl ?_
    refine AOps.pass ⟨10, rfl, .inl ⟨_, rfl, rfl⟩⟩ rfl rfl ?_
    refine AOps.step rfl rfl rfl (AOp.pickF rfl rfl rfl) ?_
    refine AOps.step rfl rfl rfl (AOp.assignD rfl rfl) ?_
    refine AOps.nil ?_
    refine AWP.ret ?_
    refine ⟨RetD.eq rfl ?_, trivial⟩
    all_goals (simp; omega)

set_option maxRecDepth 100000 in
set_option maxHeartbeats 1000000 in
theorem c_rIn (n a b : Int) : ACall Tryd.prog 36 [.v (.int .i64 n), .v (.int .i64 a), .v (.int .i64 b)] (.v (.bool (decide (a ≤ n ∧ n ≤ b)))) := by
  refine acall_of (n := 15) (ds' := [.v (.bool (decide (a ≤ n ∧ n ≤ b)))]) Tryd.func36 rfl (by kernel_rfl) rfl [6] rfl rfl ?_
  intro B w0 F0 fr
  refine AWP.seq ?_
  refine AWP.region ?_
  refine AOps.step rfl rfl rfl (AOp.assignD rfl rfl) ?_
  refine AOps.nil ?_
  refine AWP.seq ?_
  refine AWP.region ?_
  refine AOps.step rfl rfl rfl (AOp.moveD rfl rfl) ?_
  refine AOps.step rfl rfl rfl (AOp.moveD rfl rfl) ?_
  refine AOps.step rfl rfl rfl (AOp.leq rfl rfl rfl) ?_
  refine AOps.step rfl rfl rfl (AOp.moveD rfl rfl) ?_
  refine AOps.split 10 rfl (fun g1 => ?_) (fun g1 => ?_)
  · replace g1 := of_decide_eq_true g1
    refine AOps.step ⟨10, rfl, .inl ⟨_, rfl, rfl⟩⟩ rfl rfl (AOp.moveD rfl rfl) ?_
    refine AOps.step ⟨10, rfl, .inl ⟨_, rfl, rfl⟩⟩ rfl rfl (AOp.moveD rfl rfl) ?_
    refine AOps.step ⟨10, rfl, .inl ⟨_, rfl, rfl⟩⟩ rfl rfl (AOp.leq rfl rfl rfl) ?_
    refine AOps.step rfl rfl rfl (AOp.pickT rfl rfl rfl) ?_
    refine AOps.step rfl rfl rfl (AOp.assignD rfl rfl) ?_
    refine AOps.nil ?_
    refine AWP.ret ?_
    refine ⟨RetD.eq rfl ?_, trivial⟩
    all_goals (simp; omega)
  · replace g1 := of_decide_eq_false g1
    refine AOps.pass ⟨10, rfl, .inl ⟨_, rfl, rfl⟩⟩ rfl rfl ?_
    refine AOps.pass ⟨10, rfl, .inl ⟨_, rfl, rfl⟩⟩ rfl rfl ?_
    refine AOps.pass ⟨10, rfl, .inl ⟨_, rfl, rfl⟩⟩ rfl rfl ?_
    refine AOps.step rfl rfl rfl (AOp.pickF rfl rfl rfl) ?_
    refine AOps.step rfl rfl rfl (AOp.assignD rfl rfl) ?_
    refine AOps.nil ?_
    refine AWP.ret ?_
    refine ⟨RetD.eq rfl ?_, trivial⟩
    all_goals (simp; omega)

end Go.Proofs.YtfajemnegkfigaaDoor


namespace Go.Proofs.YtfajemnegkfigaaDoor
open Go.RowKit
set_option linter.unusedVariables false

/-- A new own object that is told by a value. -/
theorem R0.newOb {cx : Cx} {F : Nat → Prop} {ρ : Nat → Value} {e : Env} {σ : Obs} {a : Act} {w w' : World} (hr : R0 cx F ρ e σ a w) {id dst : Nat} {ob : Ob} {v : Value} (hid : ∀ p ∈ σ, p.1 ≠ id) (hd : dst < cx.N) (hbel : Below w.heap.size w w')
    (hob : ObOk cx.B F (fun j => if j = id then v else ρ j) w' id ob) (hnew : ∀ g, blk v = some g → w.heap.size ≤ g) (hfx : cx.free id = true) :
    ∃ ρ', R0 cx F ρ' ((e.kill id).put (some dst) (.own id)) ((id, ob) :: Obs.kill id σ) (a.put (some dst) v) w' := by
  refine ⟨fun j => if j = id then v else ρ j, ?_⟩
  have hE : Ext F w F w' := Ext.of_below hr.lt hbel
  have h2 := hr.turn (ρ' := fun j => if j = id then v else ρ j) (id := id) (ob := ob) (row := none) (w' := w') (F' := F) (fun j hj => by simp [hj])
    ⟨hE.below.os, hE.below.tape, hE.below.output, hE.below.size, fun k hk _ => hE.below.block k hk⟩ hfx (fun g hg => by simp at hg) (fun b hb => hb) (fun b hb => .inl hb) hE.lt hob
    (fun g hg => by rw [if_pos rfl] at hg; exact .inr (hnew g hg)) ((id, ob) :: Obs.kill id σ) (fun p hp => by
      cases hp with
      | head => exact .inl rfl
      | tail _ hp => obtain ⟨q, hq, rfl⟩ := Obs.mem_kill hp; exact .inr ⟨q, hq, hid q hq, rfl⟩)
  exact h2.put (o := ⟨some dst, .ready 0, 0, "", #[], none⟩) (v := v) (s := .own id) (Ext.refl h2.lt) (by
      have := RepS.own (F := F) (ρ := fun j => if j = id then v else ρ j) (w := w') id
      simpa using this) (by simpa [DstOk, Nat.blt_eq] using hd)

/-- The type of bytes. -/
structure U8T (P : Program) (t : TypeId) : Prop where
  hu : P.underlying t = some (.int .u8)
def at0' (l : List UInt8) (i : Nat) : UInt8 := l.getD i 0
section
variable {cx : Cx} {ops : Array Oper} {o : Oper} {rest : List Oper} {e : Env} {σ : Obs} {Q : Post}
/-- []byte(s). -/
theorem AOps.bytesOf {s t el dst : Nat} {x : Operand} {b : ByteArray} (id : Nat) (hg : o.guard = none) (ht : o.dst = some dst) (hdn : Nat.blt dst cx.N = true) (ho : o.op = .convert s t x) (hs : cx.P.underlying s = some .string) (hd : cx.P.underlying t = some (.slice el)) (he : cx.P.underlying el = some (.int .u8))
    (hx : e.ev x = .d (.v (.string b))) (hlen : b.size ≤ 281474976710656) (hid : Obs.fresh id σ = true)
    (k : AOps cx ops rest ((e.kill id).put (some dst) (.own id)) ((id, .bts b.data.toList) :: Obs.kill id σ) Q) (hfx : cx.free id = true := by rfl) : AOps cx ops (o :: rest) e σ Q := by
  intro a w ⟨F, ρ, hr⟩
  have hdn' : dst < cx.N := by simpa [Nat.blt_eq] using hdn
  have r1 := ev_rep (e := e) (x := x) (a := a) (fun t _ => hr.env t)
  rw [hx] at r1
  have hrun := Lib.run_convert_string_bytes w s t el b hs hd he
  have hsz : b.data.toList.length = b.size := (Lib.size_eq b).symm
  have hbel : Below w.heap.size w (Lib.bytesWorld w el b) := ⟨rfl, rfl, rfl, by rw [Lib.bytesWorld_size]; omega, fun j hj => Lib.bytesWorld_at_old w el b j hj⟩
  have hC : BtsC b.data.toList (grownCap w b.size 0 el) (Lib.bytesCells w el b) ((Lib.bytesCells w el b).size, (Lib.bytesCells w el b).size + 1) := by
    refine ⟨?_, by rw [hsz]; exact grownCap_ge _ _ _ _, grownCap_le_maxLen _ _ _ _ (by unfold maxLen; omega), fun j hj => ?_⟩
    · show _ ≤ (Lib.bytesCells w el b).size
      unfold Lib.bytesCells
      rw [Array.size_append, Array.size_map, hsz]
      exact Nat.le_add_right _ _
    · unfold Lib.bytesCells
      rw [Array.getElem?_append_left (by rw [Array.size_map]; simpa using hj)]
      have hj' : j < b.data.size := by simpa using hj
      rw [Array.getElem?_map, Array.getElem?_eq_getElem hj']
      simp
  obtain ⟨ρ', h5⟩ := hr.newOb (ob := .bts b.data.toList) (v := .slice (some ⟨w.heap.size, 0, none⟩) b.size (grownCap w b.size 0 el)) (Obs.fresh_spec hid) hdn' hbel
    ⟨w.heap.size, el, _, _, _, by dsimp only; rw [if_pos rfl, hsz], hr.hB, fun hf => (by have := hr.lt _ hf; omega), Lib.bytesWorld_at_new w el b, hC⟩ (fun g hg => by simp [blk] at hg; omega) hfx
  refine wpList_plain hg fun K hK => ?_
  unfold Oper.wp execOp
  simp only [ho, repS_v r1, Sem.run_bind, hrun, Result.andThen_ok, Sem.run_pure]
  have := k _ _ ⟨F, ρ', h5⟩
  rw [← ht] at this
  exact hK _ _ this

/-- b[k] = c. -/
theorem EOp.storeBts {t id k : Nat} {x y : Operand} {l : List UInt8} {c : UInt8} (ht : o.dst = none) (ho : o.op = .store t x y) (hs : ∀ w, (sizeOf t).run cx.P w = .ok 1 w) (hx : e.ev x = .ptr id k) (hm : (id, Ob.bts l) ∈ σ)
    (hy : e.ev y = .d (.v (.int .u8 (c.toNat : Int)))) (hk : k < l.length) : EOp cx ops o e σ (Obs.upd id (.bts (l.set k c)) σ) := by
  intro F ρ a w e0 hr ha
  have hop : ∀ y ∈ o.op.operands.toList, RepS F ρ w (a.eval y) (e.ev y) := fun y hy => ev_rep fun t ht => ha t (looks_op (by rw [← ht]; exact hy))
  have r1 := hop x (by rw [ho]; simp [Op.operands])
  have r2 := hop y (by rw [ho]; simp [Op.operands])
  rw [hx] at r1
  rw [hy] at r2
  obtain ⟨g, ee, cap, cur, fz, hv, hB, hnF, hh, hC⟩ := hr.obs.ok _ hm
  dsimp only at hv
  have hblk : blk (ρ id) = some g := by rw [hv]; rfl
  have hxv := ptr_at r1 hblk
  have hyv := repS_v r2
  have hcell : w.cell? ⟨g, k, none⟩ = some (.int .u8 (l[k].toNat : Int)) := by rw [cell_of_row w g k cur ee fz hh]; exact hC.hcur k hk
  have hfr : w.frozen? ⟨g, k, none⟩ = false := by
    unfold World.frozen?
    rw [hh]
    have := hC.hfz
    simp
    omega
  have hst : (storeVar t ⟨g, k, none⟩ (.int .u8 (c.toNat : Int))).run cx.P w = .ok () (w.setCell ⟨g, k, none⟩ (.int .u8 (c.toNat : Int))) := by
    have hcs : (Value.int .u8 (c.toNat : Int)).cells = #[.int .u8 (c.toNat : Int)] := rfl
    unfold storeVar
    simp only [Sem.run_bind, hs w, Result.andThen_ok, hcs, List.size_toArray, List.length_cons, List.length_nil, Nat.zero_add, ne_eq, not_true_eq_false, if_false]
    simp only [storeCells, Sem.run_bind, addr_add, Nat.add_zero, run_store cx.P w _ _ _ (show (Value.int .u8 (c.toNat : Int)).oneCell' = true from rfl), hcell, hfr, Bool.false_eq_true, if_false, Result.andThen_ok]
    rfl
  have hturn := setCell_turn w g k (.int .u8 (c.toNat : Int))
  unfold Oper.wp execOp
  simp only [ho, Instr.storeAt, hxv, hyv, Instr.sureAddr, Sem.run_bind, Sem.run_pure, Result.andThen_ok, hst]
  refine ⟨by rw [ht]; rfl, fun e2 hr2 => ⟨F, ρ, ?_⟩⟩
  refine hr2.writeOb hblk hm hB hnF hturn ⟨g, ee, cap, cur.setIfInBounds k (.int .u8 (c.toNat : Int)), fz, by rw [List.length_set]; exact hv, hB, hnF, ?_, ⟨by rw [List.length_set]; exact hC.hfz, by rw [List.length_set]; exact hC.hcap, hC.hmax, fun j hj => ?_⟩⟩
  · unfold World.setCell
    simp [Array.getElem?_modify, hh]
  · rw [List.length_set] at hj
    rw [Array.getElem?_setIfInBounds]
    have hks : k < cur.size := (Array.getElem?_eq_some_iff.1 (hC.hcur k hk)).1
    by_cases h : k = j
    · subst h
      rw [if_pos rfl, if_pos hks]
      simp
    · rw [if_neg h, hC.hcur j hj]
      simp [h]
theorem AOps.storeBts {t id k : Nat} {x y : Operand} {l : List UInt8} {c : UInt8} (hg : o.guard = none) (ht : o.dst = none) (ho : o.op = .store t x y) (hs : ∀ w, (sizeOf t).run cx.P w = .ok 1 w) (hx : e.ev x = .ptr id k) (hm : (id, Ob.bts l) ∈ σ)
    (hy : e.ev y = .d (.v (.int .u8 (c.toNat : Int)))) (hk : k < l.length) (q : AOps cx ops rest e (Obs.upd id (.bts (l.set k c)) σ) Q) : AOps cx ops (o :: rest) e σ Q :=
  .eff hg ht (.storeBts ht ho hs hx hm hy hk) q

/-- The row is data from here on. -/
theorem R0.freezeBts {F : Nat → Prop} {ρ : Nat → Value} {a : Act} {w : World} (h : R0 cx F ρ e σ a w) {t id : Nat} {l : List UInt8} (ht : e t = .own id) (hm : (id, Ob.bts l) ∈ σ) :
    ∃ F', R0 cx F' ρ (e.put (some t) (.d (.sl (l.map u8D)))) (Obs.del id σ) a w := by
  have hF2 : ∀ b, (F b ∨ blk (ρ id) = some b) → b < w.heap.size := fun b hb => by
    rcases hb with hb | hb
    · exact h.lt b hb
    · exact ((h.obs.ok _ hm).blk_lt hb).2
  refine ⟨fun b => F b ∨ blk (ρ id) = some b, h.size, h.defers, hF2, fun b hb => .inl (h.base b hb), fun b hb => ?_, h.below, h.hB, fun u => ?_, ?_, h.up, fun p hp => h.kown p (Obs.mem_del hp).1, h.fixed⟩
  · rcases hb with hb | hb
    · exact h.new b hb
    · exact .inr (h.kown _ hm b hb)
  · by_cases hu : u = t
    · subst hu
      rw [Env.put_same]
      have h1 := h.env u
      rw [ht] at h1
      generalize a.tmps.getD u undef = x at h1
      cases h1
      obtain ⟨g, ee, cap, cur, fz, hv, hB, hnF, hh, hC⟩ := h.obs.ok _ hm
      dsimp only at hv
      have hl : (l.map u8D).length = l.length := List.length_map ..
      have hr : Rep (fun b => F b ∨ blk (ρ id) = some b) w (.slice (some ⟨g, 0, none⟩) (l.map u8D).length cap) (.sl (l.map u8D)) := by
        refine .sl ⟨g, 0, none⟩ cap 1 (l.map u8D) (fun i _ => .int .u8 ((at0' l i).toNat : Int)) (by rw [hl]; exact hC.hcap) hC.hmax (fun _ => .inr (by rw [hv]; rfl)) (fun i hi => by simp [u8D]) (fun i j hi hj => ?_) (fun _ _ _ _ => rfl) (fun i hi j hj => ?_)
        · rw [hl] at hi
          obtain rfl : j = 0 := by omega
          rw [addr_add, Nat.mul_one, Nat.add_zero, Nat.zero_add, cell_of_row w g i cur ee fz hh, hC.hcur i hi]
          simp [at0', List.getD_eq_getElem?_getD, List.getElem?_eq_getElem hi]
        · rw [hl] at hi
          simp only [List.getElem_map] at hj ⊢
          unfold u8D at hj ⊢
          obtain rfl : j = 0 := by simpa using hj
          simp only [List.getElem_cons_zero]
          rw [show at0' l i = l[i] by simp [at0', List.getD_eq_getElem?_getD, List.getElem?_eq_getElem hi]]
          exact .v _
      rw [hl, ← hv] at hr
      exact .d hr
    · rw [Env.put_other _ _ _ _ hu]
      exact RepS.turn (row := none) (h.env u) h.lt (fun g hg => by simp at hg) ⟨rfl, rfl, rfl, Nat.le_refl _, fun _ _ _ => rfl⟩ (fun b hb => .inl hb)
  · refine ⟨fun p hp => ?_, fun p hp q hq => h.obs.apart p (Obs.mem_del hp).1 q (Obs.mem_del hq).1, fun p hp q hq => h.obs.uniq p (Obs.mem_del hp).1 q (Obs.mem_del hq).1⟩
    obtain ⟨h1, h2⟩ := Obs.mem_del hp
    have h3 := h.obs.ok p h1
    have hne : ∀ g, blk (ρ p.1) = some g → blk (ρ id) ≠ some g := fun g hg => h.obs.apart p h1 _ hm h2 g hg
    exact h3.more h.lt (fun b hb => .inl hb) (fun g hg hf => by
      rcases hf with hf | hf
      · exact h3.nF hg hf
      · exact hne g hg hf)
theorem AOps.freezeBts (t : Nat) {id : Nat} {l : List UInt8} (ht : e t = .own id) (hm : (id, Ob.bts l) ∈ σ) (k : AOps cx ops rest (e.put (some t) (.d (.sl (l.map u8D)))) (Obs.del id σ) Q) : AOps cx ops rest e σ Q :=
  fun a w ⟨_, ρ, hr⟩ => by
    obtain ⟨F', h⟩ := hr.freezeBts ht hm
    exact k a w ⟨F', ρ, h⟩
theorem AWP.freezeBts {c : Code} (t : Nat) {id : Nat} {l : List UInt8} (ht : e t = .own id) (hm : (id, Ob.bts l) ∈ σ) (k : AWP cx c (e.put (some t) (.d (.sl (l.map u8D)))) (Obs.del id σ) Q) : AWP cx c e σ Q :=
  fun a w ⟨_, ρ, hr⟩ => by
    obtain ⟨F', h⟩ := hr.freezeBts ht hm
    exact k a w ⟨F', ρ, h⟩
end

section
variable {P : Program} {B : Nat} {ops : Array Oper} {o : Oper} {e : Env} {σ : Obs}
/-- The address of a byte of such a row. -/
theorem AOp.indexBts {t el : TypeId} {x ix : Operand} {bytes id : Nat} {z : Value} {n : Int} {l : List UInt8} (ho : o.op = .indexAddr t x ix) (T : ElemTy P t el 1 bytes z) (hx : e.ev x = .own id) (hi : e.ev ix = .d (.v (.int .i64 n)))
    (hm : (id, Ob.bts l) ∈ σ) (k : Nat) (hk : n = k) (hlt : k < l.length) : AOp P B ops o e σ (.ptr id k) :=
  .value fun F ρ w a hF hr hσ => by
  have h1 := hr x (by rw [ho]; simp [Op.operands])
  have h2 := hr ix (by rw [ho]; simp [Op.operands])
  rw [hx] at h1
  rw [hi] at h2
  have hv2 := repS_v h2
  obtain ⟨g, ee, cap, cur, fz, h7, _⟩ := hσ.ok _ hm
  dsimp only at h7
  have hv : a.eval x = ρ id := by generalize a.eval x = v at h1; cases h1; rfl
  refine ⟨.pointer (some ⟨g, k, none⟩), F, w, ?_, .ptr id _ g (by rw [h7]; rfl), Ext.refl hF⟩
  unfold execOp
  simp only [ho, hv, h7, hv2, hk]
  simp [Instr.indexAt, run_underlying T.ht, asIntOf, hlt, T.sizeOf, addr_add]
/-- b[k]. -/
theorem AOp.loadBts {t : TypeId} {x : Operand} {id k : Nat} {l : List UInt8} {c : UInt8} (ho : o.op = .load t x) (hT : Scal P t) (hx : e.ev x = .ptr id k) (hm : (id, Ob.bts l) ∈ σ) (hc : l[k]? = some c) :
    AOp P B ops o e σ (.d (.v (.int .u8 (c.toNat : Int)))) :=
  .value fun F ρ w a hF hr hσ => by
  have h1 := hr x (by rw [ho]; simp [Op.operands])
  rw [hx] at h1
  obtain ⟨g, ee, cap, cur, fz, h7, _, _, hh, hC⟩ := hσ.ok _ hm
  dsimp only at h7
  have hv := ptr_at h1 (g := g) (by rw [h7]; rfl)
  obtain ⟨hk, hk2⟩ := List.getElem?_eq_some_iff.1 hc
  have hcell : w.cell? ⟨g, k, none⟩ = some (.int .u8 (c.toNat : Int)) := by rw [cell_of_row w g k cur ee fz hh, hC.hcur k hk, hk2]
  refine ⟨_, F, w, ?_, .d (.v _), Ext.refl hF⟩
  unfold execOp
  simp only [ho, hv, Instr.loadAt, Instr.sureAddr, loadVar, Sem.run_bind, Sem.run_pure, Result.andThen_ok, hT w, Bool.false_eq_true, if_false, run_load, hcell]
end

section
variable {P : Program} {B : Nat} {ops : Array Oper} {o : Oper} {e : Env} {σ : Obs}
/-- A struct within a struct, loaded whole: the first cells of what lies there. -/
theorem AOp.loadAggT {t : TypeId} {x : Operand} {size : Nat} {ds : List D} (ho : o.op = .load t x) (hT : AggT P t size) (hx : e.ev x = .d (.fp ds)) (hl : size ≤ ds.length) : AOp P B ops o e σ (.d (.agg (ds.take size))) :=
  .value fun F ρ w a hF hr _ => by
  have h1 := hr x (by rw [ho]; simp [Op.operands])
  rw [hx] at h1
  have h2 := repS_d h1
  obtain ⟨ad, hv⟩ := rep_fp h2
  rw [hv] at h2
  cases h2 with
  | fp _ _ vs hF' hcell hone hrep =>
    have hl' : (loadCells ad ((List.range size).map vs).length).run P w = .ok ((List.range size).map vs).toArray w := run_loadCells_list w _ _ (fun j v hj => by
      have hjl := (List.getElem?_eq_some_iff.1 hj).1
      simp at hjl
      rw [hcell j (by omega), ← hj]
      simp [hjl])
    simp only [List.length_map, List.length_range] at hl'
    refine ⟨.agg ((List.range size).map vs).toArray, F, w, ?_, .d (.agg _ _ (by simp; omega) (fun i hi => ?_) (fun i hi hi2 => ?_)), Ext.refl hF⟩
    · unfold execOp
      simp only [ho, hv, Instr.loadAt, Instr.sureAddr, loadVar, Sem.run_bind, Sem.run_pure, Result.andThen_ok, hT.agg w, hT.size w, if_true, hl']
    · simp at hi ⊢
      exact hone i (by omega)
    · simp at hi hi2 ⊢
      exact hrep i (by omega)
end
end Go.Proofs.YtfajemnegkfigaaDoor


namespace Go.Proofs.YtfajemnegkfigaaDoor
open Go.RowKit
set_option linter.unusedVariables false

/-! Types. -/
namespace TyU3
theorem ag_76 : AggT Tryd.prog 76 3 := .of (by kernel_rfl)
theorem et_22 : ElemTy Tryd.prog 22 76 3 40 (.agg #[(.string ⟨#[]⟩), (.string ⟨#[]⟩), (.int .i64 0)]) := ⟨by kernel_rfl, by kernel_rfl, by kernel_rfl, by decide⟩
theorem et_27 : ElemTy Tryd.prog 27 3 1 8 (.int .i64 0) := ⟨by kernel_rfl, by kernel_rfl, by kernel_rfl, by decide⟩
theorem fo_76_0 : fieldOff Tryd.prog 76 0 = some 0 := by kernel_rfl
theorem fo_76_1 : fieldOff Tryd.prog 76 1 = some 1 := by kernel_rfl
theorem fo_76_2 : fieldOff Tryd.prog 76 2 = some 2 := by kernel_rfl
theorem sc_3 : Scal Tryd.prog 3 := .of (by kernel_rfl)
theorem sc_9 : Scal Tryd.prog 9 := .of (by kernel_rfl)
theorem sz_76 : ∀ w, (sizeOf 76).run Tryd.prog w = .ok 3 w := SizeT.of (by kernel_rfl)
theorem zt_76 : (Tryd.prog.info? 76).bind (·.zero) = some (.agg #[(.string ⟨#[]⟩), (.string ⟨#[]⟩), (.int .i64 0)]) := by kernel_rfl
end TyU3
open TyU3


open Go.Lib
theorem take_f {α : Type} {p : α → Bool} {l : List α} {k : Nat} (hk : k < l.length) (h : ∀ c ∈ l.take k, p c = false) (h2 : p l[k] = false) : ∀ c ∈ l.take (k + 1), p c = false := by
  intro c hc
  rw [List.take_add_one, List.getElem?_eq_getElem hk] at hc
  simp only [Option.toList_some, List.mem_append, List.mem_singleton] at hc
  rcases hc with h1 | h1
  · exact h c h1
  · rw [h1]; exact h2
def orI (l : List Int) : Int := (l.find? fun x => decide (x ≠ 0)).getD 0
theorem orI_yes {l : List Int} {k : Nat} (hk : k < l.length) (h : ∀ c ∈ l.take k, decide (c ≠ 0) = false) (h2 : l[k] ≠ 0) : orI l = l[k] := by
  unfold orI
  have e : l = l.take k ++ l[k] :: l.drop (k + 1) := by rw [← List.drop_eq_getElem_cons hk, List.take_append_drop]
  have h3 : (l.take k).find? (fun x => decide (x ≠ 0)) = none := List.find?_eq_none.2 fun x hx => by rw [h x hx]; simp
  have h4 : l.find? (fun x => decide (x ≠ 0)) = some l[k] := by
    have : (l.take k ++ l[k] :: l.drop (k + 1)).find? (fun x => decide (x ≠ 0)) = some l[k] := by
      rw [List.find?_append, h3, List.find?_cons, decide_eq_true h2]; rfl
    rw [← e] at this; exact this
  rw [h4]; rfl
theorem orI_no {l : List Int} (h : ∀ c ∈ l.take l.length, decide (c ≠ 0) = false) : orI l = 0 := by
  unfold orI
  rw [List.find?_eq_none.2 fun x hx => by rw [h x (by rw [List.take_length]; exact hx)]; simp]
  rfl

theorem orI_two (a b : Int) : orI [a, b] = if a = 0 then b else a := by
  by_cases h : a = 0
  · rw [if_pos h]
    by_cases h2 : b = 0 <;> simp [orI, h, h2]
  · rw [if_neg h]; simp [orI, h]
theorem orI_ali (a b : Ali) : orI [strCmp a.source b.source, strCmp a.title b.title] = aliCmp a b := by
  rw [orI_two]
  unfold aliCmp
  by_cases h : a.source = b.source
  · rw [if_pos (strCmp_zero.2 h), if_pos h]
  · rw [if_neg (fun hh => h (strCmp_zero.1 hh)), if_neg h]
theorem cmp_pos {a b : ByteArray} (h : slt b a = true) : 0 ≤ strCmp a b := by
  have : ¬ strCmp a b < 0 := fun hh => by
    have h2 := strCmp_lt.1 hh
    rw [show slt a b = false from less_asym _ _ h] at h2; cases h2
  omega
theorem cmp_neg {a b : ByteArray} (h : slt b a = false) (hne : ¬ b = a) : strCmp a b < 0 := strCmp_lt.2 (less_total _ _ h (fun e => hne (toList_inj.1 e)))
theorem ali_1 {a b : Ali} (h : slt b.source a.source = true) : 0 ≤ aliCmp a b := by
  have hne : ¬ a.source = b.source := fun e => by rw [e] at h; rw [show slt b.source b.source = false from less_irr _] at h; cases h
  unfold aliCmp; rw [if_neg hne]; exact cmp_pos h
theorem ali_2 {a b : Ali} (h : slt b.source a.source = false) (hne : ¬ b.source = a.source) : ¬ 0 ≤ aliCmp a b := by
  unfold aliCmp; rw [if_neg (fun e => hne e.symm)]
  have := cmp_neg h hne
  omega
theorem sle_cmp {a b : ByteArray} : sle b a = true ↔ 0 ≤ strCmp a b := by
  have h := slt_sle a b
  have h2 := @strCmp_lt a b
  cases hs : sle b a with
  | true => rw [hs] at h; rw [h] at h2; simp at h2; simpa using h2
  | false => rw [hs] at h; rw [h] at h2; simp at h2; simpa using h2
theorem ali_3 {a b : Ali} (h : b.source = a.source) : 0 ≤ aliCmp a b ↔ sle b.title a.title = true := by
  unfold aliCmp; rw [if_pos h.symm, sle_cmp]


set_option maxRecDepth 100000 in
set_option maxHeartbeats 1000000 in
theorem c_or (l : List Int) : ACall Tryd.prog 71 [.sl (l.map intD)] (.v (.int .i64 (orI l))) := by
  refine acall_of (n := 18) (ds' := [.v (.int .i64 (orI l))]) Tryd.func71 rfl (by kernel_rfl) rfl [2] rfl rfl ?_
  intro B w0 F0 fr
  refine AWP.bound 0 rfl (fun hbd0 => ?_)
  rw [List.length_map] at hbd0
  refine AWP.seq ?_
  refine AWP.region ?_
  refine AOps.step rfl rfl rfl (AOp.assignD rfl rfl) ?_
  refine AOps.nil ?_
  refine AWP.seq ?_
  refine AWP.region ?_
  refine AOps.step rfl rfl rfl (AOp.assignD rfl rfl) ?_
  refine AOps.nil ?_
  refine AWP.seq ?_
  refine AWP.seq ?_
  refine AWP.region ?_
  refine AOps.step rfl rfl rfl (AOp.moveD rfl rfl) ?_
  refine AOps.step rfl rfl rfl (AOp.lenSl rfl et_27.ht rfl) ?_
  refine AOps.step rfl rfl rfl (AOp.moveD rfl rfl) ?_
  refine AOps.nil ?_
  refine AWP.block ?_
  refine AWP.loop (G := Nat) (fun k => Env.of [(8, .d (.v (.int .i64 (k : Int)))), (6, .d (.sl (l.map intD))), (7, .d (.v (.int .i64 ((l.map intD).length : Int)))), (3, .d (.v (.int .i64 0)))]) (fun k => []) (fun k => k ≤ l.length ∧ ∀ c ∈ l.take k, decide (c ≠ 0) = false) (fun k => l.length - k) 0 ⟨Nat.zero_le _, fun c h => by simp at h⟩ (Sub.less ⟨(SLe.of_eq rfl), SLe.refl _, SLe.refl _, SLe.refl _, trivial⟩ (fun _ h => h)) ?_
  intro k hk
  refine AWP.seq ?_
  refine AWP.region ?_
  refine AOps.step rfl rfl rfl (AOp.lss rfl rfl rfl) ?_
  refine AOps.nil ?_
  refine AWP.seq ?_
  refine AWP.cond rfl (fun h1 => ?_) (fun h1 => ?_)
  · replace h1 := of_decide_eq_true h1
    rw [List.length_map] at h1
    have hlt : k < l.length := by omega
    refine AWP.skip ?_
    refine AWP.seq ?_
    refine AWP.block ?_
    refine AWP.seq ?_
    refine AWP.region ?_
    refine AOps.step rfl rfl rfl (AOp.indexAddr rfl et_27 rfl rfl k rfl (at_lst hlt) rfl) ?_
    refine AOps.step rfl rfl rfl (AOp.load rfl sc_3 rfl) ?_
    refine AOps.step rfl rfl rfl (AOp.assignD rfl rfl) ?_
    refine AOps.nil ?_
    refine AWP.seq ?_
    refine AWP.region ?_
    refine AOps.step rfl rfl rfl (AOp.moveD rfl rfl) ?_
    refine AOps.step rfl rfl rfl (AOp.moveD rfl rfl) ?_
    refine AOps.step rfl rfl rfl (AOp.neq rfl rfl rfl) ?_
    refine AOps.nil ?_
    refine AWP.cond rfl (fun h2 => ?_) (fun h2 => ?_)
    · replace h2 := of_decide_eq_true h2
      rw [orI_yes hlt hk.2 h2]
      refine AWP.seq ?_
      refine AWP.region ?_
      refine AOps.step rfl rfl rfl (AOp.moveD rfl rfl) ?_
      refine AOps.step rfl rfl rfl (AOp.assignD rfl rfl) ?_
      refine AOps.nil ?_
      refine AWP.ret ?_
      refine ⟨RetD.eq rfl ?_, trivial⟩
      all_goals (rfl)
    · replace h2 := of_decide_eq_false h2
      have hT := take_f (p := fun x : Int => decide (x ≠ 0)) hlt hk.2 (decide_eq_false h2)
      refine AWP.skip ?_
      refine AWP.region ?_
      refine AOps.step rfl rfl rfl (AOp.add64 rfl rfl rfl (by omega) (by omega)) ?_
      refine AOps.step rfl rfl rfl (AOp.moveD rfl rfl) ?_
      refine AOps.nil ?_
      refine ⟨k + 1, ⟨by omega, hT⟩, (by dsimp only; omega), Sub.less ⟨(SLe.of_eq rfl), SLe.refl _, SLe.refl _, SLe.refl _, trivial⟩ (fun _ h => h)⟩
  · replace h1 := of_decide_eq_false h1
    rw [List.length_map] at h1
    rw [orI_no (fun c hc => hk.2 c (by rw [show k = l.length by omega]; exact hc))]
    refine AWP.exit ?_
    refine AWP.seq ?_
    refine AWP.region ?_
    refine AOps.step rfl rfl rfl (AOp.moveD rfl rfl) ?_
    refine AOps.step rfl rfl rfl (AOp.assignD rfl rfl) ?_
    refine AOps.nil ?_
    refine AWP.ret ?_
    refine ⟨RetD.eq rfl ?_, trivial⟩
    all_goals (rfl)

set_option maxRecDepth 100000 in
set_option maxHeartbeats 1000000 in
theorem c_cmpAli (a b : Ali) : ACall Tryd.prog 65 [.agg a.ds, .agg b.ds] (.v (.int .i64 (aliCmp a b))) := by
  refine acall_of (n := 17) (ds' := [.v (.int .i64 (aliCmp a b))]) Tryd.func65 rfl (by kernel_rfl) rfl [4] rfl rfl ?_
  intro B w0 F0 fr
  refine AWP.seq ?_
  refine AWP.region ?_
  refine AOps.step rfl rfl rfl (AOp.box rfl rfl rfl) ?_
  refine AOps.step rfl rfl rfl (AOp.box rfl rfl rfl) ?_
  refine AOps.step rfl rfl rfl (AOp.assignD rfl rfl) ?_
  refine AOps.nil ?_
  refine AWP.seq ?_
  refine AWP.draw (by kernel_rfl) (by kernel_rfl) ?_
  refine DRun.step rfl rfl rfl (AOp.fieldAddr rfl fo_76_0 rfl) ?_
  refine DRun.step rfl rfl rfl (AOp.load rfl sc_9 rfl) ?_
  refine DRun.step rfl rfl rfl (AOp.fieldAddr rfl fo_76_0 rfl) ?_
  refine DRun.step rfl rfl rfl (AOp.load rfl sc_9 rfl) ?_
  refine DRun.step rfl rfl rfl (AOp.call rfl (.cons (ArgOk.rfl' rfl) (.cons (ArgOk.rfl' rfl) .nil)) (c_strCmp _ _)) ?_
  refine DRun.step rfl rfl rfl (AOp.fieldAddr rfl fo_76_1 rfl) ?_
  refine DRun.step rfl rfl rfl (AOp.load rfl sc_9 rfl) ?_
  refine DRun.step rfl rfl rfl (AOp.fieldAddr rfl fo_76_1 rfl) ?_
  refine DRun.step rfl rfl rfl (AOp.load rfl sc_9 rfl) ?_
  refine DRun.step rfl rfl rfl (AOp.call rfl (.cons (ArgOk.rfl' rfl) (.cons (ArgOk.rfl' rfl) .nil)) (c_strCmp _ _)) ?_
  refine DRun.step rfl rfl rfl (AOp.buildSlice rfl et_27 (.cons rfl rfl rfl (.cons rfl rfl rfl .nil)) rfl (by decide)) ?_
  refine DRun.step rfl rfl rfl (AOp.call rfl (.cons (ArgOk.rfl' rfl) .nil) (c_or [strCmp a.source b.source, strCmp a.title b.title])) ?_
  refine DRun.step rfl rfl rfl (AOp.assignD rfl rfl) ?_
  refine DRun.nil ?_
  refine AWP.ret ?_
  refine ⟨RetD.eq rfl ?_, trivial⟩
  all_goals (rw [orI_ali])

set_option maxRecDepth 100000 in
set_option maxHeartbeats 1000000 in
theorem c_pAlis (l : List Ali) (hb : ∀ x ∈ l, x.source.size ≤ 9223372036854775807 ∧ x.title.size ≤ 9223372036854775807) : ACallT Tryd.prog MaxT 25 [.sl (l.map Ali.ds)] (.v (.int .i64 (alisF l))) := by
  refine acall_ofT (n := 44) (ds' := [.v (.int .i64 (alisF l))]) Tryd.func25 rfl (by kernel_rfl) rfl [2] rfl rfl ?_
  intro B w0 F0 hT
  refine AWP.seq ?_
  refine AWP.region ?_
  refine AOps.step rfl rfl rfl (AOp.assignD rfl rfl) ?_
  refine AOps.nil ?_
  refine AWP.seq ?_
  refine AWP.seq ?_
  refine AWP.region ?_
  refine AOps.step rfl rfl rfl (AOp.moveD rfl rfl) ?_
  refine AOps.step rfl rfl rfl (AOp.lenSl rfl et_22.ht rfl) ?_
  refine AOps.step rfl rfl rfl (AOp.gtr rfl rfl rfl) ?_
  refine AOps.nil ?_
  refine AWP.cond rfl (fun h1 => ?_) (fun h1 => ?_)
  · replace h1 := of_decide_eq_true h1
    rw [List.length_map] at h1
    have HR : alisF l = 2 := if_pos (by omega)
    refine AWP.seq ?_
    refine AWP.region ?_
    refine AOps.step rfl rfl rfl (AOp.assignD rfl rfl) ?_
    refine AOps.nil ?_
    refine AWP.ret ?_
    refine ⟨RetD.eq rfl ?_, trivial⟩
    all_goals (first | rw [HR] | (rw [HX, ffst_hit (f := aliF l) hk.2 (by unfold aliF; rw [dif_pos hlt]; (repeat (first | rw [if_pos (by first | assumption | omega)] | rw [if_neg (by first | assumption | omega)])); first | done | rfl | decide) _ hlt]; unfold aliF; rw [dif_pos hlt]; (repeat (first | rw [if_pos (by first | assumption | omega)] | rw [if_neg (by first | assumption | omega)])); first | done | rfl | decide))
  · replace h1 := of_decide_eq_false h1
    rw [List.length_map] at h1
    have HX : alisF l = ffst (aliF l) l.length := if_neg (by omega)
    refine AWP.skip ?_
    refine AWP.seq ?_
    refine AWP.seq ?_
    refine AWP.region ?_
    refine AOps.step rfl rfl rfl (AOp.moveD rfl rfl) ?_
    refine AOps.step rfl rfl rfl (AOp.lenSl rfl et_22.ht rfl) ?_
    refine AOps.step rfl rfl rfl (AOp.moveD rfl rfl) ?_
    refine AOps.nil ?_
    refine AWP.block ?_
    refine AWP.loop (G := Nat) (fun k => Env.of [(10, .d (.v (.int .i64 (k : Int)))), (8, .d (.sl (l.map Ali.ds))), (9, .d (.v (.int .i64 ((l.map Ali.ds).length : Int)))), (0, .d (.sl (l.map Ali.ds)))]) (fun k => []) (fun k => k ≤ l.length ∧ ffst (aliF l) k = 0) (fun k => l.length - k) 0 ⟨Nat.zero_le _, rfl⟩ (Sub.less ⟨(SLe.of_eq rfl), SLe.refl _, SLe.refl _, SLe.refl _, trivial⟩ (fun _ h => h)) ?_
    intro k hk
    refine AWP.seq ?_
    refine AWP.region ?_
    refine AOps.step rfl rfl rfl (AOp.lss rfl rfl rfl) ?_
    refine AOps.nil ?_
    refine AWP.seq ?_
    refine AWP.cond rfl (fun h2 => ?_) (fun h2 => ?_)
    · replace h2 := of_decide_eq_true h2
      rw [List.length_map] at h2
      have hlt : k < l.length := by omega
      have hbk := hb _ (List.getElem_mem hlt)
      refine AWP.skip ?_
      refine AWP.seq ?_
      refine AWP.block ?_
      refine AWP.seq ?_
      refine AWP.region ?_
      refine AOps.step rfl rfl rfl (AOp.moveD rfl rfl) ?_
      refine AOps.step rfl rfl rfl (AOp.indexAddr rfl et_22 rfl rfl k rfl (at_lst hlt) rfl) ?_
      refine AOps.step rfl rfl rfl (AOp.loadAgg rfl ag_76 rfl rfl) ?_
      refine AOps.alloc 101 rfl rfl rfl rfl zt_76 rfl rfl rfl ?_
      refine AOps.step rfl rfl rfl (AOp.assignD rfl rfl) ?_
      refine AOps.store rfl rfl rfl sz_76 rfl (.head _) rfl rfl rfl (Nat.le_of_ble_eq_true rfl) ?_
      refine AOps.freezeCells 4 (ds := l[k].ds) rfl (.head _) ?_
      refine AOps.nil ?_
      refine AWP.block ?_
      refine AWP.seq ?_
      refine AWP.region ?_
      refine AOps.step rfl rfl rfl (AOp.fieldAddr rfl fo_76_0 rfl) ?_
      refine AOps.step rfl rfl rfl (AOp.load rfl sc_9 rfl) ?_
      refine AOps.step rfl rfl rfl (AOp.call rfl (.cons (ArgOk.rfl' rfl) .nil) (c_pName _ hbk.1)) ?_
      refine AOps.step rfl rfl rfl (AOp.not rfl rfl) ?_
      refine AOps.step rfl rfl rfl (AOp.assignD rfl rfl) ?_
      refine AOps.nil ?_
      refine AWP.cond rfl (fun h3 => ?_) (fun h3 => ?_)
      · replace h3 := bnot_t h3
        refine AWP.seq ?_
        refine AWP.region ?_
        refine AOps.step rfl rfl rfl (AOp.assignD rfl rfl) ?_
        refine AOps.nil ?_
        refine AWP.ret ?_
        refine ⟨RetD.eq rfl ?_, trivial⟩
        all_goals (first | rw [HR] | (rw [HX, ffst_hit (f := aliF l) hk.2 (by unfold aliF; rw [dif_pos hlt]; (repeat (first | rw [if_pos (by first | assumption | omega)] | rw [if_neg (by first | assumption | omega)])); first | done | rfl | decide) _ hlt]; unfold aliF; rw [dif_pos hlt]; (repeat (first | rw [if_pos (by first | assumption | omega)] | rw [if_neg (by first | assumption | omega)])); first | done | rfl | decide))
      · replace h3 := bnot_f h3
        have n1 : ¬ nameOk l[k].source = false := by rw [h3]; decide
        refine AWP.seq ?_
        refine AWP.region ?_
        refine AOps.step rfl rfl rfl (AOp.fieldAddr rfl fo_76_1 rfl) ?_
        refine AOps.step rfl rfl rfl (AOp.load rfl sc_9 rfl) ?_
        -- wants the world
        refine AOps.callT rfl rfl rfl hT maxT_stays rfl (.cons (ArgOk.rfl' rfl) .nil) (c_pTitle _ hbk.2) ?_
        refine AOps.step rfl rfl rfl (AOp.not rfl rfl) ?_
        refine AOps.step rfl rfl rfl (AOp.assignD rfl rfl) ?_
        refine AOps.nil ?_
        refine AWP.cond rfl (fun h4 => ?_) (fun h4 => ?_)
        · replace h4 := bnot_t h4
          refine AWP.seq ?_
          refine AWP.region ?_
          refine AOps.step rfl rfl rfl (AOp.assignD rfl rfl) ?_
          refine AOps.nil ?_
          refine AWP.ret ?_
          refine ⟨RetD.eq rfl ?_, trivial⟩
          all_goals (first | rw [HR] | (rw [HX, ffst_hit (f := aliF l) hk.2 (by unfold aliF; rw [dif_pos hlt]; (repeat (first | rw [if_pos (by first | assumption | omega)] | rw [if_neg (by first | assumption | omega)])); first | done | rfl | decide) _ hlt]; unfold aliF; rw [dif_pos hlt]; (repeat (first | rw [if_pos (by first | assumption | omega)] | rw [if_neg (by first | assumption | omega)])); first | done | rfl | decide))
        · replace h4 := bnot_f h4
          have n2 : ¬ titleOk l[k].title = false := by rw [h4]; decide
          refine AWP.seq ?_
          refine AWP.draw (by kernel_rfl) (by kernel_rfl) ?_
          refine DRun.step rfl rfl rfl (AOp.moveD rfl rfl) ?_
          refine DRun.step rfl rfl rfl (AOp.gtr rfl rfl rfl) ?_
          refine DRun.step rfl rfl rfl (AOp.moveD rfl rfl) ?_
          refine DRun.split 28 rfl (fun g5 => ?_) (fun g5 => ?_)
          · replace g5 := of_decide_eq_true g5
            have hk0 : 0 < k := by omega
            refine DRun.step ⟨28, rfl, .inl ⟨_, rfl, rfl⟩⟩ rfl rfl (AOp.moveD rfl rfl) ?_
            refine DRun.step ⟨28, rfl, .inl ⟨_, rfl, rfl⟩⟩ rfl rfl (AOp.moveD rfl rfl) ?_
            refine DRun.step ⟨28, rfl, .inl ⟨_, rfl, rfl⟩⟩ rfl rfl (AOp.sub64 rfl rfl rfl (by omega) (by omega)) ?_
            refine DRun.step ⟨28, rfl, .inl ⟨_, rfl, rfl⟩⟩ rfl rfl (AOp.indexAddr rfl et_22 rfl rfl (k - 1) (by omega) (at_lst (by omega)) rfl) ?_
            refine DRun.step ⟨28, rfl, .inl ⟨_, rfl, rfl⟩⟩ rfl rfl (AOp.loadAgg rfl ag_76 rfl rfl) ?_
            refine DRun.step ⟨28, rfl, .inl ⟨_, rfl, rfl⟩⟩ rfl rfl (AOp.loadAgg rfl ag_76 rfl rfl) ?_
            refine DRun.step ⟨28, rfl, .inl ⟨_, rfl, rfl⟩⟩ rfl rfl (AOp.call rfl (.cons (ArgOk.rfl' rfl) (.cons (ArgOk.rfl' rfl) .nil)) (c_cmpAli _ _)) ?_
            refine DRun.step ⟨28, rfl, .inl ⟨_, rfl, rfl⟩⟩ rfl rfl (AOp.geq rfl rfl rfl) ?_
            refine DRun.step rfl rfl rfl (AOp.pickT rfl rfl rfl) ?_
            refine DRun.step rfl rfl rfl (AOp.assignD rfl rfl) ?_
            refine DRun.nil ?_
            refine AWP.cond rfl (fun h6 => ?_) (fun h6 => ?_)
            · replace h6 := of_decide_eq_true h6
              have n3 : (0 < k ∧ 0 ≤ aliCmp (l[k-1]'(by omega)) l[k]) := ⟨hk0, by omega⟩
              refine AWP.seq ?_
              refine AWP.region ?_
              refine AOps.step rfl rfl rfl (AOp.assignD rfl rfl) ?_
              refine AOps.nil ?_
              refine AWP.ret ?_
              refine ⟨RetD.eq rfl ?_, trivial⟩
              all_goals (first | rw [HR] | (rw [HX, ffst_hit (f := aliF l) hk.2 (by unfold aliF; rw [dif_pos hlt]; (repeat (first | rw [if_pos (by first | assumption | omega)] | rw [if_neg (by first | assumption | omega)])); first | done | rfl | decide) _ hlt]; unfold aliF; rw [dif_pos hlt]; (repeat (first | rw [if_pos (by first | assumption | omega)] | rw [if_neg (by first | assumption | omega)])); first | done | rfl | decide))
            · replace h6 := of_decide_eq_false h6
              have n3 : ¬ (0 < k ∧ 0 ≤ aliCmp (l[k-1]'(by omega)) l[k]) := fun hh => h6 hh.2
              refine AWP.seq ?_
              refine AWP.region ?_
              refine AOps.step rfl rfl rfl (AOp.fieldAddr rfl fo_76_2 rfl) ?_
              refine AOps.step rfl rfl rfl (AOp.load rfl sc_3 rfl) ?_
              refine AOps.step rfl rfl rfl (AOp.call rfl (.cons (ArgOk.rfl' rfl) (.cons (ArgOk.rfl' rfl) (.cons (ArgOk.rfl' rfl) .nil))) (c_pIn _ _ _)) ?_
              refine AOps.step rfl rfl rfl (AOp.not rfl rfl) ?_
              refine AOps.step rfl rfl rfl (AOp.assignD rfl rfl) ?_
              refine AOps.nil ?_
              refine AWP.cond rfl (fun h7 => ?_) (fun h7 => ?_)
              · replace h7 := bnot_t h7; replace h7 := of_decide_eq_false h7
                refine AWP.seq ?_
                refine AWP.region ?_
                refine AOps.step rfl rfl rfl (AOp.assignD rfl rfl) ?_
                refine AOps.nil ?_
                refine AWP.ret ?_
                refine ⟨RetD.eq rfl ?_, trivial⟩
                all_goals (first | rw [HR] | (rw [HX, ffst_hit (f := aliF l) hk.2 (by unfold aliF; rw [dif_pos hlt]; (repeat (first | rw [if_pos (by first | assumption | omega)] | rw [if_neg (by first | assumption | omega)])); first | done | rfl | decide) _ hlt]; unfold aliF; rw [dif_pos hlt]; (repeat (first | rw [if_pos (by first | assumption | omega)] | rw [if_neg (by first | assumption | omega)])); first | done | rfl | decide))
              · replace h7 := bnot_f h7; replace h7 := of_decide_eq_true h7
                refine AWP.skip ?_
                refine AWP.region ?_
                refine AOps.step rfl rfl rfl (AOp.add64 rfl rfl rfl (by omega) (by omega)) ?_
                refine AOps.step rfl rfl rfl (AOp.moveD rfl rfl) ?_
                refine AOps.nil ?_
                refine ⟨k + 1, ⟨by omega, ffst_next hk.2 (by unfold aliF; rw [dif_pos hlt]; (repeat (first | rw [if_pos (by first | assumption | omega)] | rw [if_neg (by first | assumption | omega)])); first | done | rfl | decide)⟩, (by dsimp only; omega), Sub.less ⟨(SLe.of_eq rfl), SLe.refl _, SLe.refl _, SLe.refl _, trivial⟩ (fun _ h => h)⟩
          · replace g5 := of_decide_eq_false g5
            have n3 : ¬ (0 < k ∧ 0 ≤ aliCmp (l[k-1]'(by omega)) l[k]) := fun hh => by omega
            refine DRun.pass ⟨28, rfl, .inl ⟨_, rfl, rfl⟩⟩ rfl rfl ?_
            refine DRun.pass ⟨28, rfl, .inl ⟨_, rfl, rfl⟩⟩ rfl rfl ?_
            refine DRun.pass ⟨28, rfl, .inl ⟨_, rfl, rfl⟩⟩ rfl rfl ?_
            refine DRun.pass ⟨28, rfl, .inl ⟨_, rfl, rfl⟩⟩ rfl rfl ?_
            refine DRun.pass ⟨28, rfl, .inl ⟨_, rfl, rfl⟩⟩ rfl rfl ?_
            refine DRun.pass ⟨28, rfl, .inl ⟨_, rfl, rfl⟩⟩ rfl rfl ?_
            refine DRun.pass ⟨28, rfl, .inl ⟨_, rfl, rfl⟩⟩ rfl rfl ?_
            refine DRun.pass ⟨28, rfl, .inl ⟨_, rfl, rfl⟩⟩ rfl rfl ?_
            refine DRun.step rfl rfl rfl (AOp.pickF rfl rfl rfl) ?_
            refine DRun.step rfl rfl rfl (AOp.assignD rfl rfl) ?_
            refine DRun.nil ?_
            refine AWP.cond rfl (fun h => nomatch h) (fun _ => ?_)
            refine AWP.seq ?_
            refine AWP.region ?_
            refine AOps.step rfl rfl rfl (AOp.fieldAddr rfl fo_76_2 rfl) ?_
            refine AOps.step rfl rfl rfl (AOp.load rfl sc_3 rfl) ?_
            refine AOps.step rfl rfl rfl (AOp.call rfl (.cons (ArgOk.rfl' rfl) (.cons (ArgOk.rfl' rfl) (.cons (ArgOk.rfl' rfl) .nil))) (c_pIn _ _ _)) ?_
            refine AOps.step rfl rfl rfl (AOp.not rfl rfl) ?_
            refine AOps.step rfl rfl rfl (AOp.assignD rfl rfl) ?_
            refine AOps.nil ?_
            refine AWP.cond rfl (fun h8 => ?_) (fun h8 => ?_)
            · replace h8 := bnot_t h8; replace h8 := of_decide_eq_false h8
              refine AWP.seq ?_
              refine AWP.region ?_
              refine AOps.step rfl rfl rfl (AOp.assignD rfl rfl) ?_
              refine AOps.nil ?_
              refine AWP.ret ?_
              refine ⟨RetD.eq rfl ?_, trivial⟩
              all_goals (first | rw [HR] | (rw [HX, ffst_hit (f := aliF l) hk.2 (by unfold aliF; rw [dif_pos hlt]; (repeat (first | rw [if_pos (by first | assumption | omega)] | rw [if_neg (by first | assumption | omega)])); first | done | rfl | decide) _ hlt]; unfold aliF; rw [dif_pos hlt]; (repeat (first | rw [if_pos (by first | assumption | omega)] | rw [if_neg (by first | assumption | omega)])); first | done | rfl | decide))
            · replace h8 := bnot_f h8; replace h8 := of_decide_eq_true h8
              refine AWP.skip ?_
              refine AWP.region ?_
              refine AOps.step rfl rfl rfl (AOp.add64 rfl rfl rfl (by omega) (by omega)) ?_
              refine AOps.step rfl rfl rfl (AOp.moveD rfl rfl) ?_
              refine AOps.nil ?_
              refine ⟨k + 1, ⟨by omega, ffst_next hk.2 (by unfold aliF; rw [dif_pos hlt]; (repeat (first | rw [if_pos (by first | assumption | omega)] | rw [if_neg (by first | assumption | omega)])); first | done | rfl | decide)⟩, (by dsimp only; omega), Sub.less ⟨(SLe.of_eq rfl), SLe.refl _, SLe.refl _, SLe.refl _, trivial⟩ (fun _ h => h)⟩
    · replace h2 := of_decide_eq_false h2
      rw [List.length_map] at h2
      have HR : alisF l = 0 := by rw [HX, show l.length = k by omega]; exact hk.2
      refine AWP.exit ?_
      refine AWP.seq ?_
      refine AWP.region ?_
      refine AOps.step rfl rfl rfl (AOp.assignD rfl rfl) ?_
      refine AOps.nil ?_
      refine AWP.ret ?_
      refine ⟨RetD.eq rfl ?_, trivial⟩
      all_goals (first | rw [HR] | (rw [HX, ffst_hit (f := aliF l) hk.2 (by unfold aliF; rw [dif_pos hlt]; (repeat (first | rw [if_pos (by first | assumption | omega)] | rw [if_neg (by first | assumption | omega)])); first | done | rfl | decide) _ hlt]; unfold aliF; rw [dif_pos hlt]; (repeat (first | rw [if_pos (by first | assumption | omega)] | rw [if_neg (by first | assumption | omega)])); first | done | rfl | decide))

set_option maxRecDepth 100000 in
set_option maxHeartbeats 1000000 in
theorem c_rAlis (l : List Ali) (hb : ∀ x ∈ l, x.source.size ≤ 9223372036854775807 ∧ x.title.size ≤ 9223372036854775807) : ACallT Tryd.prog MaxT 28 [.sl (l.map Ali.ds)] (.v (.int .i64 (alisF l))) := by
  refine acall_ofT (n := 67) (ds' := [.v (.int .i64 (alisF l))]) Tryd.func28 rfl (by kernel_rfl) rfl [2] rfl rfl ?_
  intro B w0 F0 hT
  refine AWP.seq ?_
  refine AWP.region ?_
  refine AOps.step rfl rfl rfl (AOp.assignD rfl rfl) ?_
  refine AOps.nil ?_
  refine AWP.seq ?_
  refine AWP.seq ?_
  refine AWP.region ?_
  refine AOps.step rfl rfl rfl (AOp.moveD rfl rfl) ?_
  refine AOps.step rfl rfl rfl (AOp.lenSl rfl et_22.ht rfl) ?_
  refine AOps.step rfl rfl rfl (AOp.gtr rfl rfl rfl) ?_
  refine AOps.nil ?_
  refine AWP.cond rfl (fun h1 => ?_) (fun h1 => ?_)
  · replace h1 := of_decide_eq_true h1
    rw [List.length_map] at h1
    have HR : alisF l = 2 := if_pos (by omega)
    refine AWP.seq ?_
    refine AWP.region ?_
    refine AOps.step rfl rfl rfl (AOp.assignD rfl rfl) ?_
    refine AOps.nil ?_
    refine AWP.ret ?_
    refine ⟨RetD.eq rfl ?_, trivial⟩
    all_goals (first | rw [HR] | (rw [HX, ffst_hit (f := aliF l) hk.2 (by unfold aliF; rw [dif_pos hlt]; (repeat (first | rw [if_pos (by first | assumption | omega)] | rw [if_neg (by first | assumption | omega)])); first | done | rfl | decide) _ hlt]; unfold aliF; rw [dif_pos hlt]; (repeat (first | rw [if_pos (by first | assumption | omega)] | rw [if_neg (by first | assumption | omega)])); first | done | rfl | decide))
  · replace h1 := of_decide_eq_false h1
    rw [List.length_map] at h1
    have HX : alisF l = ffst (aliF l) l.length := if_neg (by omega)
    refine AWP.skip ?_
    refine AWP.seq ?_
    refine AWP.seq ?_
    refine AWP.region ?_
    refine AOps.step rfl rfl rfl (AOp.moveD rfl rfl) ?_
    refine AOps.step rfl rfl rfl (AOp.lenSl rfl et_22.ht rfl) ?_
    refine AOps.step rfl rfl rfl (AOp.moveD rfl rfl) ?_
    refine AOps.nil ?_
    refine AWP.block ?_
    refine AWP.loop (G := Nat) (fun k => Env.of [(10, .d (.v (.int .i64 (k : Int)))), (8, .d (.sl (l.map Ali.ds))), (9, .d (.v (.int .i64 ((l.map Ali.ds).length : Int)))), (0, .d (.sl (l.map Ali.ds)))]) (fun k => []) (fun k => k ≤ l.length ∧ ffst (aliF l) k = 0) (fun k => l.length - k) 0 ⟨Nat.zero_le _, rfl⟩ (Sub.less ⟨(SLe.of_eq rfl), SLe.refl _, SLe.refl _, SLe.refl _, trivial⟩ (fun _ h => h)) ?_
    intro k hk
    refine AWP.seq ?_
    refine AWP.region ?_
    refine AOps.step rfl rfl rfl (AOp.lss rfl rfl rfl) ?_
    refine AOps.nil ?_
    refine AWP.seq ?_
    refine AWP.cond rfl (fun h2 => ?_) (fun h2 => ?_)
    · replace h2 := of_decide_eq_true h2
      rw [List.length_map] at h2
      have hlt : k < l.length := by omega
      have hbk := hb _ (List.getElem_mem hlt)
      refine AWP.skip ?_
      refine AWP.seq ?_
      refine AWP.block ?_
      refine AWP.seq ?_
      refine AWP.region ?_
      refine AOps.step rfl rfl rfl (AOp.moveD rfl rfl) ?_
      refine AOps.step rfl rfl rfl (AOp.indexAddr rfl et_22 rfl rfl k rfl (at_lst hlt) rfl) ?_
      refine AOps.step rfl rfl rfl (AOp.loadAgg rfl ag_76 rfl rfl) ?_
      refine AOps.alloc 101 rfl rfl rfl rfl zt_76 rfl rfl rfl ?_
      refine AOps.step rfl rfl rfl (AOp.assignD rfl rfl) ?_
      refine AOps.store rfl rfl rfl sz_76 rfl (.head _) rfl rfl rfl (Nat.le_of_ble_eq_true rfl) ?_
      refine AOps.freezeCells 4 (ds := l[k].ds) rfl (.head _) ?_
      refine AOps.nil ?_
      refine AWP.block ?_
      refine AWP.seq ?_
      refine AWP.region ?_
      refine AOps.step rfl rfl rfl (AOp.fieldAddr rfl fo_76_0 rfl) ?_
      refine AOps.step rfl rfl rfl (AOp.load rfl sc_9 rfl) ?_
      refine AOps.step rfl rfl rfl (AOp.call rfl (.cons (ArgOk.rfl' rfl) .nil) (c_rName _ hbk.1)) ?_
      refine AOps.step rfl rfl rfl (AOp.not rfl rfl) ?_
      refine AOps.step rfl rfl rfl (AOp.assignD rfl rfl) ?_
      refine AOps.nil ?_
      refine AWP.cond rfl (fun h3 => ?_) (fun h3 => ?_)
      · replace h3 := bnot_t h3
        refine AWP.seq ?_
        refine AWP.region ?_
        refine AOps.step rfl rfl rfl (AOp.assignD rfl rfl) ?_
        refine AOps.nil ?_
        refine AWP.ret ?_
        refine ⟨RetD.eq rfl ?_, trivial⟩
        all_goals (first | rw [HR] | (rw [HX, ffst_hit (f := aliF l) hk.2 (by unfold aliF; rw [dif_pos hlt]; (repeat (first | rw [if_pos (by first | assumption | omega)] | rw [if_neg (by first | assumption | omega)])); first | done | rfl | decide) _ hlt]; unfold aliF; rw [dif_pos hlt]; (repeat (first | rw [if_pos (by first | assumption | omega)] | rw [if_neg (by first | assumption | omega)])); first | done | rfl | decide))
      · replace h3 := bnot_f h3
        have n1 : ¬ nameOk l[k].source = false := by rw [h3]; decide
        refine AWP.seq ?_
        refine AWP.region ?_
        refine AOps.step rfl rfl rfl (AOp.fieldAddr rfl fo_76_1 rfl) ?_
        refine AOps.step rfl rfl rfl (AOp.load rfl sc_9 rfl) ?_
        -- wants the world
        refine AOps.callT rfl rfl rfl hT maxT_stays rfl (.cons (ArgOk.rfl' rfl) .nil) (c_rTitle _ hbk.2) ?_
        refine AOps.step rfl rfl rfl (AOp.not rfl rfl) ?_
        refine AOps.step rfl rfl rfl (AOp.assignD rfl rfl) ?_
        refine AOps.nil ?_
        refine AWP.cond rfl (fun h4 => ?_) (fun h4 => ?_)
        · replace h4 := bnot_t h4
          refine AWP.seq ?_
          refine AWP.region ?_
          refine AOps.step rfl rfl rfl (AOp.assignD rfl rfl) ?_
          refine AOps.nil ?_
          refine AWP.ret ?_
          refine ⟨RetD.eq rfl ?_, trivial⟩
          all_goals (first | rw [HR] | (rw [HX, ffst_hit (f := aliF l) hk.2 (by unfold aliF; rw [dif_pos hlt]; (repeat (first | rw [if_pos (by first | assumption | omega)] | rw [if_neg (by first | assumption | omega)])); first | done | rfl | decide) _ hlt]; unfold aliF; rw [dif_pos hlt]; (repeat (first | rw [if_pos (by first | assumption | omega)] | rw [if_neg (by first | assumption | omega)])); first | done | rfl | decide))
        · replace h4 := bnot_f h4
          have n2 : ¬ titleOk l[k].title = false := by rw [h4]; decide
          refine AWP.seq ?_
          refine AWP.draw (by kernel_rfl) (by kernel_rfl) ?_
          refine DRun.step rfl rfl rfl (AOp.moveD rfl rfl) ?_
          refine DRun.step rfl rfl rfl (AOp.gtr rfl rfl rfl) ?_
          refine DRun.step rfl rfl rfl (AOp.moveD rfl rfl) ?_
          refine DRun.split 28 rfl (fun g5 => ?_) (fun g5 => ?_)
          · replace g5 := of_decide_eq_true g5
            have hk0 : 0 < k := by omega
            refine DRun.step ⟨28, rfl, .inl ⟨_, rfl, rfl⟩⟩ rfl rfl (AOp.fieldAddr rfl fo_76_0 rfl) ?_
            refine DRun.step ⟨28, rfl, .inl ⟨_, rfl, rfl⟩⟩ rfl rfl (AOp.load rfl sc_9 rfl) ?_
            refine DRun.step ⟨28, rfl, .inl ⟨_, rfl, rfl⟩⟩ rfl rfl (AOp.moveD rfl rfl) ?_
            refine DRun.step ⟨28, rfl, .inl ⟨_, rfl, rfl⟩⟩ rfl rfl (AOp.moveD rfl rfl) ?_
            refine DRun.step ⟨28, rfl, .inl ⟨_, rfl, rfl⟩⟩ rfl rfl (AOp.sub64 rfl rfl rfl (by omega) (by omega)) ?_
            refine DRun.step ⟨28, rfl, .inl ⟨_, rfl, rfl⟩⟩ rfl rfl (AOp.indexAddr rfl et_22 rfl rfl (k - 1) (by omega) (at_lst (by omega)) rfl) ?_
            refine DRun.step ⟨28, rfl, .inl ⟨_, rfl, rfl⟩⟩ rfl rfl (AOp.fieldAddr rfl fo_76_0 rfl) ?_
            refine DRun.step ⟨28, rfl, .inl ⟨_, rfl, rfl⟩⟩ rfl rfl (AOp.load rfl sc_9 rfl) ?_
            refine DRun.step ⟨28, rfl, .inl ⟨_, rfl, rfl⟩⟩ rfl rfl (AOp.slss rfl rfl rfl) ?_
            refine DRun.step ⟨28, rfl, .inl ⟨_, rfl, rfl⟩⟩ rfl rfl (AOp.moveD rfl rfl) ?_
            refine DRun.split 38 rfl (fun g6 => ?_) (fun g6 => ?_)
            · skip
              have n3 : (0 < k ∧ 0 ≤ aliCmp (l[k-1]'(by omega)) l[k]) := ⟨hk0, ali_1 g6⟩
              refine DRun.pass ⟨38, rfl, .inl ⟨_, rfl, rfl⟩⟩ rfl rfl ?_
              refine DRun.pass ⟨38, rfl, .inl ⟨_, rfl, rfl⟩⟩ rfl rfl ?_
              refine DRun.pass ⟨38, rfl, .inl ⟨_, rfl, rfl⟩⟩ rfl rfl ?_
              refine DRun.pass ⟨38, rfl, .inl ⟨_, rfl, rfl⟩⟩ rfl rfl ?_
              refine DRun.pass ⟨38, rfl, .inl ⟨_, rfl, rfl⟩⟩ rfl rfl ?_
              refine DRun.pass ⟨38, rfl, .inl ⟨_, rfl, rfl⟩⟩ rfl rfl ?_
              refine DRun.pass ⟨38, rfl, .inl ⟨_, rfl, rfl⟩⟩ rfl rfl ?_
              refine DRun.pass ⟨38, rfl, .inl ⟨_, rfl, rfl⟩⟩ rfl rfl ?_
              refine DRun.pass ⟨38, rfl, .inl ⟨_, rfl, rfl⟩⟩ rfl rfl ?_
              refine DRun.pass ⟨38, rfl, .inl ⟨_, rfl, rfl⟩⟩ rfl rfl ?_
              refine DRun.pass ⟨48, rfl, .inr ⟨rfl, rfl⟩⟩ rfl rfl ?_
              refine DRun.pass ⟨48, rfl, .inr ⟨rfl, rfl⟩⟩ rfl rfl ?_
              refine DRun.pass ⟨48, rfl, .inr ⟨rfl, rfl⟩⟩ rfl rfl ?_
              refine DRun.pass ⟨48, rfl, .inr ⟨rfl, rfl⟩⟩ rfl rfl ?_
              refine DRun.pass ⟨48, rfl, .inr ⟨rfl, rfl⟩⟩ rfl rfl ?_
              refine DRun.pass ⟨48, rfl, .inr ⟨rfl, rfl⟩⟩ rfl rfl ?_
              refine DRun.pass ⟨48, rfl, .inr ⟨rfl, rfl⟩⟩ rfl rfl ?_
              refine DRun.pass ⟨48, rfl, .inr ⟨rfl, rfl⟩⟩ rfl rfl ?_
              refine DRun.pass ⟨48, rfl, .inr ⟨rfl, rfl⟩⟩ rfl rfl ?_
              refine DRun.pass ⟨38, rfl, .inl ⟨_, rfl, rfl⟩⟩ rfl rfl ?_
              refine DRun.step ⟨28, rfl, .inl ⟨_, rfl, rfl⟩⟩ rfl rfl (AOp.pickT rfl rfl rfl) ?_
              refine DRun.step rfl rfl rfl (AOp.pickT rfl rfl rfl) ?_
              refine DRun.step rfl rfl rfl (AOp.assignD rfl rfl) ?_
              refine DRun.nil ?_
              refine AWP.cond rfl (fun _ => ?_) (fun h => nomatch h)
              refine AWP.seq ?_
              refine AWP.region ?_
              refine AOps.step rfl rfl rfl (AOp.assignD rfl rfl) ?_
              refine AOps.nil ?_
              refine AWP.ret ?_
              refine ⟨RetD.eq rfl ?_, trivial⟩
              all_goals (first | rw [HR] | (rw [HX, ffst_hit (f := aliF l) hk.2 (by unfold aliF; rw [dif_pos hlt]; (repeat (first | rw [if_pos (by first | assumption | omega)] | rw [if_neg (by first | assumption | omega)])); first | done | rfl | decide) _ hlt]; unfold aliF; rw [dif_pos hlt]; (repeat (first | rw [if_pos (by first | assumption | omega)] | rw [if_neg (by first | assumption | omega)])); first | done | rfl | decide))
            · skip
              have hs0 := g6
              refine DRun.step ⟨38, rfl, .inl ⟨_, rfl, rfl⟩⟩ rfl rfl (AOp.fieldAddr rfl fo_76_0 rfl) ?_
              refine DRun.step ⟨38, rfl, .inl ⟨_, rfl, rfl⟩⟩ rfl rfl (AOp.load rfl sc_9 rfl) ?_
              refine DRun.step ⟨38, rfl, .inl ⟨_, rfl, rfl⟩⟩ rfl rfl (AOp.moveD rfl rfl) ?_
              refine DRun.step ⟨38, rfl, .inl ⟨_, rfl, rfl⟩⟩ rfl rfl (AOp.moveD rfl rfl) ?_
              refine DRun.step ⟨38, rfl, .inl ⟨_, rfl, rfl⟩⟩ rfl rfl (AOp.sub64 rfl rfl rfl (by omega) (by omega)) ?_
              refine DRun.step ⟨38, rfl, .inl ⟨_, rfl, rfl⟩⟩ rfl rfl (AOp.indexAddr rfl et_22 rfl rfl (k - 1) (by omega) (at_lst (by omega)) rfl) ?_
              refine DRun.step ⟨38, rfl, .inl ⟨_, rfl, rfl⟩⟩ rfl rfl (AOp.fieldAddr rfl fo_76_0 rfl) ?_
              refine DRun.step ⟨38, rfl, .inl ⟨_, rfl, rfl⟩⟩ rfl rfl (AOp.load rfl sc_9 rfl) ?_
              refine DRun.step ⟨38, rfl, .inl ⟨_, rfl, rfl⟩⟩ rfl rfl (AOp.seql rfl rfl rfl) ?_
              refine DRun.step ⟨38, rfl, .inl ⟨_, rfl, rfl⟩⟩ rfl rfl (AOp.moveD rfl rfl) ?_
              refine DRun.split 48 rfl (fun g7 => ?_) (fun g7 => ?_)
              · replace g7 := of_decide_eq_true g7
                have hse := g7
                refine DRun.step ⟨48, rfl, .inl ⟨_, rfl, rfl⟩⟩ rfl rfl (AOp.fieldAddr rfl fo_76_1 rfl) ?_
                refine DRun.step ⟨48, rfl, .inl ⟨_, rfl, rfl⟩⟩ rfl rfl (AOp.load rfl sc_9 rfl) ?_
                refine DRun.step ⟨48, rfl, .inl ⟨_, rfl, rfl⟩⟩ rfl rfl (AOp.moveD rfl rfl) ?_
                refine DRun.step ⟨48, rfl, .inl ⟨_, rfl, rfl⟩⟩ rfl rfl (AOp.moveD rfl rfl) ?_
                refine DRun.step ⟨48, rfl, .inl ⟨_, rfl, rfl⟩⟩ rfl rfl (AOp.sub64 rfl rfl rfl (by omega) (by omega)) ?_
                refine DRun.step ⟨48, rfl, .inl ⟨_, rfl, rfl⟩⟩ rfl rfl (AOp.indexAddr rfl et_22 rfl rfl (k - 1) (by omega) (at_lst (by omega)) rfl) ?_
                refine DRun.step ⟨48, rfl, .inl ⟨_, rfl, rfl⟩⟩ rfl rfl (AOp.fieldAddr rfl fo_76_1 rfl) ?_
                refine DRun.step ⟨48, rfl, .inl ⟨_, rfl, rfl⟩⟩ rfl rfl (AOp.load rfl sc_9 rfl) ?_
                refine DRun.step ⟨48, rfl, .inl ⟨_, rfl, rfl⟩⟩ rfl rfl (AOp.sleq rfl rfl rfl) ?_
                refine DRun.step ⟨38, rfl, .inl ⟨_, rfl, rfl⟩⟩ rfl rfl (AOp.pickT rfl rfl rfl) ?_
                refine DRun.step ⟨28, rfl, .inl ⟨_, rfl, rfl⟩⟩ rfl rfl (AOp.pickF rfl rfl rfl) ?_
                refine DRun.step rfl rfl rfl (AOp.pickT rfl rfl rfl) ?_
                refine DRun.step rfl rfl rfl (AOp.assignD rfl rfl) ?_
                refine DRun.nil ?_
                refine AWP.cond rfl (fun h8 => ?_) (fun h8 => ?_)
                · skip
                  have n3 : (0 < k ∧ 0 ≤ aliCmp (l[k-1]'(by omega)) l[k]) := ⟨hk0, (ali_3 hse).2 h8⟩
                  refine AWP.seq ?_
                  refine AWP.region ?_
                  refine AOps.step rfl rfl rfl (AOp.assignD rfl rfl) ?_
                  refine AOps.nil ?_
                  refine AWP.ret ?_
                  refine ⟨RetD.eq rfl ?_, trivial⟩
                  all_goals (first | rw [HR] | (rw [HX, ffst_hit (f := aliF l) hk.2 (by unfold aliF; rw [dif_pos hlt]; (repeat (first | rw [if_pos (by first | assumption | omega)] | rw [if_neg (by first | assumption | omega)])); first | done | rfl | decide) _ hlt]; unfold aliF; rw [dif_pos hlt]; (repeat (first | rw [if_pos (by first | assumption | omega)] | rw [if_neg (by first | assumption | omega)])); first | done | rfl | decide))
                · skip
                  have n3 : ¬ (0 < k ∧ 0 ≤ aliCmp (l[k-1]'(by omega)) l[k]) := fun hh => by have h5 := (ali_3 hse).1 hh.2; rw [show sle l[k].title (l[k-1]'(by omega)).title = false from h8] at h5; cases h5
                  refine AWP.seq ?_
                  refine AWP.region ?_
                  refine AOps.step rfl rfl rfl (AOp.fieldAddr rfl fo_76_2 rfl) ?_
                  refine AOps.step rfl rfl rfl (AOp.load rfl sc_3 rfl) ?_
                  refine AOps.step rfl rfl rfl (AOp.call rfl (.cons (ArgOk.rfl' rfl) (.cons (ArgOk.rfl' rfl) (.cons (ArgOk.rfl' rfl) .nil))) (c_rIn _ _ _)) ?_
                  refine AOps.step rfl rfl rfl (AOp.not rfl rfl) ?_
                  refine AOps.step rfl rfl rfl (AOp.assignD rfl rfl) ?_
                  refine AOps.nil ?_
                  refine AWP.cond rfl (fun h9 => ?_) (fun h9 => ?_)
                  · replace h9 := bnot_t h9; replace h9 := of_decide_eq_false h9
                    refine AWP.seq ?_
                    refine AWP.region ?_
                    refine AOps.step rfl rfl rfl (AOp.assignD rfl rfl) ?_
                    refine AOps.nil ?_
                    refine AWP.ret ?_
                    refine ⟨RetD.eq rfl ?_, trivial⟩
                    all_goals (first | rw [HR] | (rw [HX, ffst_hit (f := aliF l) hk.2 (by unfold aliF; rw [dif_pos hlt]; (repeat (first | rw [if_pos (by first | assumption | omega)] | rw [if_neg (by first | assumption | omega)])); first | done | rfl | decide) _ hlt]; unfold aliF; rw [dif_pos hlt]; (repeat (first | rw [if_pos (by first | assumption | omega)] | rw [if_neg (by first | assumption | omega)])); first | done | rfl | decide))
                  · replace h9 := bnot_f h9; replace h9 := of_decide_eq_true h9
                    refine AWP.skip ?_
                    refine AWP.region ?_
                    refine AOps.step rfl rfl rfl (AOp.add64 rfl rfl rfl (by omega) (by omega)) ?_
                    refine AOps.step rfl rfl rfl (AOp.moveD rfl rfl) ?_
                    refine AOps.nil ?_
                    refine ⟨k + 1, ⟨by omega, ffst_next hk.2 (by unfold aliF; rw [dif_pos hlt]; (repeat (first | rw [if_pos (by first | assumption | omega)] | rw [if_neg (by first | assumption | omega)])); first | done | rfl | decide)⟩, (by dsimp only; omega), Sub.less ⟨(SLe.of_eq rfl), SLe.refl _, SLe.refl _, SLe.refl _, trivial⟩ (fun _ h => h)⟩
              · replace g7 := of_decide_eq_false g7
                have n3 : ¬ (0 < k ∧ 0 ≤ aliCmp (l[k-1]'(by omega)) l[k]) := fun hh => ali_2 hs0 g7 hh.2
                refine DRun.pass ⟨48, rfl, .inl ⟨_, rfl, rfl⟩⟩ rfl rfl ?_
                refine DRun.pass ⟨48, rfl, .inl ⟨_, rfl, rfl⟩⟩ rfl rfl ?_
                refine DRun.pass ⟨48, rfl, .inl ⟨_, rfl, rfl⟩⟩ rfl rfl ?_
                refine DRun.pass ⟨48, rfl, .inl ⟨_, rfl, rfl⟩⟩ rfl rfl ?_
                refine DRun.pass ⟨48, rfl, .inl ⟨_, rfl, rfl⟩⟩ rfl rfl ?_
                refine DRun.pass ⟨48, rfl, .inl ⟨_, rfl, rfl⟩⟩ rfl rfl ?_
                refine DRun.pass ⟨48, rfl, .inl ⟨_, rfl, rfl⟩⟩ rfl rfl ?_
                refine DRun.pass ⟨48, rfl, .inl ⟨_, rfl, rfl⟩⟩ rfl rfl ?_
                refine DRun.pass ⟨48, rfl, .inl ⟨_, rfl, rfl⟩⟩ rfl rfl ?_
                refine DRun.step ⟨38, rfl, .inl ⟨_, rfl, rfl⟩⟩ rfl rfl (AOp.pickF rfl rfl rfl) ?_
                refine DRun.step ⟨28, rfl, .inl ⟨_, rfl, rfl⟩⟩ rfl rfl (AOp.pickF rfl rfl rfl) ?_
                refine DRun.step rfl rfl rfl (AOp.pickT rfl rfl rfl) ?_
                refine DRun.step rfl rfl rfl (AOp.assignD rfl rfl) ?_
                refine DRun.nil ?_
                refine AWP.cond rfl (fun h => nomatch h) (fun _ => ?_)
                refine AWP.seq ?_
                refine AWP.region ?_
                refine AOps.step rfl rfl rfl (AOp.fieldAddr rfl fo_76_2 rfl) ?_
                refine AOps.step rfl rfl rfl (AOp.load rfl sc_3 rfl) ?_
                refine AOps.step rfl rfl rfl (AOp.call rfl (.cons (ArgOk.rfl' rfl) (.cons (ArgOk.rfl' rfl) (.cons (ArgOk.rfl' rfl) .nil))) (c_rIn _ _ _)) ?_
                refine AOps.step rfl rfl rfl (AOp.not rfl rfl) ?_
                refine AOps.step rfl rfl rfl (AOp.assignD rfl rfl) ?_
                refine AOps.nil ?_
                refine AWP.cond rfl (fun h10 => ?_) (fun h10 => ?_)
                · replace h10 := bnot_t h10; replace h10 := of_decide_eq_false h10
                  refine AWP.seq ?_
                  refine AWP.region ?_
                  refine AOps.step rfl rfl rfl (AOp.assignD rfl rfl) ?_
                  refine AOps.nil ?_
                  refine AWP.ret ?_
                  refine ⟨RetD.eq rfl ?_, trivial⟩
                  all_goals (first | rw [HR] | (rw [HX, ffst_hit (f := aliF l) hk.2 (by unfold aliF; rw [dif_pos hlt]; (repeat (first | rw [if_pos (by first | assumption | omega)] | rw [if_neg (by first | assumption | omega)])); first | done | rfl | decide) _ hlt]; unfold aliF; rw [dif_pos hlt]; (repeat (first | rw [if_pos (by first | assumption | omega)] | rw [if_neg (by first | assumption | omega)])); first | done | rfl | decide))
                · replace h10 := bnot_f h10; replace h10 := of_decide_eq_true h10
                  refine AWP.skip ?_
                  refine AWP.region ?_
                  refine AOps.step rfl rfl rfl (AOp.add64 rfl rfl rfl (by omega) (by omega)) ?_
                  refine AOps.step rfl rfl rfl (AOp.moveD rfl rfl) ?_
                  refine AOps.nil ?_
                  refine ⟨k + 1, ⟨by omega, ffst_next hk.2 (by unfold aliF; rw [dif_pos hlt]; (repeat (first | rw [if_pos (by first | assumption | omega)] | rw [if_neg (by first | assumption | omega)])); first | done | rfl | decide)⟩, (by dsimp only; omega), Sub.less ⟨(SLe.of_eq rfl), SLe.refl _, SLe.refl _, SLe.refl _, trivial⟩ (fun _ h => h)⟩
          · replace g5 := of_decide_eq_false g5
            have n3 : ¬ (0 < k ∧ 0 ≤ aliCmp (l[k-1]'(by omega)) l[k]) := fun hh => by omega
            refine DRun.pass ⟨28, rfl, .inl ⟨_, rfl, rfl⟩⟩ rfl rfl ?_
            refine DRun.pass ⟨28, rfl, .inl ⟨_, rfl, rfl⟩⟩ rfl rfl ?_
            refine DRun.pass ⟨28, rfl, .inl ⟨_, rfl, rfl⟩⟩ rfl rfl ?_
            refine DRun.pass ⟨28, rfl, .inl ⟨_, rfl, rfl⟩⟩ rfl rfl ?_
            refine DRun.pass ⟨28, rfl, .inl ⟨_, rfl, rfl⟩⟩ rfl rfl ?_
            refine DRun.pass ⟨28, rfl, .inl ⟨_, rfl, rfl⟩⟩ rfl rfl ?_
            refine DRun.pass ⟨28, rfl, .inl ⟨_, rfl, rfl⟩⟩ rfl rfl ?_
            refine DRun.pass ⟨28, rfl, .inl ⟨_, rfl, rfl⟩⟩ rfl rfl ?_
            refine DRun.pass ⟨28, rfl, .inl ⟨_, rfl, rfl⟩⟩ rfl rfl ?_
            refine DRun.pass ⟨28, rfl, .inl ⟨_, rfl, rfl⟩⟩ rfl rfl ?_
            refine DRun.pass ⟨38, rfl, .inr ⟨rfl, rfl⟩⟩ rfl rfl ?_
            refine DRun.pass ⟨38, rfl, .inr ⟨rfl, rfl⟩⟩ rfl rfl ?_
            refine DRun.pass ⟨38, rfl, .inr ⟨rfl, rfl⟩⟩ rfl rfl ?_
            refine DRun.pass ⟨38, rfl, .inr ⟨rfl, rfl⟩⟩ rfl rfl ?_
            refine DRun.pass ⟨38, rfl, .inr ⟨rfl, rfl⟩⟩ rfl rfl ?_
            refine DRun.pass ⟨38, rfl, .inr ⟨rfl, rfl⟩⟩ rfl rfl ?_
            refine DRun.pass ⟨38, rfl, .inr ⟨rfl, rfl⟩⟩ rfl rfl ?_
            refine DRun.pass ⟨38, rfl, .inr ⟨rfl, rfl⟩⟩ rfl rfl ?_
            refine DRun.pass ⟨38, rfl, .inr ⟨rfl, rfl⟩⟩ rfl rfl ?_
            refine DRun.pass ⟨38, rfl, .inr ⟨rfl, rfl⟩⟩ rfl rfl ?_
            refine DRun.pass ⟨48, rfl, .inr ⟨rfl, rfl⟩⟩ rfl rfl ?_
            refine DRun.pass ⟨48, rfl, .inr ⟨rfl, rfl⟩⟩ rfl rfl ?_
            refine DRun.pass ⟨48, rfl, .inr ⟨rfl, rfl⟩⟩ rfl rfl ?_
            refine DRun.pass ⟨48, rfl, .inr ⟨rfl, rfl⟩⟩ rfl rfl ?_
            refine DRun.pass ⟨48, rfl, .inr ⟨rfl, rfl⟩⟩ rfl rfl ?_
            refine DRun.pass ⟨48, rfl, .inr ⟨rfl, rfl⟩⟩ rfl rfl ?_
            refine DRun.pass ⟨48, rfl, .inr ⟨rfl, rfl⟩⟩ rfl rfl ?_
            refine DRun.pass ⟨48, rfl, .inr ⟨rfl, rfl⟩⟩ rfl rfl ?_
            refine DRun.pass ⟨48, rfl, .inr ⟨rfl, rfl⟩⟩ rfl rfl ?_
            refine DRun.pass ⟨38, rfl, .inr ⟨rfl, rfl⟩⟩ rfl rfl ?_
            refine DRun.pass ⟨28, rfl, .inl ⟨_, rfl, rfl⟩⟩ rfl rfl ?_
            refine DRun.step rfl rfl rfl (AOp.pickF rfl rfl rfl) ?_
            refine DRun.step rfl rfl rfl (AOp.assignD rfl rfl) ?_
            refine DRun.nil ?_
            refine AWP.cond rfl (fun h => nomatch h) (fun _ => ?_)
            refine AWP.seq ?_
            refine AWP.region ?_
            refine AOps.step rfl rfl rfl (AOp.fieldAddr rfl fo_76_2 rfl) ?_
            refine AOps.step rfl rfl rfl (AOp.load rfl sc_3 rfl) ?_
            refine AOps.step rfl rfl rfl (AOp.call rfl (.cons (ArgOk.rfl' rfl) (.cons (ArgOk.rfl' rfl) (.cons (ArgOk.rfl' rfl) .nil))) (c_rIn _ _ _)) ?_
            refine AOps.step rfl rfl rfl (AOp.not rfl rfl) ?_
            refine AOps.step rfl rfl rfl (AOp.assignD rfl rfl) ?_
            refine AOps.nil ?_
            refine AWP.cond rfl (fun h11 => ?_) (fun h11 => ?_)
            · replace h11 := bnot_t h11; replace h11 := of_decide_eq_false h11
              refine AWP.seq ?_
              refine AWP.region ?_
              refine AOps.step rfl rfl rfl (AOp.assignD rfl rfl) ?_
              refine AOps.nil ?_
              refine AWP.ret ?_
              refine ⟨RetD.eq rfl ?_, trivial⟩
              all_goals (first | rw [HR] | (rw [HX, ffst_hit (f := aliF l) hk.2 (by unfold aliF; rw [dif_pos hlt]; (repeat (first | rw [if_pos (by first | assumption | omega)] | rw [if_neg (by first | assumption | omega)])); first | done | rfl | decide) _ hlt]; unfold aliF; rw [dif_pos hlt]; (repeat (first | rw [if_pos (by first | assumption | omega)] | rw [if_neg (by first | assumption | omega)])); first | done | rfl | decide))
            · replace h11 := bnot_f h11; replace h11 := of_decide_eq_true h11
              refine AWP.skip ?_
              refine AWP.region ?_
              refine AOps.step rfl rfl rfl (AOp.add64 rfl rfl rfl (by omega) (by omega)) ?_
              refine AOps.step rfl rfl rfl (AOp.moveD rfl rfl) ?_
              refine AOps.nil ?_
              refine ⟨k + 1, ⟨by omega, ffst_next hk.2 (by unfold aliF; rw [dif_pos hlt]; (repeat (first | rw [if_pos (by first | assumption | omega)] | rw [if_neg (by first | assumption | omega)])); first | done | rfl | decide)⟩, (by dsimp only; omega), Sub.less ⟨(SLe.of_eq rfl), SLe.refl _, SLe.refl _, SLe.refl _, trivial⟩ (fun _ h => h)⟩
    · replace h2 := of_decide_eq_false h2
      rw [List.length_map] at h2
      have HR : alisF l = 0 := by rw [HX, show l.length = k by omega]; exact hk.2
      refine AWP.exit ?_
      refine AWP.seq ?_
      refine AWP.region ?_
      refine AOps.step rfl rfl rfl (AOp.assignD rfl rfl) ?_
      refine AOps.nil ?_
      refine AWP.ret ?_
      refine ⟨RetD.eq rfl ?_, trivial⟩
      all_goals (first | rw [HR] | (rw [HX, ffst_hit (f := aliF l) hk.2 (by unfold aliF; rw [dif_pos hlt]; (repeat (first | rw [if_pos (by first | assumption | omega)] | rw [if_neg (by first | assumption | omega)])); first | done | rfl | decide) _ hlt]; unfold aliF; rw [dif_pos hlt]; (repeat (first | rw [if_pos (by first | assumption | omega)] | rw [if_neg (by first | assumption | omega)])); first | done | rfl | decide))

end Go.Proofs.YtfajemnegkfigaaDoor
