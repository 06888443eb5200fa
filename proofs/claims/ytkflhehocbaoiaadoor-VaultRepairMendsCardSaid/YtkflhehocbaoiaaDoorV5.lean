/- Walks over abstract values. Printed by tools/gen.py. No statement of the seat. -/
import Derived.Test.YtkflhehocbaoiaaDoorV4
namespace Go.Proofs.YtkflhehocbaoiaaDoor
open Go.RowKit
set_option linter.unusedVariables false

/-! Types. -/
namespace TyV5
theorem ag_25 : AggT Tryd.prog 25 4 := .of (by kernel_rfl)
theorem et_22 : ElemTy Tryd.prog 22 5 1 1 (.int .u8 0) := ⟨by kernel_rfl, by kernel_rfl, by kernel_rfl, by decide⟩
theorem et_23 : ElemTy Tryd.prog 23 50 1 4 (.int .u32 0) := ⟨by kernel_rfl, by kernel_rfl, by kernel_rfl, by decide⟩
theorem et_34 : ElemTy Tryd.prog 34 3 1 8 (.int .i64 0) := ⟨by kernel_rfl, by kernel_rfl, by kernel_rfl, by decide⟩
theorem fo_25_1 : fieldOff Tryd.prog 25 1 = some 1 := by kernel_rfl
theorem fo_25_3 : fieldOff Tryd.prog 25 3 = some 3 := by kernel_rfl
theorem sc_23 : Scal Tryd.prog 23 := .of (by kernel_rfl)
theorem sc_3 : Scal Tryd.prog 3 := .of (by kernel_rfl)
end TyV5
open TyV5


/-- A good manifest in natural numbers. -/
theorem man_good {m : Man} (h : manFault m = 0) : ∃ n b : Nat, m = ⟨m.item, n, b, m.sums⟩ ∧ 1 ≤ b ∧ b ≤ 20000 ∧ n ≤ 20000 ∧ m.sums.length ≤ 1000 ∧ m.sums.length = nblk n b := by
  unfold manFault at h
  split at h
  · simp at h
  split at h
  · simp at h
  split at h
  · simp at h
  split at h
  · simp at h
  rename_i h1 h2 h3 h4
  obtain ⟨n, hn⟩ := Int.eq_ofNat_of_zero_le (show 0 ≤ m.size by omega)
  obtain ⟨b, hb⟩ := Int.eq_ofNat_of_zero_le (show 0 ≤ m.block by omega)
  have h5 : nblocks m.size m.block = ((nblk n b : Nat) : Int) := by rw [hn, hb]; exact nblocks_nat n b (by omega)
  rw [h5] at h3 h4
  refine ⟨n, b, ?_, by omega, by omega, by omega, by omega, by omega⟩
  cases m
  simp_all
def badOf (n b : Nat) (sums : List Nat) (bs : List UInt8) (k : Nat) : List Nat := (List.range k).filter fun i => !rightB n b sums (bs.take n) i
theorem badOf_succ (n b : Nat) (sums : List Nat) (bs : List UInt8) (k : Nat) : badOf n b sums bs (k + 1) = badOf n b sums bs k ++ if rightB n b sums (bs.take n) k then [] else [k] := by
  unfold badOf
  rw [List.range_succ, List.filter_append]
  cases h : rightB n b sums (bs.take n) k <;> simp [h]
theorem badOf_len (n b : Nat) (sums : List Nat) (bs : List UInt8) (k : Nat) : (badOf n b sums bs k).length ≤ k := by
  unfold badOf
  exact Nat.le_trans (List.length_filter_le _ _) (by simp)
def natD (n : Nat) : List D := [.v (.int .i64 (n : Int))]
def damRes (m : Man) (bs : List UInt8) : List Nat × Int :=
  if manFault m ≠ 0 then ([], manFault m) else if 40000 < (bs.length : Int) then ([], 2) else (badOf m.size.toNat m.block.toNat m.sums bs m.sums.length ++ (if m.size < bs.length then [m.sums.length] else []), 0)
theorem damRes_good (item : ByteArray) (n b : Nat) (sums : List Nat) (bs : List UInt8) (h0 : manFault ⟨item, n, b, sums⟩ = 0) (h1 : ¬ 40000 < (bs.length : Int)) : damRes ⟨item, n, b, sums⟩ bs = (badOf n b sums bs sums.length ++ (if (n : Int) < bs.length then [sums.length] else []), 0) := by
  unfold damRes
  rw [if_neg (by rw [h0]; simp), if_neg h1]
  rfl


set_option maxRecDepth 100000 in
set_option maxHeartbeats 1000000 in
theorem c_pDam (m : Man) (bs : List UInt8) (hs : m.item.size ≤ 9223372036854775807) : ACall Tryd.prog 11 [.agg m.ds, .sl (bs.map u8D)] (.tup [.sl ((damRes m bs).1.map natD), .v (.int .i64 (damRes m bs).2)]) := by
  refine acall_of (n := 47) (ds' := [.sl ((damRes m bs).1.map natD), .v (.int .i64 (damRes m bs).2)]) Tryd.func11 rfl (by kernel_rfl) rfl [4, 5] rfl rfl ?_
  intro B w0 F0
  refine AWP.seq ?_
  refine AWP.region ?_
  refine AOps.step rfl rfl rfl (AOp.box rfl rfl rfl) ?_
  refine AOps.step rfl rfl rfl (AOp.assignD rfl rfl) ?_
  refine AOps.step rfl rfl rfl (AOp.assignD rfl rfl) ?_
  refine AOps.nil ?_
  refine AWP.seq ?_
  refine AWP.seq ?_
  refine AWP.region ?_
  refine AOps.step rfl rfl rfl (AOp.loadAgg rfl ag_25 rfl rfl) ?_
  refine AOps.step rfl rfl rfl (AOp.call rfl (.cons (ArgOk.rfl' rfl) .nil) (c_pMan m hs)) ?_
  refine AOps.step rfl rfl rfl (AOp.assignD rfl rfl) ?_
  refine AOps.nil ?_
  refine AWP.seq ?_
  refine AWP.region ?_
  refine AOps.step rfl rfl rfl (AOp.moveD rfl rfl) ?_
  refine AOps.step rfl rfl rfl (AOp.neq rfl rfl rfl) ?_
  refine AOps.nil ?_
  refine AWP.cond rfl (fun h1 => ?_) (fun h1 => ?_)
  · replace h1 := of_decide_eq_true h1
    have HR : damRes m bs = ([], manFault m) := by unfold damRes; rw [if_pos h1]
    rw [HR]
    refine AWP.seq ?_
    refine AWP.region ?_
    refine AOps.step rfl rfl rfl (AOp.moveD rfl rfl) ?_
    refine AOps.step rfl rfl rfl (AOp.assignD rfl rfl) ?_
    refine AOps.step rfl rfl rfl (AOp.assignD rfl rfl) ?_
    refine AOps.nil ?_
    refine AWP.ret ?_
    refine ⟨RetD.nil rfl, RetD.eq rfl ?_, trivial⟩
    all_goals (first | rfl | (rw [List.map_append, List.length_map]; rfl))
  · replace h1 := of_decide_eq_false h1
    refine AWP.skip ?_
    refine AWP.seq ?_
    refine AWP.seq ?_
    refine AWP.region ?_
    refine AOps.step rfl rfl rfl (AOp.moveD rfl rfl) ?_
    refine AOps.step rfl rfl rfl (AOp.lenSl rfl et_22.ht rfl) ?_
    refine AOps.step rfl rfl rfl (AOp.gtr rfl rfl rfl) ?_
    refine AOps.nil ?_
    refine AWP.cond rfl (fun h2 => ?_) (fun h2 => ?_)
    · replace h2 := of_decide_eq_true h2
      rw [List.length_map] at h2
      have HR : damRes m bs = ([], 2) := by unfold damRes; rw [if_neg h1, if_pos h2]
      rw [HR]
      refine AWP.seq ?_
      refine AWP.region ?_
      refine AOps.step rfl rfl rfl (AOp.assignD rfl rfl) ?_
      refine AOps.step rfl rfl rfl (AOp.assignD rfl rfl) ?_
      refine AOps.nil ?_
      refine AWP.ret ?_
      refine ⟨RetD.nil rfl, RetD.eq rfl ?_, trivial⟩
      all_goals (first | rfl | (rw [List.map_append, List.length_map]; rfl))
    · replace h2 := of_decide_eq_false h2
      rw [List.length_map] at h2
      obtain ⟨n, b, hm, hb1, hb2, hn, hl, hl2⟩ := man_good (Decidable.not_not.1 h1)
      obtain ⟨item, sz, bk, sums⟩ := m
      simp only [Man.mk.injEq, true_and, and_true] at hm
      obtain ⟨rfl, rfl⟩ := hm
      dsimp only at hl hl2
      have HR := damRes_good item n b sums bs (Decidable.not_not.1 h1) h2
      rw [HR]
      have HM : Man.ds ⟨item, n, b, sums⟩ = manD item n b sums := rfl
      rw [HM]
      have HC : ∀ k, (badOf n b sums bs k).length ≤ k := badOf_len n b sums bs
      refine AWP.skip ?_
      refine AWP.seq ?_
      refine AWP.region ?_
      refine AOps.step rfl rfl rfl (AOp.assignD rfl rfl) ?_
      refine AOps.nil ?_
      refine AWP.seq ?_
      refine AWP.seq ?_
      refine AWP.region ?_
      refine AOps.step rfl rfl rfl (AOp.fieldAddr rfl fo_25_3 rfl) ?_
      refine AOps.step rfl rfl rfl (AOp.load rfl sc_23 rfl) ?_
      refine AOps.step rfl rfl rfl (AOp.lenSl rfl et_23.ht rfl) ?_
      refine AOps.step rfl rfl rfl (AOp.moveD rfl rfl) ?_
      refine AOps.nil ?_
      refine AWP.block ?_
      refine AWP.adopt 7 1 3 1 rfl rfl ?_
      refine AWP.loop (G := Nat) (fun k => Env.of [(20, .d (.v (.int .i64 (k : Int)))), (1, .d (.sl (bs.map u8D))), (2, .d (.fp (manD item n b sums))), (19, .d (.v (.int .i64 ((sums.map u32D).length : Int)))), (7, .own 1)]) (fun k => [(1, .row 3 1 ((badOf n b sums bs k).map natD))]) (fun k => k ≤ sums.length) (fun k => sums.length - k) 0 (Nat.zero_le _) (Sub.less ⟨(SLe.of_eq rfl), SLe.refl _, SLe.refl _, SLe.refl _, SLe.refl _, trivial⟩ (fun _ h => h)) ?_
      intro k hk
      refine AWP.seq ?_
      refine AWP.region ?_
      refine AOps.step rfl rfl rfl (AOp.lss rfl rfl rfl) ?_
      refine AOps.nil ?_
      refine AWP.seq ?_
      refine AWP.cond rfl (fun h3 => ?_) (fun h3 => ?_)
      · replace h3 := of_decide_eq_true h3
        rw [List.length_map] at h3
        have hlt : k < sums.length := by omega
        have hkb : k * b ≤ n := Nat.le_of_lt ((nblk_lt n b k hb1).2 (by omega))
        have HS := badOf_succ n b sums bs k
        have HCk := HC k
        refine AWP.skip ?_
        refine AWP.seq ?_
        refine AWP.block ?_
        refine AWP.seq ?_
        refine AWP.region ?_
        refine AOps.step rfl rfl rfl (AOp.moveD rfl rfl) ?_
        refine AOps.step rfl rfl rfl (AOp.assignD rfl rfl) ?_
        refine AOps.nil ?_
        refine AWP.seq ?_
        refine AWP.draw (by kernel_rfl) (by kernel_rfl) ?_
        refine DRun.step rfl rfl rfl (AOp.loadAgg rfl ag_25 rfl rfl) ?_
        refine DRun.step rfl rfl rfl (AOp.loadAgg rfl ag_25 rfl rfl) ?_
        refine DRun.step rfl rfl rfl (AOp.moveD rfl rfl) ?_
        refine DRun.step rfl rfl rfl (AOp.call rfl (.cons (ArgOk.rfl' rfl) (.cons (ArgOk.rfl' rfl) .nil)) (c_whole item n b sums bs)) ?_
        refine DRun.step rfl rfl rfl (AOp.moveD rfl rfl) ?_
        refine DRun.step rfl rfl rfl (AOp.call rfl (.cons (ArgOk.rfl' rfl) (.cons (ArgOk.rfl' rfl) (.cons (ArgOk.rfl' rfl) .nil))) (c_pright item n b sums (bs.take n) k hb2 hn hl hlt)) ?_
        refine DRun.step rfl rfl rfl (AOp.not rfl rfl) ?_
        refine DRun.nil ?_
        refine AWP.cond rfl (fun h4 => ?_) (fun h4 => ?_)
        · replace h4 := bnot_t h4
          rw [h4, if_neg (by simp)] at HS
          refine AWP.region ?_
          refine AOps.step rfl rfl rfl (AOp.moveO rfl rfl) ?_
          refine AOps.step rfl rfl rfl (AOp.moveD rfl rfl) ?_
          refine AOps.step rfl rfl rfl (AOp.buildSlice rfl et_34 (.cons rfl rfl rfl .nil) rfl (by decide)) ?_
          -- append 33
          refine AOps.append rfl rfl rfl rfl et_34 rfl (.head _) rfl (by simp [D.parts]) (by simp; omega) (by simp; omega) ?_
          refine AOps.step rfl rfl rfl (AOp.assignO rfl rfl) ?_
          refine AOps.nil ?_
          refine AWP.region ?_
          refine AOps.step rfl rfl rfl (AOp.add64 rfl rfl rfl (by omega) (by omega)) ?_
          refine AOps.step rfl rfl rfl (AOp.moveD rfl rfl) ?_
          refine AOps.nil ?_
          refine ⟨k + 1, (by omega), (by dsimp only; omega), Sub.less ⟨(SLe.of_eq rfl), SLe.refl _, SLe.refl _, SLe.refl _, SLe.refl _, trivial⟩ (by dsimp only; rw [HS, List.map_append]; exact fun _ h => h)⟩
        · replace h4 := bnot_f h4
          rw [h4, if_pos rfl, List.append_nil] at HS
          refine AWP.skip ?_
          refine AWP.region ?_
          refine AOps.step rfl rfl rfl (AOp.add64 rfl rfl rfl (by omega) (by omega)) ?_
          refine AOps.step rfl rfl rfl (AOp.moveD rfl rfl) ?_
          refine AOps.nil ?_
          refine ⟨k + 1, (by omega), (by dsimp only; omega), Sub.less ⟨(SLe.of_eq rfl), SLe.refl _, SLe.refl _, SLe.refl _, SLe.refl _, trivial⟩ (by dsimp only; rw [HS]; exact fun _ h => h)⟩
      · replace h3 := of_decide_eq_false h3
        rw [List.length_map] at h3
        obtain rfl : k = sums.length := by omega
        have HCk := HC sums.length
        refine AWP.exit ?_
        refine AWP.seq ?_
        refine AWP.seq ?_
        refine AWP.region ?_
        refine AOps.step rfl rfl rfl (AOp.moveD rfl rfl) ?_
        refine AOps.step rfl rfl rfl (AOp.lenSl rfl et_22.ht rfl) ?_
        refine AOps.step rfl rfl rfl (AOp.fieldAddr rfl fo_25_1 rfl) ?_
        refine AOps.step rfl rfl rfl (AOp.load rfl sc_3 rfl) ?_
        refine AOps.step rfl rfl rfl (AOp.gtr rfl rfl rfl) ?_
        refine AOps.nil ?_
        refine AWP.cond rfl (fun h5 => ?_) (fun h5 => ?_)
        · replace h5 := of_decide_eq_true h5
          rw [List.length_map] at h5
          rw [if_pos h5]
          refine AWP.region ?_
          refine AOps.step rfl rfl rfl (AOp.moveO rfl rfl) ?_
          refine AOps.step rfl rfl rfl (AOp.fieldAddr rfl fo_25_3 rfl) ?_
          refine AOps.step rfl rfl rfl (AOp.load rfl sc_23 rfl) ?_
          refine AOps.step rfl rfl rfl (AOp.lenSl rfl et_23.ht rfl) ?_
          refine AOps.step rfl rfl rfl (AOp.buildSlice rfl et_34 (.cons rfl rfl rfl .nil) rfl (by decide)) ?_
          -- append 45
          refine AOps.append rfl rfl rfl rfl et_34 rfl (.head _) rfl (by simp [D.parts]) (by simp; omega) (by simp; omega) ?_
          refine AOps.step rfl rfl rfl (AOp.assignO rfl rfl) ?_
          refine AOps.nil ?_
          refine AWP.seq ?_
          refine AWP.region ?_
          refine AOps.step rfl rfl rfl (AOp.moveO rfl rfl) ?_
          refine AOps.step rfl rfl rfl (AOp.assignO rfl rfl) ?_
          refine AOps.step rfl rfl rfl (AOp.assignD rfl rfl) ?_
          refine AOps.nil ?_
          refine AWP.ret ?_
          refine ⟨RetD.own rfl (.head _) ?_, RetD.eq rfl ?_, trivial⟩
          all_goals (first | rfl | (rw [List.map_append, List.length_map]; rfl))
        · replace h5 := of_decide_eq_false h5
          rw [List.length_map] at h5
          rw [if_neg h5, List.append_nil]
          refine AWP.skip ?_
          refine AWP.seq ?_
          refine AWP.region ?_
          refine AOps.step rfl rfl rfl (AOp.moveO rfl rfl) ?_
          refine AOps.step rfl rfl rfl (AOp.assignO rfl rfl) ?_
          refine AOps.step rfl rfl rfl (AOp.assignD rfl rfl) ?_
          refine AOps.nil ?_
          refine AWP.ret ?_
          refine ⟨RetD.own rfl (.head _) ?_, RetD.eq rfl ?_, trivial⟩
          all_goals (first | rfl | (rw [List.map_append, List.length_map]; rfl))

set_option maxRecDepth 100000 in
set_option maxHeartbeats 1000000 in
theorem c_rDam (m : Man) (bs : List UInt8) (hs : m.item.size ≤ 9223372036854775807) : ACall Tryd.prog 12 [.agg m.ds, .sl (bs.map u8D)] (.tup [.sl ((damRes m bs).1.map natD), .v (.int .i64 (damRes m bs).2)]) := by
  refine acall_of (n := 45) (ds' := [.sl ((damRes m bs).1.map natD), .v (.int .i64 (damRes m bs).2)]) Tryd.func12 rfl (by kernel_rfl) rfl [4, 5] rfl rfl ?_
  intro B w0 F0
  refine AWP.seq ?_
  refine AWP.region ?_
  refine AOps.step rfl rfl rfl (AOp.box rfl rfl rfl) ?_
  refine AOps.step rfl rfl rfl (AOp.assignD rfl rfl) ?_
  refine AOps.step rfl rfl rfl (AOp.assignD rfl rfl) ?_
  refine AOps.nil ?_
  refine AWP.seq ?_
  refine AWP.seq ?_
  refine AWP.region ?_
  refine AOps.step rfl rfl rfl (AOp.loadAgg rfl ag_25 rfl rfl) ?_
  refine AOps.step rfl rfl rfl (AOp.call rfl (.cons (ArgOk.rfl' rfl) .nil) (c_rMan m hs)) ?_
  refine AOps.step rfl rfl rfl (AOp.assignD rfl rfl) ?_
  refine AOps.nil ?_
  refine AWP.seq ?_
  refine AWP.region ?_
  refine AOps.step rfl rfl rfl (AOp.moveD rfl rfl) ?_
  refine AOps.step rfl rfl rfl (AOp.neq rfl rfl rfl) ?_
  refine AOps.nil ?_
  refine AWP.cond rfl (fun h1 => ?_) (fun h1 => ?_)
  · replace h1 := of_decide_eq_true h1
    have HR : damRes m bs = ([], manFault m) := by unfold damRes; rw [if_pos h1]
    rw [HR]
    refine AWP.seq ?_
    refine AWP.region ?_
    refine AOps.step rfl rfl rfl (AOp.moveD rfl rfl) ?_
    refine AOps.step rfl rfl rfl (AOp.assignD rfl rfl) ?_
    refine AOps.step rfl rfl rfl (AOp.assignD rfl rfl) ?_
    refine AOps.nil ?_
    refine AWP.ret ?_
    refine ⟨RetD.nil rfl, RetD.eq rfl ?_, trivial⟩
    all_goals (first | rfl | (rw [List.map_append, List.length_map]; rfl))
  · replace h1 := of_decide_eq_false h1
    refine AWP.skip ?_
    refine AWP.seq ?_
    refine AWP.seq ?_
    refine AWP.region ?_
    refine AOps.step rfl rfl rfl (AOp.moveD rfl rfl) ?_
    refine AOps.step rfl rfl rfl (AOp.lenSl rfl et_22.ht rfl) ?_
    refine AOps.step rfl rfl rfl (AOp.gtr rfl rfl rfl) ?_
    refine AOps.nil ?_
    refine AWP.cond rfl (fun h2 => ?_) (fun h2 => ?_)
    · replace h2 := of_decide_eq_true h2
      rw [List.length_map] at h2
      have HR : damRes m bs = ([], 2) := by unfold damRes; rw [if_neg h1, if_pos h2]
      rw [HR]
      refine AWP.seq ?_
      refine AWP.region ?_
      refine AOps.step rfl rfl rfl (AOp.assignD rfl rfl) ?_
      refine AOps.step rfl rfl rfl (AOp.assignD rfl rfl) ?_
      refine AOps.nil ?_
      refine AWP.ret ?_
      refine ⟨RetD.nil rfl, RetD.eq rfl ?_, trivial⟩
      all_goals (first | rfl | (rw [List.map_append, List.length_map]; rfl))
    · replace h2 := of_decide_eq_false h2
      rw [List.length_map] at h2
      obtain ⟨n, b, hm, hb1, hb2, hn, hl, hl2⟩ := man_good (Decidable.not_not.1 h1)
      obtain ⟨item, sz, bk, sums⟩ := m
      simp only [Man.mk.injEq, true_and, and_true] at hm
      obtain ⟨rfl, rfl⟩ := hm
      dsimp only at hl hl2
      have HR := damRes_good item n b sums bs (Decidable.not_not.1 h1) h2
      rw [HR]
      have HM : Man.ds ⟨item, n, b, sums⟩ = manD item n b sums := rfl
      rw [HM]
      have HC : ∀ k, (badOf n b sums bs k).length ≤ k := badOf_len n b sums bs
      refine AWP.skip ?_
      refine AWP.seq ?_
      refine AWP.region ?_
      refine AOps.step rfl rfl rfl (AOp.assignD rfl rfl) ?_
      refine AOps.nil ?_
      refine AWP.seq ?_
      refine AWP.seq ?_
      refine AWP.region ?_
      refine AOps.step rfl rfl rfl (AOp.fieldAddr rfl fo_25_3 rfl) ?_
      refine AOps.step rfl rfl rfl (AOp.load rfl sc_23 rfl) ?_
      refine AOps.step rfl rfl rfl (AOp.lenSl rfl et_23.ht rfl) ?_
      refine AOps.step rfl rfl rfl (AOp.moveD rfl rfl) ?_
      refine AOps.nil ?_
      refine AWP.block ?_
      refine AWP.adopt 7 1 3 1 rfl rfl ?_
      refine AWP.loop (G := Nat) (fun k => Env.of [(20, .d (.v (.int .i64 (k : Int)))), (1, .d (.sl (bs.map u8D))), (2, .d (.fp (manD item n b sums))), (19, .d (.v (.int .i64 ((sums.map u32D).length : Int)))), (7, .own 1)]) (fun k => [(1, .row 3 1 ((badOf n b sums bs k).map natD))]) (fun k => k ≤ sums.length) (fun k => sums.length - k) 0 (Nat.zero_le _) (Sub.less ⟨(SLe.of_eq rfl), SLe.refl _, SLe.refl _, SLe.refl _, SLe.refl _, trivial⟩ (fun _ h => h)) ?_
      intro k hk
      refine AWP.seq ?_
      refine AWP.region ?_
      refine AOps.step rfl rfl rfl (AOp.lss rfl rfl rfl) ?_
      refine AOps.nil ?_
      refine AWP.seq ?_
      refine AWP.cond rfl (fun h3 => ?_) (fun h3 => ?_)
      · replace h3 := of_decide_eq_true h3
        rw [List.length_map] at h3
        have hlt : k < sums.length := by omega
        have hkb : k * b ≤ n := Nat.le_of_lt ((nblk_lt n b k hb1).2 (by omega))
        have HS := badOf_succ n b sums bs k
        have HCk := HC k
        refine AWP.skip ?_
        refine AWP.seq ?_
        refine AWP.block ?_
        refine AWP.seq ?_
        refine AWP.region ?_
        refine AOps.step rfl rfl rfl (AOp.moveD rfl rfl) ?_
        refine AOps.step rfl rfl rfl (AOp.assignD rfl rfl) ?_
        refine AOps.nil ?_
        refine AWP.seq ?_
        refine AWP.region ?_
        refine AOps.step rfl rfl rfl (AOp.loadAgg rfl ag_25 rfl rfl) ?_
        refine AOps.step rfl rfl rfl (AOp.moveD rfl rfl) ?_
        refine AOps.step rfl rfl rfl (AOp.moveD rfl rfl) ?_
        refine AOps.step rfl rfl rfl (AOp.call rfl (.cons (ArgOk.rfl' rfl) (.cons (ArgOk.rfl' rfl) (.cons (ArgOk.rfl' rfl) .nil))) (c_rright item n b sums bs k hb2 hn hl hlt hkb)) ?_
        refine AOps.step rfl rfl rfl (AOp.not rfl rfl) ?_
        refine AOps.nil ?_
        refine AWP.cond rfl (fun h4 => ?_) (fun h4 => ?_)
        · replace h4 := bnot_t h4
          rw [h4, if_neg (by simp)] at HS
          refine AWP.region ?_
          refine AOps.step rfl rfl rfl (AOp.moveO rfl rfl) ?_
          refine AOps.step rfl rfl rfl (AOp.moveD rfl rfl) ?_
          refine AOps.step rfl rfl rfl (AOp.buildSlice rfl et_34 (.cons rfl rfl rfl .nil) rfl (by decide)) ?_
          -- append 31
          refine AOps.append rfl rfl rfl rfl et_34 rfl (.head _) rfl (by simp [D.parts]) (by simp; omega) (by simp; omega) ?_
          refine AOps.step rfl rfl rfl (AOp.assignO rfl rfl) ?_
          refine AOps.nil ?_
          refine AWP.region ?_
          refine AOps.step rfl rfl rfl (AOp.add64 rfl rfl rfl (by omega) (by omega)) ?_
          refine AOps.step rfl rfl rfl (AOp.moveD rfl rfl) ?_
          refine AOps.nil ?_
          refine ⟨k + 1, (by omega), (by dsimp only; omega), Sub.less ⟨(SLe.of_eq rfl), SLe.refl _, SLe.refl _, SLe.refl _, SLe.refl _, trivial⟩ (by dsimp only; rw [HS, List.map_append]; exact fun _ h => h)⟩
        · replace h4 := bnot_f h4
          rw [h4, if_pos rfl, List.append_nil] at HS
          refine AWP.skip ?_
          refine AWP.region ?_
          refine AOps.step rfl rfl rfl (AOp.add64 rfl rfl rfl (by omega) (by omega)) ?_
          refine AOps.step rfl rfl rfl (AOp.moveD rfl rfl) ?_
          refine AOps.nil ?_
          refine ⟨k + 1, (by omega), (by dsimp only; omega), Sub.less ⟨(SLe.of_eq rfl), SLe.refl _, SLe.refl _, SLe.refl _, SLe.refl _, trivial⟩ (by dsimp only; rw [HS]; exact fun _ h => h)⟩
      · replace h3 := of_decide_eq_false h3
        rw [List.length_map] at h3
        obtain rfl : k = sums.length := by omega
        have HCk := HC sums.length
        refine AWP.exit ?_
        refine AWP.seq ?_
        refine AWP.seq ?_
        refine AWP.region ?_
        refine AOps.step rfl rfl rfl (AOp.moveD rfl rfl) ?_
        refine AOps.step rfl rfl rfl (AOp.lenSl rfl et_22.ht rfl) ?_
        refine AOps.step rfl rfl rfl (AOp.fieldAddr rfl fo_25_1 rfl) ?_
        refine AOps.step rfl rfl rfl (AOp.load rfl sc_3 rfl) ?_
        refine AOps.step rfl rfl rfl (AOp.gtr rfl rfl rfl) ?_
        refine AOps.nil ?_
        refine AWP.cond rfl (fun h5 => ?_) (fun h5 => ?_)
        · replace h5 := of_decide_eq_true h5
          rw [List.length_map] at h5
          rw [if_pos h5]
          refine AWP.region ?_
          refine AOps.step rfl rfl rfl (AOp.moveO rfl rfl) ?_
          refine AOps.step rfl rfl rfl (AOp.fieldAddr rfl fo_25_3 rfl) ?_
          refine AOps.step rfl rfl rfl (AOp.load rfl sc_23 rfl) ?_
          refine AOps.step rfl rfl rfl (AOp.lenSl rfl et_23.ht rfl) ?_
          refine AOps.step rfl rfl rfl (AOp.buildSlice rfl et_34 (.cons rfl rfl rfl .nil) rfl (by decide)) ?_
          -- append 43
          refine AOps.append rfl rfl rfl rfl et_34 rfl (.head _) rfl (by simp [D.parts]) (by simp; omega) (by simp; omega) ?_
          refine AOps.step rfl rfl rfl (AOp.assignO rfl rfl) ?_
          refine AOps.nil ?_
          refine AWP.seq ?_
          refine AWP.region ?_
          refine AOps.step rfl rfl rfl (AOp.moveO rfl rfl) ?_
          refine AOps.step rfl rfl rfl (AOp.assignO rfl rfl) ?_
          refine AOps.step rfl rfl rfl (AOp.assignD rfl rfl) ?_
          refine AOps.nil ?_
          refine AWP.ret ?_
          refine ⟨RetD.own rfl (.head _) ?_, RetD.eq rfl ?_, trivial⟩
          all_goals (first | rfl | (rw [List.map_append, List.length_map]; rfl))
        · replace h5 := of_decide_eq_false h5
          rw [List.length_map] at h5
          rw [if_neg h5, List.append_nil]
          refine AWP.skip ?_
          refine AWP.seq ?_
          refine AWP.region ?_
          refine AOps.step rfl rfl rfl (AOp.moveO rfl rfl) ?_
          refine AOps.step rfl rfl rfl (AOp.assignO rfl rfl) ?_
          refine AOps.step rfl rfl rfl (AOp.assignD rfl rfl) ?_
          refine AOps.nil ?_
          refine AWP.ret ?_
          refine ⟨RetD.own rfl (.head _) ?_, RetD.eq rfl ?_, trivial⟩
          all_goals (first | rfl | (rw [List.map_append, List.length_map]; rfl))

end Go.Proofs.YtkflhehocbaoiaaDoor
