/- Walks over abstract values. Printed by tools/gen.py. No statement of the seat. -/
import Derived.Test.YtkflhehocbaoiaaDoorV7
namespace Go.Proofs.YtkflhehocbaoiaaDoor
open Go.RowKit
set_option linter.unusedVariables false

/-! Types. -/
namespace TyV8
theorem ag_25 : AggT Tryd.prog 25 4 := .of (by kernel_rfl)
theorem et_22 : ElemTy Tryd.prog 22 5 1 1 (.int .u8 0) := ⟨by kernel_rfl, by kernel_rfl, by kernel_rfl, by decide⟩
theorem et_23 : ElemTy Tryd.prog 23 50 1 4 (.int .u32 0) := ⟨by kernel_rfl, by kernel_rfl, by kernel_rfl, by decide⟩
theorem et_33 : ElemTy Tryd.prog 33 22 1 24 (.slice none 0 0) := ⟨by kernel_rfl, by kernel_rfl, by kernel_rfl, by decide⟩
theorem et_34 : ElemTy Tryd.prog 34 3 1 8 (.int .i64 0) := ⟨by kernel_rfl, by kernel_rfl, by kernel_rfl, by decide⟩
theorem fo_25_1 : fieldOff Tryd.prog 25 1 = some 1 := by kernel_rfl
theorem fo_25_2 : fieldOff Tryd.prog 25 2 = some 2 := by kernel_rfl
theorem fo_25_3 : fieldOff Tryd.prog 25 3 = some 3 := by kernel_rfl
theorem sc_22 : Scal Tryd.prog 22 := .of (by kernel_rfl)
theorem sc_23 : Scal Tryd.prog 23 := .of (by kernel_rfl)
theorem sc_3 : Scal Tryd.prog 3 := .of (by kernel_rfl)
theorem sc_50 : Scal Tryd.prog 50 := .of (by kernel_rfl)
end TyV8
open TyV8

set_option maxRecDepth 100000 in
set_option maxHeartbeats 1000000 in
theorem c_block (item : ByteArray) (n b : Nat) (sums : List Nat) (cs : List (List UInt8)) (i : Nat) (hb1 : 1 ≤ b) (hb : b ≤ 20000) (hn : n ≤ 20000) (hl : sums.length ≤ 1000) (hi : i < sums.length) (hin : i * b ≤ n) (hc : cs.length ≤ 20) : ACall Tryd.prog 33 [.agg (manD item n b sums), .sl (cs.map (slD u8D)), .v (.int .i64 i)] (.tup [.sl ((repB n b sums cs i).map u8D), .v (.bool (decide (((fnv (repB n b sums cs i) : Nat) : Int) = ((sums.getD i 0 : Nat) : Int))))]) := by
  have hm := mulb i b (by omega) hb
  have hmn := min_nat n b i hin
  have hmc : (i : Int) * (b : Int) = ((i * b : Nat) : Int) := (Int.natCast_mul i b).symm
  have hm1 : ((i : Int) + 1) * (b : Int) = (i : Int) * (b : Int) + b := by rw [Int.add_mul, Int.one_mul]
  refine acall_of (n := 64) (ds' := [.sl ((repB n b sums cs i).map u8D), .v (.bool (decide (((fnv (repB n b sums cs i) : Nat) : Int) = ((sums.getD i 0 : Nat) : Int))))]) Tryd.func33 rfl (by kernel_rfl) rfl [6, 7] rfl rfl ?_
  intro B w0 F0
  refine AWP.seq ?_
  refine AWP.region ?_
  refine AOps.step rfl rfl rfl (AOp.box rfl rfl rfl) ?_
  refine AOps.step rfl rfl rfl (AOp.assignD rfl rfl) ?_
  refine AOps.step rfl rfl rfl (AOp.assignD rfl rfl) ?_
  refine AOps.nil ?_
  refine AWP.seq ?_
  refine AWP.seq ?_
  refine AWP.region ?_
  refine AOps.step rfl rfl rfl (AOp.moveD rfl rfl) ?_
  refine AOps.step rfl rfl rfl (AOp.lenSl rfl et_33.ht rfl) ?_
  refine AOps.step rfl rfl rfl (AOp.moveD rfl rfl) ?_
  refine AOps.nil ?_
  refine AWP.block ?_
  refine AWP.loop (G := Nat) (fun k => Env.of [(16, .d (.v (.int .i64 (k : Int)))), (14, .d (.sl (cs.map (slD u8D)))), (15, .d (.v (.int .i64 ((cs.map (slD u8D)).length : Int)))), (1, .d (.sl (cs.map (slD u8D)))), (3, .d (.fp (manD item n b sums))), (2, .d (.v (.int .i64 (i : Int))))]) (fun k => []) (fun k => k ≤ cs.length ∧ ∀ c ∈ cs.take k, rightB n b sums (c.take n) i = false) (fun k => cs.length - k) 0 ⟨Nat.zero_le _, fun c h => by simp at h⟩ (Sub.less ⟨(SLe.of_eq rfl), SLe.refl _, SLe.refl _, SLe.refl _, SLe.refl _, SLe.refl _, trivial⟩ (fun _ h => h)) ?_
  intro k hk
  refine AWP.seq ?_
  refine AWP.region ?_
  refine AOps.step rfl rfl rfl (AOp.lss rfl rfl rfl) ?_
  refine AOps.nil ?_
  refine AWP.seq ?_
  refine AWP.cond rfl (fun h1 => ?_) (fun h1 => ?_)
  · replace h1 := of_decide_eq_true h1
    rw [List.length_map] at h1
    have hlt : k < cs.length := by omega
    refine AWP.skip ?_
    refine AWP.seq ?_
    refine AWP.block ?_
    refine AWP.seq ?_
    refine AWP.region ?_
    refine AOps.step rfl rfl rfl (AOp.indexAddr rfl et_33 rfl rfl k rfl (at_map hlt) rfl) ?_
    refine AOps.step rfl rfl rfl (AOp.load rfl sc_22 rfl) ?_
    refine AOps.step rfl rfl rfl (AOp.assignD rfl rfl) ?_
    refine AOps.nil ?_
    refine AWP.seq ?_
    refine AWP.region ?_
    refine AOps.step rfl rfl rfl (AOp.loadAgg rfl ag_25 rfl rfl) ?_
    refine AOps.step rfl rfl rfl (AOp.moveD rfl rfl) ?_
    refine AOps.step rfl rfl rfl (AOp.moveD rfl rfl) ?_
    refine AOps.step rfl rfl rfl (AOp.call rfl (.cons (ArgOk.rfl' rfl) (.cons (ArgOk.rfl' rfl) (.cons (ArgOk.rfl' rfl) .nil))) (c_rright item n b sums cs[k] i hb hn hl hi hin)) ?_
    refine AOps.nil ?_
    refine AWP.cond rfl (fun h2 => ?_) (fun h2 => ?_)
    · skip
      have hR := repB_yes hlt hk.2 h2
      have hF := right_fnv h2
      rw [hR, hF]
      refine AWP.seq ?_
      refine AWP.region ?_
      refine AOps.step rfl rfl rfl (AOp.loadAgg rfl ag_25 rfl rfl) ?_
      refine AOps.step rfl rfl rfl (AOp.moveD rfl rfl) ?_
      refine AOps.step rfl rfl rfl (AOp.moveD rfl rfl) ?_
      refine AOps.step rfl rfl rfl (AOp.call rfl (.cons (ArgOk.rfl' rfl) (.cons (ArgOk.rfl' rfl) (.cons (ArgOk.rfl' rfl) .nil))) (c_part item n b sums cs[k] i hb hn (by omega) hin)) ?_
      refine AOps.step rfl rfl rfl (AOp.moveD rfl rfl) ?_
      refine AOps.step rfl rfl rfl (AOp.extract rfl rfl rfl) ?_
      refine AOps.step rfl rfl rfl (AOp.extract rfl rfl rfl) ?_
      refine AOps.step rfl rfl rfl (AOp.assignD rfl rfl) ?_
      refine AOps.step rfl rfl rfl (AOp.assignD rfl rfl) ?_
      refine AOps.nil ?_
      refine AWP.seq ?_
      refine AWP.region ?_
      refine AOps.step rfl rfl rfl (AOp.moveD rfl rfl) ?_
      refine AOps.step rfl rfl rfl (AOp.assignD rfl rfl) ?_
      refine AOps.step rfl rfl rfl (AOp.assignD rfl rfl) ?_
      refine AOps.nil ?_
      refine AWP.ret ?_
      refine ⟨RetD.eq rfl ?_, RetD.eq rfl ?_, trivial⟩
      all_goals (first | rfl | (rw [hR]; rfl) | simp)
    · skip
      have hT := take_false hlt hk.2 h2
      refine AWP.skip ?_
      refine AWP.region ?_
      refine AOps.step rfl rfl rfl (AOp.add64 rfl rfl rfl (by omega) (by omega)) ?_
      refine AOps.step rfl rfl rfl (AOp.moveD rfl rfl) ?_
      refine AOps.nil ?_
      refine ⟨k + 1, ⟨by omega, hT⟩, (by dsimp only; omega), Sub.less ⟨(SLe.of_eq rfl), SLe.refl _, SLe.refl _, SLe.refl _, SLe.refl _, SLe.refl _, trivial⟩ (fun _ h => h)⟩
  · replace h1 := of_decide_eq_false h1
    rw [List.length_map] at h1
    have hR := repB_no (fun c hc2 => hk.2 c (by rw [show k = cs.length by omega]; exact hc2))
    refine AWP.exit ?_
    refine AWP.seq ?_
    refine AWP.region ?_
    refine AOps.step rfl rfl rfl (AOp.assignD rfl rfl) ?_
    refine AOps.nil ?_
    refine AWP.seq ?_
    refine AWP.seq ?_
    refine AWP.region ?_
    refine AOps.step rfl rfl rfl (AOp.moveD rfl rfl) ?_
    refine AOps.step rfl rfl rfl (AOp.fieldAddr rfl fo_25_2 rfl) ?_
    refine AOps.step rfl rfl rfl (AOp.load rfl sc_3 rfl) ?_
    refine AOps.step rfl rfl rfl (AOp.mul64 rfl rfl rfl (by omega) (by omega)) ?_
    refine AOps.step rfl rfl rfl (AOp.assignD rfl rfl) ?_
    refine AOps.nil ?_
    refine AWP.block ?_
    refine AWP.adopt 12 1 5 1 rfl rfl ?_
    refine AWP.loop (G := Nat) (fun k => Env.of [(13, .d (.v (.int .i64 ((i * b + k : Nat) : Int)))), (1, .d (.sl (cs.map (slD u8D)))), (3, .d (.fp (manD item n b sums))), (2, .d (.v (.int .i64 (i : Int)))), (12, .own 1)]) (fun k => [(1, .row 5 1 (((List.range k).map fun j => voteB cs (i * b + j)).map u8D))]) (fun k => k ≤ (min b (n - i * b))) (fun k => (min b (n - i * b)) - k) 0 (Nat.zero_le _) (Sub.less ⟨(SLe.of_eq (by rw [Nat.add_zero, ← hmc]; rfl)), SLe.refl _, SLe.refl _, SLe.refl _, SLe.refl _, trivial⟩ (fun _ h => h)) ?_
    intro k hk
    refine AWP.seq ?_
    refine AWP.seq ?_
    refine AWP.region ?_
    refine AOps.step rfl rfl rfl (AOp.moveD rfl rfl) ?_
    refine AOps.step rfl rfl rfl (AOp.moveD rfl rfl) ?_
    refine AOps.step rfl rfl rfl (AOp.add64 rfl rfl rfl (by omega) (by omega)) ?_
    refine AOps.step rfl rfl rfl (AOp.fieldAddr rfl fo_25_2 rfl) ?_
    refine AOps.step rfl rfl rfl (AOp.load rfl sc_3 rfl) ?_
    refine AOps.step rfl rfl rfl (AOp.mul64 rfl rfl rfl (by omega) (by omega)) ?_
    refine AOps.step rfl rfl rfl (AOp.fieldAddr rfl fo_25_1 rfl) ?_
    refine AOps.step rfl rfl rfl (AOp.load rfl sc_3 rfl) ?_
    refine AOps.step rfl rfl rfl (AOp.min rfl rfl rfl) ?_
    refine AOps.step rfl rfl rfl (AOp.lss rfl rfl rfl) ?_
    refine AOps.nil ?_
    refine AWP.cond rfl (fun h3 => ?_) (fun h3 => ?_)
    · replace h3 := of_decide_eq_true h3
      have hlt : k < min b (n - i * b) := by omega
      refine AWP.skip ?_
      refine AWP.seq ?_
      refine AWP.block ?_
      refine AWP.region ?_
      refine AOps.step rfl rfl rfl (AOp.moveO rfl rfl) ?_
      refine AOps.step rfl rfl rfl (AOp.moveD rfl rfl) ?_
      refine AOps.step rfl rfl rfl (AOp.moveD rfl rfl) ?_
      refine AOps.step rfl rfl rfl (AOp.call rfl (.cons (ArgOk.rfl' rfl) (.cons (ArgOk.rfl' rfl) .nil)) (c_vote cs (i * b + k) hc)) ?_
      refine AOps.step rfl rfl rfl (AOp.buildSlice rfl et_22 (.cons rfl rfl rfl .nil) rfl (by decide)) ?_
      -- append 54
      refine AOps.append rfl rfl rfl rfl et_22 rfl (.head _) rfl (by simp [D.parts]) (by simp; omega) (by simp; omega) ?_
      refine AOps.step rfl rfl rfl (AOp.assignO rfl rfl) ?_
      refine AOps.nil ?_
      refine AWP.region ?_
      refine AOps.step rfl rfl rfl (AOp.moveD rfl rfl) ?_
      refine AOps.step rfl rfl rfl (AOp.add64 rfl rfl rfl (by omega) (by omega)) ?_
      refine AOps.step rfl rfl rfl (AOp.assignD rfl rfl) ?_
      refine AOps.nil ?_
      refine ⟨k + 1, (by omega), (by dsimp only; omega), Sub.less ⟨(SLe.of_eq rfl), SLe.refl _, SLe.refl _, SLe.refl _, SLe.refl _, trivial⟩ (by dsimp only; rw [List.range_succ, List.map_append, List.map_append]; exact fun _ h => h)⟩
    · replace h3 := of_decide_eq_false h3
      obtain rfl : k = min b (n - i * b) := by omega
      rw [← hR]
      refine AWP.exit ?_
      refine AWP.seq ?_
      refine AWP.draw (by kernel_rfl) (by kernel_rfl) ?_
      refine DRun.step rfl rfl rfl (AOp.moveO rfl rfl) ?_
      refine DRun.step rfl rfl rfl (AOp.moveO rfl rfl) ?_
      refine DRun.step rfl rfl rfl (AOp.callV rfl (.cons (.own rfl (.head _)) .nil) (c_rSum _)) ?_
      refine DRun.step rfl rfl rfl (AOp.fieldAddr rfl fo_25_3 rfl) ?_
      refine DRun.step rfl rfl rfl (AOp.load rfl sc_23 rfl) ?_
      refine DRun.step rfl rfl rfl (AOp.moveD rfl rfl) ?_
      refine DRun.step rfl rfl rfl (AOp.indexAddr rfl et_23 rfl rfl i rfl (at_getD hi) rfl) ?_
      refine DRun.step rfl rfl rfl (AOp.load rfl sc_50 rfl) ?_
      refine DRun.step rfl rfl rfl (AOp.eql rfl rfl rfl) ?_
      refine DRun.step rfl rfl rfl (AOp.assignO rfl rfl) ?_
      refine DRun.step rfl rfl rfl (AOp.assignD rfl rfl) ?_
      refine DRun.nil ?_
      refine AWP.ret ?_
      refine ⟨RetD.own rfl (.head _) ?_, RetD.eq rfl ?_, trivial⟩
      all_goals (first | rfl | (rw [hR]; rfl) | simp)


def wrongOf (n b : Nat) (sums : List Nat) (cs : List (List UInt8)) (k : Nat) : List Nat := (List.range k).filter fun i => !decide (((fnv (repB n b sums cs i) : Nat) : Int) = ((sums.getD i 0 : Nat) : Int))
theorem wrongOf_yes (n b : Nat) (sums : List Nat) (cs : List (List UInt8)) (k : Nat) (h : ¬ ((fnv (repB n b sums cs k) : Nat) : Int) = ((sums.getD k 0 : Nat) : Int)) : wrongOf n b sums cs (k + 1) = wrongOf n b sums cs k ++ [k] := by
  unfold wrongOf
  rw [List.range_succ, List.filter_append, List.filter_cons, List.filter_nil, decide_eq_false h]; rfl
theorem wrongOf_no (n b : Nat) (sums : List Nat) (cs : List (List UInt8)) (k : Nat) (h : ((fnv (repB n b sums cs k) : Nat) : Int) = ((sums.getD k 0 : Nat) : Int)) : wrongOf n b sums cs (k + 1) = wrongOf n b sums cs k := by
  unfold wrongOf
  rw [List.range_succ, List.filter_append, List.filter_cons, List.filter_nil, decide_eq_true h]; simp
theorem wrongOf_len (n b : Nat) (sums : List Nat) (cs : List (List UInt8)) (k : Nat) : (wrongOf n b sums cs k).length ≤ k := by
  unfold wrongOf
  exact Nat.le_trans (List.length_filter_le _ _) (by simp)
def outOf (n b : Nat) (sums : List Nat) (cs : List (List UInt8)) (k : Nat) : List UInt8 := (List.range k).flatMap fun i => repB n b sums cs i
theorem outOf_succ (n b : Nat) (sums : List Nat) (cs : List (List UInt8)) (k : Nat) : outOf n b sums cs (k + 1) = outOf n b sums cs k ++ repB n b sums cs k := by
  unfold outOf
  rw [List.range_succ, List.flatMap_append]; simp
theorem outOf_len (n b : Nat) (sums : List Nat) (cs : List (List UInt8)) (hb : b ≤ 20000) : ∀ k, (outOf n b sums cs k).length ≤ k * 20000
  | 0 => by simp [outOf]
  | k + 1 => by
    rw [outOf_succ, List.length_append]
    have := outOf_len n b sums cs hb k
    have := repB_len n b sums cs k
    omega
def anyLarge (cs : List (List UInt8)) : Bool := cs.any fun c => decide (40000 < (c.length : Int))
theorem anyLarge_yes {cs : List (List UInt8)} {k : Nat} (hk : k < cs.length) (h : 40000 < (cs[k].length : Int)) : anyLarge cs = true := by
  unfold anyLarge
  rw [List.any_eq_true]
  exact ⟨cs[k], List.getElem_mem hk, decide_eq_true h⟩
theorem anyLarge_no {cs : List (List UInt8)} (h : ∀ c ∈ cs.take cs.length, decide (40000 < (c.length : Int)) = false) : anyLarge cs = false := by
  unfold anyLarge
  rw [List.any_eq_false]
  intro c hc
  rw [h c (by rw [List.take_length]; exact hc)]
  simp
def repRes (m : Man) (cs : List (List UInt8)) : List UInt8 × List Nat × Int :=
  if manFault m ≠ 0 then ([], [], manFault m) else if (cs.length : Int) = 0 then ([], [], 9) else if 20 < (cs.length : Int) then ([], [], 2) else if anyLarge cs = true then ([], [], 2)
  else (outOf m.size.toNat m.block.toNat m.sums cs m.sums.length, wrongOf m.size.toNat m.block.toNat m.sums cs m.sums.length, 0)
theorem repRes_good (item : ByteArray) (n b : Nat) (sums : List Nat) (cs : List (List UInt8)) (h0 : manFault ⟨item, n, b, sums⟩ = 0) (h1 : ¬ (cs.length : Int) = 0) (h2 : ¬ 20 < (cs.length : Int)) (h3 : anyLarge cs = false) : repRes ⟨item, n, b, sums⟩ cs = (outOf n b sums cs sums.length, wrongOf n b sums cs sums.length, 0) := by
  unfold repRes
  rw [if_neg (by rw [h0]; simp), if_neg h1, if_neg h2, if_neg (by rw [h3]; simp)]
  rfl


set_option maxRecDepth 100000 in
set_option maxHeartbeats 1000000 in
theorem c_pRep (m : Man) (cs : List (List UInt8)) (hs : m.item.size ≤ 9223372036854775807) : ACall Tryd.prog 14 [.agg m.ds, .sl (cs.map (slD u8D))] (.tup [.sl ((repRes m cs).1.map u8D), .sl ((repRes m cs).2.1.map natD), .v (.int .i64 (repRes m cs).2.2)]) := by
  refine acall_of (n := 66) (ds' := [.sl ((repRes m cs).1.map u8D), .sl ((repRes m cs).2.1.map natD), .v (.int .i64 (repRes m cs).2.2)]) Tryd.func14 rfl (by kernel_rfl) rfl [4, 5, 6] rfl rfl ?_
  intro B w0 F0
  refine AWP.seq ?_
  refine AWP.region ?_
  refine AOps.step rfl rfl rfl (AOp.box rfl rfl rfl) ?_
  refine AOps.step rfl rfl rfl (AOp.assignD rfl rfl) ?_
  refine AOps.step rfl rfl rfl (AOp.assignD rfl rfl) ?_
  refine AOps.step rfl rfl rfl (AOp.assignD rfl rfl) ?_
  refine AOps.nil ?_
  refine AWP.seq ?_
  refine AWP.seq ?_
  refine AWP.region ?_
  refine AOps.step rfl rfl rfl (AOp.loadAgg rfl ag_25 rfl rfl) ?_
  refine AOps.step rfl rfl rfl (AOp.call rfl (.cons (ArgOk.rfl' rfl) .nil) (c_pMan m hs)) ?_
  refine AOps.step rfl rfl rfl (AOp.assignD rfl rfl) ?_
  refine AOps.nil ?_
  refine AWP.seq ?_
  refine AWP.region ?_
  refine AOps.step rfl rfl rfl (AOp.moveD rfl rfl) ?_
  refine AOps.step rfl rfl rfl (AOp.neq rfl rfl rfl) ?_
  refine AOps.nil ?_
  refine AWP.cond rfl (fun h1 => ?_) (fun h1 => ?_)
  · replace h1 := of_decide_eq_true h1
    have HR : repRes m cs = ([], [], manFault m) := by unfold repRes; rw [if_pos h1]
    rw [HR]
    refine AWP.seq ?_
    refine AWP.region ?_
    refine AOps.step rfl rfl rfl (AOp.moveD rfl rfl) ?_
    refine AOps.step rfl rfl rfl (AOp.assignD rfl rfl) ?_
    refine AOps.step rfl rfl rfl (AOp.assignD rfl rfl) ?_
    refine AOps.step rfl rfl rfl (AOp.assignD rfl rfl) ?_
    refine AOps.nil ?_
    refine AWP.ret ?_
    refine ⟨RetD.nil rfl, RetD.nil rfl, RetD.eq rfl ?_, trivial⟩
    all_goals (rfl)
  · replace h1 := of_decide_eq_false h1
    refine AWP.skip ?_
    refine AWP.seq ?_
    refine AWP.seq ?_
    refine AWP.region ?_
    refine AOps.step rfl rfl rfl (AOp.moveD rfl rfl) ?_
    refine AOps.step rfl rfl rfl (AOp.lenSl rfl et_33.ht rfl) ?_
    refine AOps.step rfl rfl rfl (AOp.eql rfl rfl rfl) ?_
    refine AOps.nil ?_
    refine AWP.cond rfl (fun h2 => ?_) (fun h2 => ?_)
    · replace h2 := of_decide_eq_true h2
      rw [List.length_map] at h2
      have HR : repRes m cs = ([], [], 9) := by unfold repRes; rw [if_neg h1, if_pos h2]
      rw [HR]
      refine AWP.seq ?_
      refine AWP.region ?_
      refine AOps.step rfl rfl rfl (AOp.assignD rfl rfl) ?_
      refine AOps.step rfl rfl rfl (AOp.assignD rfl rfl) ?_
      refine AOps.step rfl rfl rfl (AOp.assignD rfl rfl) ?_
      refine AOps.nil ?_
      refine AWP.ret ?_
      refine ⟨RetD.nil rfl, RetD.nil rfl, RetD.eq rfl ?_, trivial⟩
      all_goals (rfl)
    · replace h2 := of_decide_eq_false h2
      rw [List.length_map] at h2
      refine AWP.skip ?_
      refine AWP.seq ?_
      refine AWP.seq ?_
      refine AWP.region ?_
      refine AOps.step rfl rfl rfl (AOp.moveD rfl rfl) ?_
      refine AOps.step rfl rfl rfl (AOp.lenSl rfl et_33.ht rfl) ?_
      refine AOps.step rfl rfl rfl (AOp.gtr rfl rfl rfl) ?_
      refine AOps.nil ?_
      refine AWP.cond rfl (fun h3 => ?_) (fun h3 => ?_)
      · replace h3 := of_decide_eq_true h3
        rw [List.length_map] at h3
        have HR : repRes m cs = ([], [], 2) := by unfold repRes; rw [if_neg h1, if_neg h2, if_pos h3]
        rw [HR]
        refine AWP.seq ?_
        refine AWP.region ?_
        refine AOps.step rfl rfl rfl (AOp.assignD rfl rfl) ?_
        refine AOps.step rfl rfl rfl (AOp.assignD rfl rfl) ?_
        refine AOps.step rfl rfl rfl (AOp.assignD rfl rfl) ?_
        refine AOps.nil ?_
        refine AWP.ret ?_
        refine ⟨RetD.nil rfl, RetD.nil rfl, RetD.eq rfl ?_, trivial⟩
        all_goals (rfl)
      · replace h3 := of_decide_eq_false h3
        rw [List.length_map] at h3
        refine AWP.skip ?_
        refine AWP.seq ?_
        refine AWP.seq ?_
        refine AWP.region ?_
        refine AOps.step rfl rfl rfl (AOp.moveD rfl rfl) ?_
        refine AOps.step rfl rfl rfl (AOp.lenSl rfl et_33.ht rfl) ?_
        refine AOps.step rfl rfl rfl (AOp.moveD rfl rfl) ?_
        refine AOps.nil ?_
        refine AWP.block ?_
        refine AWP.loop (G := Nat) (fun k => Env.of [(27, .d (.v (.int .i64 (k : Int)))), (25, .d (.sl (cs.map (slD u8D)))), (26, .d (.v (.int .i64 ((cs.map (slD u8D)).length : Int)))), (1, .d (.sl (cs.map (slD u8D)))), (2, .d (.fp m.ds))]) (fun k => []) (fun k => k ≤ cs.length ∧ ∀ c ∈ cs.take k, decide (40000 < (c.length : Int)) = false) (fun k => cs.length - k) 0 ⟨Nat.zero_le _, fun c h => by simp at h⟩ (Sub.less ⟨(SLe.of_eq rfl), SLe.refl _, SLe.refl _, SLe.refl _, SLe.refl _, trivial⟩ (fun _ h => h)) ?_
        intro k hk
        refine AWP.seq ?_
        refine AWP.region ?_
        refine AOps.step rfl rfl rfl (AOp.lss rfl rfl rfl) ?_
        refine AOps.nil ?_
        refine AWP.seq ?_
        refine AWP.cond rfl (fun h4 => ?_) (fun h4 => ?_)
        · replace h4 := of_decide_eq_true h4
          rw [List.length_map] at h4
          have hlt : k < cs.length := by omega
          refine AWP.skip ?_
          refine AWP.seq ?_
          refine AWP.block ?_
          refine AWP.seq ?_
          refine AWP.region ?_
          refine AOps.step rfl rfl rfl (AOp.indexAddr rfl et_33 rfl rfl k rfl (at_map hlt) rfl) ?_
          refine AOps.step rfl rfl rfl (AOp.load rfl sc_22 rfl) ?_
          refine AOps.step rfl rfl rfl (AOp.assignD rfl rfl) ?_
          refine AOps.nil ?_
          refine AWP.seq ?_
          refine AWP.region ?_
          refine AOps.step rfl rfl rfl (AOp.moveD rfl rfl) ?_
          refine AOps.step rfl rfl rfl (AOp.lenSl rfl et_22.ht rfl) ?_
          refine AOps.step rfl rfl rfl (AOp.gtr rfl rfl rfl) ?_
          refine AOps.nil ?_
          refine AWP.cond rfl (fun h5 => ?_) (fun h5 => ?_)
          · replace h5 := of_decide_eq_true h5
            rw [List.length_map] at h5
            have HR : repRes m cs = ([], [], 2) := by unfold repRes; rw [if_neg h1, if_neg h2, if_neg h3, if_pos (anyLarge_yes hlt h5)]
            rw [HR]
            refine AWP.seq ?_
            refine AWP.region ?_
            refine AOps.step rfl rfl rfl (AOp.assignD rfl rfl) ?_
            refine AOps.step rfl rfl rfl (AOp.assignD rfl rfl) ?_
            refine AOps.step rfl rfl rfl (AOp.assignD rfl rfl) ?_
            refine AOps.nil ?_
            refine AWP.ret ?_
            refine ⟨RetD.nil rfl, RetD.nil rfl, RetD.eq rfl ?_, trivial⟩
            all_goals (rfl)
          · replace h5 := of_decide_eq_false h5
            rw [List.length_map] at h5
            have hT := take_false hlt hk.2 (decide_eq_false h5)
            refine AWP.skip ?_
            refine AWP.region ?_
            refine AOps.step rfl rfl rfl (AOp.add64 rfl rfl rfl (by omega) (by omega)) ?_
            refine AOps.step rfl rfl rfl (AOp.moveD rfl rfl) ?_
            refine AOps.nil ?_
            refine ⟨k + 1, ⟨by omega, hT⟩, (by dsimp only; omega), Sub.less ⟨(SLe.of_eq rfl), SLe.refl _, SLe.refl _, SLe.refl _, SLe.refl _, trivial⟩ (fun _ h => h)⟩
        · replace h4 := of_decide_eq_false h4
          rw [List.length_map] at h4
          have hA := anyLarge_no (fun c hc2 => hk.2 c (by rw [show k = cs.length by omega]; exact hc2))
          obtain ⟨n, b, hm, hb1, hb2, hn, hl, hl2⟩ := man_good (Decidable.not_not.1 h1)
          obtain ⟨item, sz, bk, sums⟩ := m
          simp only [Man.mk.injEq, true_and, and_true] at hm
          obtain ⟨rfl, rfl⟩ := hm
          dsimp only at hl hl2
          have HR := repRes_good item n b sums cs (Decidable.not_not.1 h1) h2 h3 hA
          rw [HR]
          have HM : Man.ds ⟨item, n, b, sums⟩ = manD item n b sums := rfl
          rw [HM]
          have HO := outOf_len n b sums cs hb2
          have HW := wrongOf_len n b sums cs
          have hc20 : cs.length ≤ 20 := by omega
          refine AWP.exit ?_
          refine AWP.seq ?_
          refine AWP.region ?_
          refine AOps.step rfl rfl rfl (AOp.fieldAddr rfl fo_25_1 rfl) ?_
          refine AOps.step rfl rfl rfl (AOp.load rfl sc_3 rfl) ?_
          refine AOps.make0 101 rfl rfl rfl rfl et_22 rfl rfl (by omega) (by omega) (by omega) rfl ?_
          refine AOps.step rfl rfl rfl (AOp.assignO rfl rfl) ?_
          refine AOps.nil ?_
          refine AWP.seq ?_
          refine AWP.region ?_
          refine AOps.step rfl rfl rfl (AOp.assignD rfl rfl) ?_
          refine AOps.nil ?_
          refine AWP.seq ?_
          refine AWP.seq ?_
          refine AWP.region ?_
          refine AOps.step rfl rfl rfl (AOp.fieldAddr rfl fo_25_3 rfl) ?_
          refine AOps.step rfl rfl rfl (AOp.load rfl sc_23 rfl) ?_
          refine AOps.step rfl rfl rfl (AOp.lenSl rfl et_23.ht rfl) ?_
          refine AOps.step rfl rfl rfl (AOp.moveD rfl rfl) ?_
          refine AOps.nil ?_
          refine AWP.block ?_
          refine AWP.adopt 11 1 3 1 rfl rfl ?_
          refine AWP.loop (G := Nat) (fun k => Env.of [(41, .d (.v (.int .i64 (k : Int)))), (1, .d (.sl (cs.map (slD u8D)))), (2, .d (.fp (manD item n b sums))), (40, .d (.v (.int .i64 ((sums.map u32D).length : Int)))), (10, .own 101), (11, .own 1)]) (fun k => [(1, .row 3 1 ((wrongOf n b sums cs k).map natD)), (101, .row 5 1 ((outOf n b sums cs k).map u8D))]) (fun k => k ≤ sums.length) (fun k => sums.length - k) 0 (Nat.zero_le _) (Sub.less ⟨(SLe.of_eq rfl), SLe.refl _, SLe.refl _, SLe.refl _, SLe.refl _, SLe.refl _, trivial⟩ (fun _ h => h)) ?_
          intro k hk
          refine AWP.seq ?_
          refine AWP.region ?_
          refine AOps.step rfl rfl rfl (AOp.lss rfl rfl rfl) ?_
          refine AOps.nil ?_
          refine AWP.seq ?_
          refine AWP.cond rfl (fun h6 => ?_) (fun h6 => ?_)
          · replace h6 := of_decide_eq_true h6
            rw [List.length_map] at h6
            have hlt2 : k < sums.length := by omega
            have hkb : k * b ≤ n := Nat.le_of_lt ((nblk_lt n b k hb1).2 (by omega))
            have HOk := HO k
            have HWk := HW k
            have HRk := repB_len n b sums cs k
            have HOs := outOf_succ n b sums cs k
            refine AWP.skip ?_
            refine AWP.seq ?_
            refine AWP.block ?_
            refine AWP.seq ?_
            refine AWP.region ?_
            refine AOps.step rfl rfl rfl (AOp.moveD rfl rfl) ?_
            refine AOps.step rfl rfl rfl (AOp.assignD rfl rfl) ?_
            refine AOps.nil ?_
            refine AWP.seq ?_
            refine AWP.region ?_
            refine AOps.step rfl rfl rfl (AOp.loadAgg rfl ag_25 rfl rfl) ?_
            refine AOps.step rfl rfl rfl (AOp.moveD rfl rfl) ?_
            refine AOps.step rfl rfl rfl (AOp.moveD rfl rfl) ?_
            refine AOps.step rfl rfl rfl (AOp.call rfl (.cons (ArgOk.rfl' rfl) (.cons (ArgOk.rfl' rfl) (.cons (ArgOk.rfl' rfl) .nil))) (c_repaired item n b sums cs k hb1 hb2 hn hl hlt2 hkb hc20)) ?_
            refine AOps.step rfl rfl rfl (AOp.assignD rfl rfl) ?_
            refine AOps.nil ?_
            refine AWP.seq ?_
            refine AWP.seq ?_
            refine AWP.draw (by kernel_rfl) (by kernel_rfl) ?_
            refine DRun.step rfl rfl rfl (AOp.moveD rfl rfl) ?_
            refine DRun.step rfl rfl rfl (AOp.call rfl (.cons (ArgOk.rfl' rfl) .nil) (c_pSum _)) ?_
            refine DRun.step rfl rfl rfl (AOp.fieldAddr rfl fo_25_3 rfl) ?_
            refine DRun.step rfl rfl rfl (AOp.load rfl sc_23 rfl) ?_
            refine DRun.step rfl rfl rfl (AOp.moveD rfl rfl) ?_
            refine DRun.step rfl rfl rfl (AOp.indexAddr rfl et_23 rfl rfl k rfl (at_getD hlt2) rfl) ?_
            refine DRun.step rfl rfl rfl (AOp.load rfl sc_50 rfl) ?_
            refine DRun.step rfl rfl rfl (AOp.neq rfl rfl rfl) ?_
            refine DRun.nil ?_
            refine AWP.cond rfl (fun h7 => ?_) (fun h7 => ?_)
            · replace h7 := of_decide_eq_true h7
              have HWs := wrongOf_yes n b sums cs k h7
              refine AWP.region ?_
              refine AOps.step rfl rfl rfl (AOp.moveO rfl rfl) ?_
              refine AOps.step rfl rfl rfl (AOp.moveD rfl rfl) ?_
              refine AOps.step rfl rfl rfl (AOp.buildSlice rfl et_34 (.cons rfl rfl rfl .nil) rfl (by decide)) ?_
              -- append 59
              refine AOps.append rfl rfl rfl rfl et_34 rfl (.head _) rfl (by simp [D.parts]) (by simp; omega) (by simp; omega) ?_
              refine AOps.step rfl rfl rfl (AOp.assignO rfl rfl) ?_
              refine AOps.nil ?_
              refine AWP.region ?_
              refine AOps.step rfl rfl rfl (AOp.moveO rfl rfl) ?_
              refine AOps.step rfl rfl rfl (AOp.moveD rfl rfl) ?_
              -- append 62
              refine AOps.append rfl rfl rfl rfl et_22 rfl (.tail _ (.head _)) rfl (by simp [u8D]) (by simp; omega) (by simp; omega) ?_
              refine AOps.step rfl rfl rfl (AOp.assignO rfl rfl) ?_
              refine AOps.nil ?_
              refine AWP.region ?_
              refine AOps.step rfl rfl rfl (AOp.add64 rfl rfl rfl (by omega) (by omega)) ?_
              refine AOps.step rfl rfl rfl (AOp.moveD rfl rfl) ?_
              refine AOps.nil ?_
              refine ⟨k + 1, (by omega), (by dsimp only; omega), Sub.less ⟨(SLe.of_eq rfl), SLe.refl _, SLe.refl _, SLe.refl _, SLe.refl _, SLe.refl _, trivial⟩ (by dsimp only; rw [HWs, HOs, List.map_append, List.map_append]; exact fun _ h => h)⟩
            · replace h7 := of_decide_eq_false h7
              have HWs := wrongOf_no n b sums cs k (Decidable.not_not.1 h7)
              refine AWP.skip ?_
              refine AWP.region ?_
              refine AOps.step rfl rfl rfl (AOp.moveO rfl rfl) ?_
              refine AOps.step rfl rfl rfl (AOp.moveD rfl rfl) ?_
              -- append 62
              refine AOps.append rfl rfl rfl rfl et_22 rfl (.tail _ (.head _)) rfl (by simp [u8D]) (by simp; omega) (by simp; omega) ?_
              refine AOps.step rfl rfl rfl (AOp.assignO rfl rfl) ?_
              refine AOps.nil ?_
              refine AWP.region ?_
              refine AOps.step rfl rfl rfl (AOp.add64 rfl rfl rfl (by omega) (by omega)) ?_
              refine AOps.step rfl rfl rfl (AOp.moveD rfl rfl) ?_
              refine AOps.nil ?_
              refine ⟨k + 1, (by omega), (by dsimp only; omega), Sub.less ⟨(SLe.of_eq rfl), SLe.refl _, SLe.refl _, SLe.refl _, SLe.refl _, SLe.refl _, trivial⟩ (by dsimp only; rw [HWs, HOs, List.map_append]; exact fun _ h => h)⟩
          · replace h6 := of_decide_eq_false h6
            rw [List.length_map] at h6
            obtain rfl : k = sums.length := by omega
            refine AWP.exit ?_
            refine AWP.seq ?_
            refine AWP.region ?_
            refine AOps.step rfl rfl rfl (AOp.moveO rfl rfl) ?_
            refine AOps.step rfl rfl rfl (AOp.moveO rfl rfl) ?_
            refine AOps.step rfl rfl rfl (AOp.assignO rfl rfl) ?_
            refine AOps.step rfl rfl rfl (AOp.assignO rfl rfl) ?_
            refine AOps.step rfl rfl rfl (AOp.assignD rfl rfl) ?_
            refine AOps.nil ?_
            refine AWP.ret ?_
            refine ⟨RetD.own rfl (.tail _ (.head _)) ?_, RetD.own rfl (.head _) ?_, RetD.eq rfl ?_, trivial⟩
            all_goals (rfl)

set_option maxRecDepth 100000 in
set_option maxHeartbeats 1000000 in
theorem c_rRep (m : Man) (cs : List (List UInt8)) (hs : m.item.size ≤ 9223372036854775807) : ACall Tryd.prog 15 [.agg m.ds, .sl (cs.map (slD u8D))] (.tup [.sl ((repRes m cs).1.map u8D), .sl ((repRes m cs).2.1.map natD), .v (.int .i64 (repRes m cs).2.2)]) := by
  refine acall_of (n := 61) (ds' := [.sl ((repRes m cs).1.map u8D), .sl ((repRes m cs).2.1.map natD), .v (.int .i64 (repRes m cs).2.2)]) Tryd.func15 rfl (by kernel_rfl) rfl [4, 5, 6] rfl rfl ?_
  intro B w0 F0
  refine AWP.seq ?_
  refine AWP.region ?_
  refine AOps.step rfl rfl rfl (AOp.box rfl rfl rfl) ?_
  refine AOps.step rfl rfl rfl (AOp.assignD rfl rfl) ?_
  refine AOps.step rfl rfl rfl (AOp.assignD rfl rfl) ?_
  refine AOps.step rfl rfl rfl (AOp.assignD rfl rfl) ?_
  refine AOps.nil ?_
  refine AWP.seq ?_
  refine AWP.seq ?_
  refine AWP.region ?_
  refine AOps.step rfl rfl rfl (AOp.loadAgg rfl ag_25 rfl rfl) ?_
  refine AOps.step rfl rfl rfl (AOp.call rfl (.cons (ArgOk.rfl' rfl) .nil) (c_rMan m hs)) ?_
  refine AOps.step rfl rfl rfl (AOp.assignD rfl rfl) ?_
  refine AOps.nil ?_
  refine AWP.seq ?_
  refine AWP.region ?_
  refine AOps.step rfl rfl rfl (AOp.moveD rfl rfl) ?_
  refine AOps.step rfl rfl rfl (AOp.neq rfl rfl rfl) ?_
  refine AOps.nil ?_
  refine AWP.cond rfl (fun h1 => ?_) (fun h1 => ?_)
  · replace h1 := of_decide_eq_true h1
    have HR : repRes m cs = ([], [], manFault m) := by unfold repRes; rw [if_pos h1]
    rw [HR]
    refine AWP.seq ?_
    refine AWP.region ?_
    refine AOps.step rfl rfl rfl (AOp.moveD rfl rfl) ?_
    refine AOps.step rfl rfl rfl (AOp.assignD rfl rfl) ?_
    refine AOps.step rfl rfl rfl (AOp.assignD rfl rfl) ?_
    refine AOps.step rfl rfl rfl (AOp.assignD rfl rfl) ?_
    refine AOps.nil ?_
    refine AWP.ret ?_
    refine ⟨RetD.nil rfl, RetD.nil rfl, RetD.eq rfl ?_, trivial⟩
    all_goals (rfl)
  · replace h1 := of_decide_eq_false h1
    refine AWP.skip ?_
    refine AWP.seq ?_
    refine AWP.seq ?_
    refine AWP.region ?_
    refine AOps.step rfl rfl rfl (AOp.moveD rfl rfl) ?_
    refine AOps.step rfl rfl rfl (AOp.lenSl rfl et_33.ht rfl) ?_
    refine AOps.step rfl rfl rfl (AOp.eql rfl rfl rfl) ?_
    refine AOps.nil ?_
    refine AWP.cond rfl (fun h2 => ?_) (fun h2 => ?_)
    · replace h2 := of_decide_eq_true h2
      rw [List.length_map] at h2
      have HR : repRes m cs = ([], [], 9) := by unfold repRes; rw [if_neg h1, if_pos h2]
      rw [HR]
      refine AWP.seq ?_
      refine AWP.region ?_
      refine AOps.step rfl rfl rfl (AOp.assignD rfl rfl) ?_
      refine AOps.step rfl rfl rfl (AOp.assignD rfl rfl) ?_
      refine AOps.step rfl rfl rfl (AOp.assignD rfl rfl) ?_
      refine AOps.nil ?_
      refine AWP.ret ?_
      refine ⟨RetD.nil rfl, RetD.nil rfl, RetD.eq rfl ?_, trivial⟩
      all_goals (rfl)
    · replace h2 := of_decide_eq_false h2
      rw [List.length_map] at h2
      refine AWP.skip ?_
      refine AWP.seq ?_
      refine AWP.seq ?_
      refine AWP.region ?_
      refine AOps.step rfl rfl rfl (AOp.moveD rfl rfl) ?_
      refine AOps.step rfl rfl rfl (AOp.lenSl rfl et_33.ht rfl) ?_
      refine AOps.step rfl rfl rfl (AOp.gtr rfl rfl rfl) ?_
      refine AOps.nil ?_
      refine AWP.cond rfl (fun h3 => ?_) (fun h3 => ?_)
      · replace h3 := of_decide_eq_true h3
        rw [List.length_map] at h3
        have HR : repRes m cs = ([], [], 2) := by unfold repRes; rw [if_neg h1, if_neg h2, if_pos h3]
        rw [HR]
        refine AWP.seq ?_
        refine AWP.region ?_
        refine AOps.step rfl rfl rfl (AOp.assignD rfl rfl) ?_
        refine AOps.step rfl rfl rfl (AOp.assignD rfl rfl) ?_
        refine AOps.step rfl rfl rfl (AOp.assignD rfl rfl) ?_
        refine AOps.nil ?_
        refine AWP.ret ?_
        refine ⟨RetD.nil rfl, RetD.nil rfl, RetD.eq rfl ?_, trivial⟩
        all_goals (rfl)
      · replace h3 := of_decide_eq_false h3
        rw [List.length_map] at h3
        refine AWP.skip ?_
        refine AWP.seq ?_
        refine AWP.seq ?_
        refine AWP.region ?_
        refine AOps.step rfl rfl rfl (AOp.moveD rfl rfl) ?_
        refine AOps.step rfl rfl rfl (AOp.lenSl rfl et_33.ht rfl) ?_
        refine AOps.step rfl rfl rfl (AOp.moveD rfl rfl) ?_
        refine AOps.nil ?_
        refine AWP.block ?_
        refine AWP.loop (G := Nat) (fun k => Env.of [(28, .d (.v (.int .i64 (k : Int)))), (26, .d (.sl (cs.map (slD u8D)))), (27, .d (.v (.int .i64 ((cs.map (slD u8D)).length : Int)))), (1, .d (.sl (cs.map (slD u8D)))), (2, .d (.fp m.ds))]) (fun k => []) (fun k => k ≤ cs.length ∧ ∀ c ∈ cs.take k, decide (40000 < (c.length : Int)) = false) (fun k => cs.length - k) 0 ⟨Nat.zero_le _, fun c h => by simp at h⟩ (Sub.less ⟨(SLe.of_eq rfl), SLe.refl _, SLe.refl _, SLe.refl _, SLe.refl _, trivial⟩ (fun _ h => h)) ?_
        intro k hk
        refine AWP.seq ?_
        refine AWP.region ?_
        refine AOps.step rfl rfl rfl (AOp.lss rfl rfl rfl) ?_
        refine AOps.nil ?_
        refine AWP.seq ?_
        refine AWP.cond rfl (fun h4 => ?_) (fun h4 => ?_)
        · replace h4 := of_decide_eq_true h4
          rw [List.length_map] at h4
          have hlt : k < cs.length := by omega
          refine AWP.skip ?_
          refine AWP.seq ?_
          refine AWP.block ?_
          refine AWP.seq ?_
          refine AWP.region ?_
          refine AOps.step rfl rfl rfl (AOp.indexAddr rfl et_33 rfl rfl k rfl (at_map hlt) rfl) ?_
          refine AOps.step rfl rfl rfl (AOp.load rfl sc_22 rfl) ?_
          refine AOps.step rfl rfl rfl (AOp.assignD rfl rfl) ?_
          refine AOps.nil ?_
          refine AWP.seq ?_
          refine AWP.region ?_
          refine AOps.step rfl rfl rfl (AOp.moveD rfl rfl) ?_
          refine AOps.step rfl rfl rfl (AOp.lenSl rfl et_22.ht rfl) ?_
          refine AOps.step rfl rfl rfl (AOp.gtr rfl rfl rfl) ?_
          refine AOps.nil ?_
          refine AWP.cond rfl (fun h5 => ?_) (fun h5 => ?_)
          · replace h5 := of_decide_eq_true h5
            rw [List.length_map] at h5
            have HR : repRes m cs = ([], [], 2) := by unfold repRes; rw [if_neg h1, if_neg h2, if_neg h3, if_pos (anyLarge_yes hlt h5)]
            rw [HR]
            refine AWP.seq ?_
            refine AWP.region ?_
            refine AOps.step rfl rfl rfl (AOp.assignD rfl rfl) ?_
            refine AOps.step rfl rfl rfl (AOp.assignD rfl rfl) ?_
            refine AOps.step rfl rfl rfl (AOp.assignD rfl rfl) ?_
            refine AOps.nil ?_
            refine AWP.ret ?_
            refine ⟨RetD.nil rfl, RetD.nil rfl, RetD.eq rfl ?_, trivial⟩
            all_goals (rfl)
          · replace h5 := of_decide_eq_false h5
            rw [List.length_map] at h5
            have hT := take_false hlt hk.2 (decide_eq_false h5)
            refine AWP.skip ?_
            refine AWP.region ?_
            refine AOps.step rfl rfl rfl (AOp.add64 rfl rfl rfl (by omega) (by omega)) ?_
            refine AOps.step rfl rfl rfl (AOp.moveD rfl rfl) ?_
            refine AOps.nil ?_
            refine ⟨k + 1, ⟨by omega, hT⟩, (by dsimp only; omega), Sub.less ⟨(SLe.of_eq rfl), SLe.refl _, SLe.refl _, SLe.refl _, SLe.refl _, trivial⟩ (fun _ h => h)⟩
        · replace h4 := of_decide_eq_false h4
          rw [List.length_map] at h4
          have hA := anyLarge_no (fun c hc2 => hk.2 c (by rw [show k = cs.length by omega]; exact hc2))
          obtain ⟨n, b, hm, hb1, hb2, hn, hl, hl2⟩ := man_good (Decidable.not_not.1 h1)
          obtain ⟨item, sz, bk, sums⟩ := m
          simp only [Man.mk.injEq, true_and, and_true] at hm
          obtain ⟨rfl, rfl⟩ := hm
          dsimp only at hl hl2
          have HR := repRes_good item n b sums cs (Decidable.not_not.1 h1) h2 h3 hA
          rw [HR]
          have HM : Man.ds ⟨item, n, b, sums⟩ = manD item n b sums := rfl
          rw [HM]
          have HO := outOf_len n b sums cs hb2
          have HW := wrongOf_len n b sums cs
          have hc20 : cs.length ≤ 20 := by omega
          refine AWP.exit ?_
          refine AWP.seq ?_
          refine AWP.region ?_
          refine AOps.step rfl rfl rfl (AOp.assignD rfl rfl) ?_
          refine AOps.nil ?_
          refine AWP.seq ?_
          refine AWP.region ?_
          refine AOps.step rfl rfl rfl (AOp.assignD rfl rfl) ?_
          refine AOps.nil ?_
          refine AWP.seq ?_
          refine AWP.seq ?_
          refine AWP.region ?_
          refine AOps.step rfl rfl rfl (AOp.fieldAddr rfl fo_25_3 rfl) ?_
          refine AOps.step rfl rfl rfl (AOp.load rfl sc_23 rfl) ?_
          refine AOps.step rfl rfl rfl (AOp.lenSl rfl et_23.ht rfl) ?_
          refine AOps.step rfl rfl rfl (AOp.moveD rfl rfl) ?_
          refine AOps.nil ?_
          refine AWP.block ?_
          refine AWP.adopt 10 2 5 1 rfl rfl ?_
          refine AWP.adopt 11 1 3 1 rfl rfl ?_
          refine AWP.loop (G := Nat) (fun k => Env.of [(39, .d (.v (.int .i64 (k : Int)))), (1, .d (.sl (cs.map (slD u8D)))), (2, .d (.fp (manD item n b sums))), (38, .d (.v (.int .i64 ((sums.map u32D).length : Int)))), (10, .own 2), (11, .own 1)]) (fun k => [(1, .row 3 1 ((wrongOf n b sums cs k).map natD)), (2, .row 5 1 ((outOf n b sums cs k).map u8D))]) (fun k => k ≤ sums.length) (fun k => sums.length - k) 0 (Nat.zero_le _) (Sub.less ⟨(SLe.of_eq rfl), SLe.refl _, SLe.refl _, SLe.refl _, SLe.refl _, SLe.refl _, trivial⟩ (fun _ h => h)) ?_
          intro k hk
          refine AWP.seq ?_
          refine AWP.region ?_
          refine AOps.step rfl rfl rfl (AOp.lss rfl rfl rfl) ?_
          refine AOps.nil ?_
          refine AWP.seq ?_
          refine AWP.cond rfl (fun h6 => ?_) (fun h6 => ?_)
          · replace h6 := of_decide_eq_true h6
            rw [List.length_map] at h6
            have hlt2 : k < sums.length := by omega
            have hkb : k * b ≤ n := Nat.le_of_lt ((nblk_lt n b k hb1).2 (by omega))
            have HOk := HO k
            have HWk := HW k
            have HRk := repB_len n b sums cs k
            have HOs := outOf_succ n b sums cs k
            refine AWP.skip ?_
            refine AWP.seq ?_
            refine AWP.block ?_
            refine AWP.seq ?_
            refine AWP.region ?_
            refine AOps.step rfl rfl rfl (AOp.moveD rfl rfl) ?_
            refine AOps.step rfl rfl rfl (AOp.assignD rfl rfl) ?_
            refine AOps.nil ?_
            refine AWP.seq ?_
            refine AWP.region ?_
            refine AOps.step rfl rfl rfl (AOp.loadAgg rfl ag_25 rfl rfl) ?_
            refine AOps.step rfl rfl rfl (AOp.moveD rfl rfl) ?_
            refine AOps.step rfl rfl rfl (AOp.moveD rfl rfl) ?_
            refine AOps.step rfl rfl rfl (AOp.call rfl (.cons (ArgOk.rfl' rfl) (.cons (ArgOk.rfl' rfl) (.cons (ArgOk.rfl' rfl) .nil))) (c_block item n b sums cs k hb1 hb2 hn hl hlt2 hkb hc20)) ?_
            refine AOps.step rfl rfl rfl (AOp.moveD rfl rfl) ?_
            refine AOps.step rfl rfl rfl (AOp.extract rfl rfl rfl) ?_
            refine AOps.step rfl rfl rfl (AOp.extract rfl rfl rfl) ?_
            refine AOps.step rfl rfl rfl (AOp.assignD rfl rfl) ?_
            refine AOps.step rfl rfl rfl (AOp.assignD rfl rfl) ?_
            refine AOps.nil ?_
            refine AWP.seq ?_
            refine AWP.region ?_
            refine AOps.step rfl rfl rfl (AOp.moveO rfl rfl) ?_
            refine AOps.step rfl rfl rfl (AOp.moveD rfl rfl) ?_
            -- append 51
            refine AOps.append rfl rfl rfl rfl et_22 rfl (.tail _ (.head _)) rfl (by simp [u8D]) (by simp; omega) (by simp; omega) ?_
            refine AOps.step rfl rfl rfl (AOp.assignO rfl rfl) ?_
            refine AOps.nil ?_
            refine AWP.seq ?_
            refine AWP.region ?_
            refine AOps.step rfl rfl rfl (AOp.moveD rfl rfl) ?_
            refine AOps.step rfl rfl rfl (AOp.not rfl rfl) ?_
            refine AOps.nil ?_
            refine AWP.cond rfl (fun h7 => ?_) (fun h7 => ?_)
            · replace h7 := bnot_t h7
              have HWs := wrongOf_yes n b sums cs k (of_decide_eq_false h7)
              refine AWP.region ?_
              refine AOps.step rfl rfl rfl (AOp.moveO rfl rfl) ?_
              refine AOps.step rfl rfl rfl (AOp.moveD rfl rfl) ?_
              refine AOps.step rfl rfl rfl (AOp.buildSlice rfl et_34 (.cons rfl rfl rfl .nil) rfl (by decide)) ?_
              -- append 57
              refine AOps.append rfl rfl rfl rfl et_34 rfl (.head _) rfl (by simp [D.parts]) (by simp; omega) (by simp; omega) ?_
              refine AOps.step rfl rfl rfl (AOp.assignO rfl rfl) ?_
              refine AOps.nil ?_
              refine AWP.region ?_
              refine AOps.step rfl rfl rfl (AOp.add64 rfl rfl rfl (by omega) (by omega)) ?_
              refine AOps.step rfl rfl rfl (AOp.moveD rfl rfl) ?_
              refine AOps.nil ?_
              refine ⟨k + 1, (by omega), (by dsimp only; omega), Sub.less ⟨(SLe.of_eq rfl), SLe.refl _, SLe.refl _, SLe.refl _, SLe.refl _, SLe.refl _, trivial⟩ (by dsimp only; rw [HWs, HOs, List.map_append, List.map_append]; exact fun _ h => h)⟩
            · replace h7 := bnot_f h7
              have HWs := wrongOf_no n b sums cs k (of_decide_eq_true h7)
              refine AWP.skip ?_
              refine AWP.region ?_
              refine AOps.step rfl rfl rfl (AOp.add64 rfl rfl rfl (by omega) (by omega)) ?_
              refine AOps.step rfl rfl rfl (AOp.moveD rfl rfl) ?_
              refine AOps.nil ?_
              refine ⟨k + 1, (by omega), (by dsimp only; omega), Sub.less ⟨(SLe.of_eq rfl), SLe.refl _, SLe.refl _, SLe.refl _, SLe.refl _, SLe.refl _, trivial⟩ (by dsimp only; rw [HWs, HOs, List.map_append]; exact fun _ h => h)⟩
          · replace h6 := of_decide_eq_false h6
            rw [List.length_map] at h6
            obtain rfl : k = sums.length := by omega
            refine AWP.exit ?_
            refine AWP.seq ?_
            refine AWP.region ?_
            refine AOps.step rfl rfl rfl (AOp.moveO rfl rfl) ?_
            refine AOps.step rfl rfl rfl (AOp.moveO rfl rfl) ?_
            refine AOps.step rfl rfl rfl (AOp.assignO rfl rfl) ?_
            refine AOps.step rfl rfl rfl (AOp.assignO rfl rfl) ?_
            refine AOps.step rfl rfl rfl (AOp.assignD rfl rfl) ?_
            refine AOps.nil ?_
            refine AWP.ret ?_
            refine ⟨RetD.own rfl (.tail _ (.head _)) ?_, RetD.own rfl (.head _) ?_, RetD.eq rfl ?_, trivial⟩
            all_goals (rfl)

end Go.Proofs.YtkflhehocbaoiaaDoor
