/- Walks over abstract values. Printed by tools/gen.py. No statement of the seat. -/
import Derived.Test.YtkflhehocbaoiaaDoorV3
import Derived.Test.YtkflhehocbaoiaaDoorA12
namespace Go.Proofs.YtkflhehocbaoiaaDoor
open Go.RowKit
set_option linter.unusedVariables false

/-! Types. -/
namespace TyV4
theorem ag_25 : AggT Tryd.prog 25 4 := .of (by kernel_rfl)
theorem et_22 : ElemTy Tryd.prog 22 5 1 1 (.int .u8 0) := ⟨by kernel_rfl, by kernel_rfl, by kernel_rfl, by decide⟩
theorem et_23 : ElemTy Tryd.prog 23 50 1 4 (.int .u32 0) := ⟨by kernel_rfl, by kernel_rfl, by kernel_rfl, by decide⟩
theorem fo_25_1 : fieldOff Tryd.prog 25 1 = some 1 := by kernel_rfl
theorem fo_25_2 : fieldOff Tryd.prog 25 2 = some 2 := by kernel_rfl
theorem fo_25_3 : fieldOff Tryd.prog 25 3 = some 3 := by kernel_rfl
theorem sc_23 : Scal Tryd.prog 23 := .of (by kernel_rfl)
theorem sc_3 : Scal Tryd.prog 3 := .of (by kernel_rfl)
theorem sc_50 : Scal Tryd.prog 50 := .of (by kernel_rfl)
end TyV4
open TyV4


/-- A manifest's cells. -/
def manD (item : ByteArray) (size block : Int) (sums : List Nat) : List D := [.v (.string item), .v (.int .i64 size), .v (.int .i64 block), .sl (sums.map u32D)]
def rightB (n b : Nat) (sums : List Nat) (bs : List UInt8) (i : Nat) : Bool :=
  decide (((chunk bs b i).length : Int) = min (b : Int) ((n : Int) - (i : Int) * (b : Int))) && decide (((fnv (chunk bs b i) : Nat) : Int) = ((sums.getD i 0 : Nat) : Int))
theorem mulb (i b : Nat) (hi : i ≤ 1000) (hb : b ≤ 20000) : 0 ≤ (i : Int) * (b : Int) ∧ (i : Int) * (b : Int) ≤ 20000000 := by
  refine ⟨Int.mul_nonneg (by omega) (by omega), ?_⟩
  have := Int.mul_le_mul (show (i : Int) ≤ 1000 by omega) (show (b : Int) ≤ 20000 by omega) (by omega) (by omega)
  omega
theorem at_getD {l : List Nat} {i : Nat} (h : i < l.length) : (l.map u32D)[i]? = some (u32D (l.getD i 0)) := by simp [h, List.getD_eq_getElem?_getD]


set_option maxRecDepth 100000 in
set_option maxHeartbeats 1000000 in
theorem c_sizeOf (item : ByteArray) (n b : Nat) (sums : List Nat) (i : Nat) (hb : b ≤ 20000) (hn : n ≤ 20000) (hi : i ≤ 1000) : ACall Tryd.prog 39 [.agg (manD item n b sums), .v (.int .i64 i)] (.v (.int .i64 (min (b : Int) ((n : Int) - (i : Int) * (b : Int))))) := by
  have hm := mulb i b hi hb
  refine acall_of (n := 15) (ds' := [.v (.int .i64 (min (b : Int) ((n : Int) - (i : Int) * (b : Int))))]) Tryd.func39 rfl (by kernel_rfl) rfl [4] rfl rfl ?_
  intro B w0 F0
  refine AWP.seq ?_
  refine AWP.region ?_
  refine AOps.step rfl rfl rfl (AOp.box rfl rfl rfl) ?_
  refine AOps.step rfl rfl rfl (AOp.assignD rfl rfl) ?_
  refine AOps.nil ?_
  refine AWP.seq ?_
  refine AWP.region ?_
  refine AOps.step rfl rfl rfl (AOp.fieldAddr rfl fo_25_2 rfl) ?_
  refine AOps.step rfl rfl rfl (AOp.load rfl sc_3 rfl) ?_
  refine AOps.step rfl rfl rfl (AOp.fieldAddr rfl fo_25_1 rfl) ?_
  refine AOps.step rfl rfl rfl (AOp.load rfl sc_3 rfl) ?_
  refine AOps.step rfl rfl rfl (AOp.moveD rfl rfl) ?_
  refine AOps.step rfl rfl rfl (AOp.fieldAddr rfl fo_25_2 rfl) ?_
  refine AOps.step rfl rfl rfl (AOp.load rfl sc_3 rfl) ?_
  refine AOps.step rfl rfl rfl (AOp.mul64 rfl rfl rfl (by omega) (by omega)) ?_
  refine AOps.step rfl rfl rfl (AOp.sub64 rfl rfl rfl (by omega) (by omega)) ?_
  refine AOps.step rfl rfl rfl (AOp.min rfl rfl rfl) ?_
  refine AOps.step rfl rfl rfl (AOp.assignD rfl rfl) ?_
  refine AOps.nil ?_
  refine AWP.ret ?_
  refine ⟨RetD.eq rfl ?_, trivial⟩
  all_goals (rfl)

set_option maxRecDepth 100000 in
set_option maxHeartbeats 1000000 in
theorem c_whole (item : ByteArray) (n b : Nat) (sums : List Nat) (bs : List UInt8) : ACall Tryd.prog 29 [.agg (manD item n b sums), .sl (bs.map u8D)] (.sl ((bs.take n).map u8D)) := by
  refine acall_of (n := 12) (ds' := [.sl ((bs.take n).map u8D)]) Tryd.func29 rfl (by kernel_rfl) rfl [4] rfl rfl ?_
  intro B w0 F0
  refine AWP.seq ?_
  refine AWP.region ?_
  refine AOps.step rfl rfl rfl (AOp.box rfl rfl rfl) ?_
  refine AOps.step rfl rfl rfl (AOp.assignD rfl rfl) ?_
  refine AOps.nil ?_
  refine AWP.seq ?_
  refine AWP.region ?_
  refine AOps.step rfl rfl rfl (AOp.moveD rfl rfl) ?_
  refine AOps.step rfl rfl rfl (AOp.moveD rfl rfl) ?_
  refine AOps.step rfl rfl rfl (AOp.lenSl rfl et_22.ht rfl) ?_
  refine AOps.step rfl rfl rfl (AOp.fieldAddr rfl fo_25_1 rfl) ?_
  refine AOps.step rfl rfl rfl (AOp.load rfl sc_3 rfl) ?_
  refine AOps.step rfl rfl rfl (AOp.min rfl rfl rfl) ?_
  refine AOps.step rfl rfl rfl (AOp.sliceH rfl et_22 rfl rfl (by omega) (by omega) (by simp [u8D])) ?_
  refine AOps.step rfl rfl rfl (AOp.assignD rfl rfl) ?_
  refine AOps.nil ?_
  refine AWP.ret ?_
  refine ⟨RetD.eq rfl ?_, trivial⟩
  all_goals (rw [List.length_map, show (min (bs.length : Int) (n : Int)).toNat = min bs.length n by omega, ← List.map_take]; congr 1; by_cases h : n ≤ bs.length; (· rw [Nat.min_eq_right h]); (· rw [Nat.min_eq_left (by omega), List.take_of_length_le (Nat.le_refl _), List.take_of_length_le (by omega)]))

set_option maxRecDepth 100000 in
set_option maxHeartbeats 1000000 in
theorem c_pright (item : ByteArray) (n b : Nat) (sums : List Nat) (bs : List UInt8) (i : Nat) (hb : b ≤ 20000) (hn : n ≤ 20000) (hl : sums.length ≤ 1000) (hi : i < sums.length) : ACall Tryd.prog 28 [.agg (manD item n b sums), .sl (bs.map u8D), .v (.int .i64 i)] (.v (.bool (rightB n b sums bs i))) := by
  refine acall_of (n := 29) (ds' := [.v (.bool (rightB n b sums bs i))]) Tryd.func28 rfl (by kernel_rfl) rfl [6] rfl rfl ?_
  intro B w0 F0
  refine AWP.seq ?_
  refine AWP.region ?_
  refine AOps.step rfl rfl rfl (AOp.box rfl rfl rfl) ?_
  refine AOps.step rfl rfl rfl (AOp.assignD rfl rfl) ?_
  refine AOps.nil ?_
  refine AWP.seq ?_
  refine AWP.region ?_
  refine AOps.step rfl rfl rfl (AOp.moveD rfl rfl) ?_
  refine AOps.step rfl rfl rfl (AOp.fieldAddr rfl fo_25_2 rfl) ?_
  refine AOps.step rfl rfl rfl (AOp.load rfl sc_3 rfl) ?_
  refine AOps.step rfl rfl rfl (AOp.moveD rfl rfl) ?_
  refine AOps.step rfl rfl rfl (AOp.call rfl (.cons (ArgOk.rfl' rfl) (.cons (ArgOk.rfl' rfl) (.cons (ArgOk.rfl' rfl) .nil))) (c_blockOf bs b i (by omega) (by omega))) ?_
  refine AOps.step rfl rfl rfl (AOp.assignD rfl rfl) ?_
  refine AOps.nil ?_
  refine AWP.seq ?_
  refine AWP.draw (by kernel_rfl) (by kernel_rfl) ?_
  refine DRun.step rfl rfl rfl (AOp.moveD rfl rfl) ?_
  refine DRun.step rfl rfl rfl (AOp.lenSl rfl et_22.ht rfl) ?_
  refine DRun.step rfl rfl rfl (AOp.loadAgg rfl ag_25 rfl rfl) ?_
  refine DRun.step rfl rfl rfl (AOp.moveD rfl rfl) ?_
  refine DRun.step rfl rfl rfl (AOp.call rfl (.cons (ArgOk.rfl' rfl) (.cons (ArgOk.rfl' rfl) .nil)) (c_sizeOf item n b sums i hb hn (by omega))) ?_
  refine DRun.step rfl rfl rfl (AOp.eql rfl rfl rfl) ?_
  refine DRun.step rfl rfl rfl (AOp.moveD rfl rfl) ?_
  refine DRun.split 19 rfl (fun g1 => ?_) (fun g1 => ?_)
  · replace g1 := of_decide_eq_true g1
    refine DRun.step ⟨19, rfl, .inl ⟨_, rfl, rfl⟩⟩ rfl rfl (AOp.moveD rfl rfl) ?_
    refine DRun.step ⟨19, rfl, .inl ⟨_, rfl, rfl⟩⟩ rfl rfl (AOp.call rfl (.cons (ArgOk.rfl' rfl) .nil) (c_pSum _)) ?_
    refine DRun.step ⟨19, rfl, .inl ⟨_, rfl, rfl⟩⟩ rfl rfl (AOp.fieldAddr rfl fo_25_3 rfl) ?_
    refine DRun.step ⟨19, rfl, .inl ⟨_, rfl, rfl⟩⟩ rfl rfl (AOp.load rfl sc_23 rfl) ?_
    refine DRun.step ⟨19, rfl, .inl ⟨_, rfl, rfl⟩⟩ rfl rfl (AOp.moveD rfl rfl) ?_
    refine DRun.step ⟨19, rfl, .inl ⟨_, rfl, rfl⟩⟩ rfl rfl (AOp.indexAddr rfl et_23 rfl rfl i rfl (at_getD hi) rfl) ?_
    refine DRun.step ⟨19, rfl, .inl ⟨_, rfl, rfl⟩⟩ rfl rfl (AOp.load rfl sc_50 rfl) ?_
    refine DRun.step ⟨19, rfl, .inl ⟨_, rfl, rfl⟩⟩ rfl rfl (AOp.eql rfl rfl rfl) ?_
    refine DRun.step rfl rfl rfl (AOp.pickT rfl rfl rfl) ?_
    refine DRun.step rfl rfl rfl (AOp.assignD rfl rfl) ?_
    refine DRun.nil ?_
    refine AWP.ret ?_
    refine ⟨RetD.eq rfl ?_, trivial⟩
    all_goals (unfold rightB; simp_all)
  · replace g1 := of_decide_eq_false g1
    refine DRun.pass ⟨19, rfl, .inl ⟨_, rfl, rfl⟩⟩ rfl rfl ?_
    refine DRun.pass ⟨19, rfl, .inl ⟨_, rfl, rfl⟩⟩ rfl rfl ?_
    refine DRun.pass ⟨19, rfl, .inl ⟨_, rfl, rfl⟩⟩ rfl rfl ?_
    refine DRun.pass ⟨19, rfl, .inl ⟨_, rfl, rfl⟩⟩ rfl rfl ?_
    refine DRun.pass ⟨19, rfl, .inl ⟨_, rfl, rfl⟩⟩ rfl rfl ?_
    refine DRun.pass ⟨19, rfl, .inl ⟨_, rfl, rfl⟩⟩ rfl rfl ?_
    refine DRun.pass ⟨19, rfl, .inl ⟨_, rfl, rfl⟩⟩ rfl rfl ?_
    refine DRun.pass ⟨19, rfl, .inl ⟨_, rfl, rfl⟩⟩ rfl rfl ?_
    refine DRun.step rfl rfl rfl (AOp.pickF rfl rfl rfl) ?_
    refine DRun.step rfl rfl rfl (AOp.assignD rfl rfl) ?_
    refine DRun.nil ?_
    refine AWP.ret ?_
    refine ⟨RetD.eq rfl ?_, trivial⟩
    all_goals (unfold rightB; simp_all)


theorem part_chunk (bs : List UInt8) (n b i : Nat) (h : i * b ≤ n) (h2 : i * b < bs.length) : (((bs.map u8D).drop (((i * b : Nat) : Int)).toNat).take ((min (min (((i * b : Nat) : Int) + (b : Int)) (n : Int)) (bs.length : Int)).toNat - (((i * b : Nat) : Int)).toNat)) = (chunk (bs.take n) b i).map u8D := by
  have e2 : (min (min (((i * b : Nat) : Int) + (b : Int)) (n : Int)) (bs.length : Int)).toNat = min (min (i * b + b) n) bs.length := by omega
  rw [e2, Int.toNat_natCast, ← List.map_drop, ← List.map_take]
  congr 1
  unfold chunk
  rw [List.drop_take, List.take_take]
  apply List.ext_getElem?
  intro j
  rw [List.getElem?_take, List.getElem?_take]
  by_cases c1 : j < min (min (i * b + b) n) bs.length - i * b
  · rw [if_pos c1, if_pos (by omega)]
  · rw [if_neg c1]
    by_cases c2 : j < min b (n - i * b)
    · rw [if_pos c2, List.getElem?_drop, List.getElem?_eq_none (by omega)]
    · rw [if_neg c2]
theorem part_none (bs : List UInt8) (n b i : Nat) (h2 : bs.length ≤ i * b) : chunk (bs.take n) b i = [] := by
  unfold chunk
  rw [List.drop_eq_nil_of_le (by simp; omega), List.take_nil]


set_option maxRecDepth 100000 in
set_option maxHeartbeats 1000000 in
theorem c_part (item : ByteArray) (n b : Nat) (sums : List Nat) (bs : List UInt8) (i : Nat) (hb : b ≤ 20000) (hn : n ≤ 20000) (hi : i ≤ 1000) (hin : i * b ≤ n) : ACall Tryd.prog 40 [.agg (manD item n b sums), .sl (bs.map u8D), .v (.int .i64 i)] (.tup [.sl ((chunk (bs.take n) b i).map u8D), .v (.int .i64 (min (b : Int) ((n : Int) - (i : Int) * (b : Int))))]) := by
  have hm := mulb i b hi hb
  have hin2 : (i : Int) * (b : Int) ≤ n := by rw [← Int.natCast_mul]; omega
  refine acall_of (n := 38) (ds' := [.sl ((chunk (bs.take n) b i).map u8D), .v (.int .i64 (min (b : Int) ((n : Int) - (i : Int) * (b : Int))))]) Tryd.func40 rfl (by kernel_rfl) rfl [6, 7] rfl rfl ?_
  intro B w0 F0
  refine AWP.seq ?_
  refine AWP.region ?_
  refine AOps.step rfl rfl rfl (AOp.box rfl rfl rfl) ?_
  refine AOps.step rfl rfl rfl (AOp.assignD rfl rfl) ?_
  refine AOps.step rfl rfl rfl (AOp.assignD rfl rfl) ?_
  refine AOps.nil ?_
  refine AWP.seq ?_
  refine AWP.region ?_
  refine AOps.step rfl rfl rfl (AOp.moveD rfl rfl) ?_
  refine AOps.step rfl rfl rfl (AOp.fieldAddr rfl fo_25_2 rfl) ?_
  refine AOps.step rfl rfl rfl (AOp.load rfl sc_3 rfl) ?_
  refine AOps.step rfl rfl rfl (AOp.mul64 rfl rfl rfl (by omega) (by omega)) ?_
  refine AOps.step rfl rfl rfl (AOp.assignD rfl rfl) ?_
  refine AOps.nil ?_
  refine AWP.seq ?_
  refine AWP.region ?_
  refine AOps.step rfl rfl rfl (AOp.moveD rfl rfl) ?_
  refine AOps.step rfl rfl rfl (AOp.fieldAddr rfl fo_25_2 rfl) ?_
  refine AOps.step rfl rfl rfl (AOp.load rfl sc_3 rfl) ?_
  refine AOps.step rfl rfl rfl (AOp.add64 rfl rfl rfl (by omega) (by omega)) ?_
  refine AOps.step rfl rfl rfl (AOp.fieldAddr rfl fo_25_1 rfl) ?_
  refine AOps.step rfl rfl rfl (AOp.load rfl sc_3 rfl) ?_
  refine AOps.step rfl rfl rfl (AOp.min rfl rfl rfl) ?_
  refine AOps.step rfl rfl rfl (AOp.assignD rfl rfl) ?_
  refine AOps.nil ?_
  refine AWP.seq ?_
  refine AWP.seq ?_
  refine AWP.region ?_
  refine AOps.step rfl rfl rfl (AOp.moveD rfl rfl) ?_
  refine AOps.step rfl rfl rfl (AOp.moveD rfl rfl) ?_
  refine AOps.step rfl rfl rfl (AOp.lenSl rfl et_22.ht rfl) ?_
  refine AOps.step rfl rfl rfl (AOp.geq rfl rfl rfl) ?_
  refine AOps.nil ?_
  refine AWP.cond rfl (fun h1 => ?_) (fun h1 => ?_)
  · replace h1 := of_decide_eq_true h1
    rw [List.length_map] at h1
    rw [part_none bs n b i (by have : (i : Int) * (b : Int) = ((i * b : Nat) : Int) := Int.natCast_mul i b; omega)]
    refine AWP.seq ?_
    refine AWP.region ?_
    refine AOps.step rfl rfl rfl (AOp.moveD rfl rfl) ?_
    refine AOps.step rfl rfl rfl (AOp.moveD rfl rfl) ?_
    refine AOps.step rfl rfl rfl (AOp.sub64 rfl rfl rfl (by omega) (by omega)) ?_
    refine AOps.step rfl rfl rfl (AOp.assignD rfl rfl) ?_
    refine AOps.step rfl rfl rfl (AOp.assignD rfl rfl) ?_
    refine AOps.nil ?_
    refine AWP.ret ?_
    refine ⟨RetD.nil rfl, RetD.eq rfl ?_, trivial⟩
    all_goals (first | rfl | exact HC | (congr 3 <;> omega))
  · replace h1 := of_decide_eq_false h1
    rw [List.length_map] at h1
    have HC := part_chunk bs n b i hin (by have : (i : Int) * (b : Int) = ((i * b : Nat) : Int) := Int.natCast_mul i b; omega)
    rw [Int.natCast_mul] at HC
    refine AWP.skip ?_
    refine AWP.seq ?_
    refine AWP.region ?_
    refine AOps.step rfl rfl rfl (AOp.moveD rfl rfl) ?_
    refine AOps.step rfl rfl rfl (AOp.moveD rfl rfl) ?_
    refine AOps.step rfl rfl rfl (AOp.moveD rfl rfl) ?_
    refine AOps.step rfl rfl rfl (AOp.moveD rfl rfl) ?_
    refine AOps.step rfl rfl rfl (AOp.lenSl rfl et_22.ht rfl) ?_
    refine AOps.step rfl rfl rfl (AOp.min rfl rfl rfl) ?_
    rw [List.length_map]
    refine AOps.step rfl rfl rfl (AOp.sliceLH rfl et_22 rfl rfl rfl (by omega) (by omega) (by rw [List.length_map]; omega) (by simp [u8D])) ?_
    refine AOps.step rfl rfl rfl (AOp.moveD rfl rfl) ?_
    refine AOps.step rfl rfl rfl (AOp.moveD rfl rfl) ?_
    refine AOps.step rfl rfl rfl (AOp.sub64 rfl rfl rfl (by omega) (by omega)) ?_
    refine AOps.step rfl rfl rfl (AOp.assignD rfl rfl) ?_
    refine AOps.step rfl rfl rfl (AOp.assignD rfl rfl) ?_
    refine AOps.nil ?_
    refine AWP.ret ?_
    refine ⟨RetD.eq rfl ?_, RetD.eq rfl ?_, trivial⟩
    all_goals (first | rfl | exact HC | (congr 3 <;> omega))

set_option maxRecDepth 100000 in
set_option maxHeartbeats 1000000 in
theorem c_rright (item : ByteArray) (n b : Nat) (sums : List Nat) (bs : List UInt8) (i : Nat) (hb : b ≤ 20000) (hn : n ≤ 20000) (hl : sums.length ≤ 1000) (hi : i < sums.length) (hin : i * b ≤ n) : ACall Tryd.prog 30 [.agg (manD item n b sums), .sl (bs.map u8D), .v (.int .i64 i)] (.v (.bool (rightB n b sums (bs.take n) i))) := by
  refine acall_of (n := 30) (ds' := [.v (.bool (rightB n b sums (bs.take n) i))]) Tryd.func30 rfl (by kernel_rfl) rfl [6] rfl rfl ?_
  intro B w0 F0
  refine AWP.seq ?_
  refine AWP.region ?_
  refine AOps.step rfl rfl rfl (AOp.box rfl rfl rfl) ?_
  refine AOps.step rfl rfl rfl (AOp.assignD rfl rfl) ?_
  refine AOps.nil ?_
  refine AWP.seq ?_
  refine AWP.region ?_
  refine AOps.step rfl rfl rfl (AOp.loadAgg rfl ag_25 rfl rfl) ?_
  refine AOps.step rfl rfl rfl (AOp.moveD rfl rfl) ?_
  refine AOps.step rfl rfl rfl (AOp.moveD rfl rfl) ?_
  refine AOps.step rfl rfl rfl (AOp.call rfl (.cons (ArgOk.rfl' rfl) (.cons (ArgOk.rfl' rfl) (.cons (ArgOk.rfl' rfl) .nil))) (c_part item n b sums bs i hb hn (by omega) hin)) ?_
  refine AOps.step rfl rfl rfl (AOp.moveD rfl rfl) ?_
  refine AOps.step rfl rfl rfl (AOp.extract rfl rfl rfl) ?_
  refine AOps.step rfl rfl rfl (AOp.extract rfl rfl rfl) ?_
  refine AOps.step rfl rfl rfl (AOp.assignD rfl rfl) ?_
  refine AOps.step rfl rfl rfl (AOp.assignD rfl rfl) ?_
  refine AOps.nil ?_
  refine AWP.seq ?_
  refine AWP.draw (by kernel_rfl) (by kernel_rfl) ?_
  refine DRun.step rfl rfl rfl (AOp.moveD rfl rfl) ?_
  refine DRun.step rfl rfl rfl (AOp.lenSl rfl et_22.ht rfl) ?_
  refine DRun.step rfl rfl rfl (AOp.moveD rfl rfl) ?_
  refine DRun.step rfl rfl rfl (AOp.eql rfl rfl rfl) ?_
  refine DRun.step rfl rfl rfl (AOp.moveD rfl rfl) ?_
  refine DRun.split 20 rfl (fun g1 => ?_) (fun g1 => ?_)
  · replace g1 := of_decide_eq_true g1
    refine DRun.step ⟨20, rfl, .inl ⟨_, rfl, rfl⟩⟩ rfl rfl (AOp.moveD rfl rfl) ?_
    refine DRun.step ⟨20, rfl, .inl ⟨_, rfl, rfl⟩⟩ rfl rfl (AOp.call rfl (.cons (ArgOk.rfl' rfl) .nil) (c_rSum _)) ?_
    refine DRun.step ⟨20, rfl, .inl ⟨_, rfl, rfl⟩⟩ rfl rfl (AOp.fieldAddr rfl fo_25_3 rfl) ?_
    refine DRun.step ⟨20, rfl, .inl ⟨_, rfl, rfl⟩⟩ rfl rfl (AOp.load rfl sc_23 rfl) ?_
    refine DRun.step ⟨20, rfl, .inl ⟨_, rfl, rfl⟩⟩ rfl rfl (AOp.moveD rfl rfl) ?_
    refine DRun.step ⟨20, rfl, .inl ⟨_, rfl, rfl⟩⟩ rfl rfl (AOp.indexAddr rfl et_23 rfl rfl i rfl (at_getD hi) rfl) ?_
    refine DRun.step ⟨20, rfl, .inl ⟨_, rfl, rfl⟩⟩ rfl rfl (AOp.load rfl sc_50 rfl) ?_
    refine DRun.step ⟨20, rfl, .inl ⟨_, rfl, rfl⟩⟩ rfl rfl (AOp.eql rfl rfl rfl) ?_
    refine DRun.step rfl rfl rfl (AOp.pickT rfl rfl rfl) ?_
    refine DRun.step rfl rfl rfl (AOp.assignD rfl rfl) ?_
    refine DRun.nil ?_
    refine AWP.ret ?_
    refine ⟨RetD.eq rfl ?_, trivial⟩
    all_goals (unfold rightB; simp_all)
  · replace g1 := of_decide_eq_false g1
    refine DRun.pass ⟨20, rfl, .inl ⟨_, rfl, rfl⟩⟩ rfl rfl ?_
    refine DRun.pass ⟨20, rfl, .inl ⟨_, rfl, rfl⟩⟩ rfl rfl ?_
    refine DRun.pass ⟨20, rfl, .inl ⟨_, rfl, rfl⟩⟩ rfl rfl ?_
    refine DRun.pass ⟨20, rfl, .inl ⟨_, rfl, rfl⟩⟩ rfl rfl ?_
    refine DRun.pass ⟨20, rfl, .inl ⟨_, rfl, rfl⟩⟩ rfl rfl ?_
    refine DRun.pass ⟨20, rfl, .inl ⟨_, rfl, rfl⟩⟩ rfl rfl ?_
    refine DRun.pass ⟨20, rfl, .inl ⟨_, rfl, rfl⟩⟩ rfl rfl ?_
    refine DRun.pass ⟨20, rfl, .inl ⟨_, rfl, rfl⟩⟩ rfl rfl ?_
    refine DRun.step rfl rfl rfl (AOp.pickF rfl rfl rfl) ?_
    refine DRun.step rfl rfl rfl (AOp.assignD rfl rfl) ?_
    refine DRun.nil ?_
    refine AWP.ret ?_
    refine ⟨RetD.eq rfl ?_, trivial⟩
    all_goals (unfold rightB; simp_all)

end Go.Proofs.YtkflhehocbaoiaaDoor
