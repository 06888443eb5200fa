/- Walks and laws over abstract values, merged by tools/merge.py. No statement of the seat. -/
import Derived.WalkKit
import Derived.Ground.NamesProg
import Derived.Shelf.Small.Wraps
import Derived.Shelf.Small.Strs
import Derived.Shelf.Strings.Cut
import Derived.Test.YtagdgclfnbiahaaDoorProg
import Derived.Test.YtagdgclfnbiahaaDoorZG4

namespace Go.Proofs.YtagdgclfnbiahaaDoor
open Go.RowKit
set_option linter.unusedVariables false

/-! Types. -/
namespace TyV1
theorem et_32 : ElemTy Tryd.prog 32 49 1 4 (.int .u32 0) := ⟨by kernel_rfl, by kernel_rfl, by kernel_rfl, by decide⟩
theorem fo_34_0 : fieldOff Tryd.prog 34 0 = some 0 := by kernel_rfl
theorem fo_34_1 : fieldOff Tryd.prog 34 1 = some 1 := by kernel_rfl
theorem fo_34_2 : fieldOff Tryd.prog 34 2 = some 2 := by kernel_rfl
theorem fo_34_3 : fieldOff Tryd.prog 34 3 = some 3 := by kernel_rfl
theorem sc_32 : Scal Tryd.prog 32 := .of (by kernel_rfl)
end TyV1
open TyXA TyXB TySBA TySBB TySBC TySBD TySBE TySBF TySBG TySBH TySBI TySBJ TySBK TyV1

/-- A manifest as data. -/
structure Man where
  item : ByteArray
  size : Int
  block : Int
  sums : List Nat
def Man.ds (m : Man) : List D := [.v (.string m.item), .v (.int .i64 m.size), .v (.int .i64 m.block), .sl (m.sums.map u32D)]
/-- How many blocks so many bytes have. -/
def nblocks (size block : Int) : Int := (size + block - 1) / block
def manFault (m : Man) : Int :=
  if isName m.item.data.toList = false then 5 else if m.size < 0 ∨ 20000 < m.size ∨ m.block < 1 ∨ 20000 < m.block then 1 else if 1000 < nblocks m.size m.block then 2 else if (m.sums.length : Int) ≠ nblocks m.size m.block then 3 else 0
theorem nblocks_nat (n b : Nat) (h : 1 ≤ b) : nblocks n b = ((nblk n b : Nat) : Int) := by
  unfold nblocks nblk
  rw [show (n : Int) + b - 1 = ((n + b - 1 : Nat) : Int) by omega]
  exact (Int.natCast_ediv _ _).symm
theorem cut_chunk (bs : List UInt8) (b i : Nat) : (((bs.map u8D).drop (min ((bs.map u8D).length : Int) ((i : Int) * (b : Int))).toNat).take ((min ((bs.map u8D).length : Int) (((i : Int) + 1) * (b : Int))).toNat - (min ((bs.map u8D).length : Int) ((i : Int) * (b : Int))).toNat)) = (chunk bs b i).map u8D := by
  have hm : ∀ (n m : Nat), (min (n : Int) (m : Int)).toNat = min n m := by intro n m; omega
  have e1 : (min ((bs.map u8D).length : Int) ((i : Int) * (b : Int))).toNat = min bs.length (i * b) := by
    rw [← Int.natCast_mul, hm, List.length_map]
  have e2 : (min ((bs.map u8D).length : Int) (((i : Int) + 1) * (b : Int))).toNat = min bs.length ((i + 1) * b) := by
    rw [show ((i : Int) + 1) * (b : Int) = (((i + 1) * b : Nat) : Int) by rw [Int.natCast_mul]; rfl, hm, List.length_map]
  rw [e1, e2, ← List.map_drop, ← List.map_take]
  congr 1
  unfold chunk
  rw [Nat.add_mul, Nat.one_mul]
  by_cases h : i * b ≤ bs.length
  · rw [Nat.min_eq_right h]
    by_cases h2 : i * b + b ≤ bs.length
    · rw [Nat.min_eq_right h2, Nat.add_sub_cancel_left]
    · rw [Nat.min_eq_left (by omega), List.take_of_length_le (by simp), List.take_of_length_le (by simp; omega)]
  · rw [Nat.min_eq_left (by omega), Nat.min_eq_left (by omega), Nat.sub_self, List.take_zero, List.drop_eq_nil_of_le (by omega), List.take_nil]
def sumsRes (bs : List UInt8) (block : Int) : List Nat × Int :=
  if 20000 < (bs.length : Int) then ([], 2) else if block < 1 ∨ 20000 < block then ([], 1) else (sumsTo bs block.toNat (nblk bs.length block.toNat), 0)

set_option maxRecDepth 100000 in
set_option maxHeartbeats 1000000 in
theorem c_blocks (n b : Int) (h0 : 0 ≤ n) (h1 : 1 ≤ b) (h2 : n + b ≤ 4611686018427387904) : ACall Tryd.prog 28 [.v (.int .i64 n), .v (.int .i64 b)] (.v (.int .i64 (nblocks n b))) := by
 refine acall_of (n := 11) (ds' := [.v (.int .i64 (nblocks n b))]) Tryd.func28 rfl (by kernel_rfl) rfl [4] rfl rfl ?_
 intro B w0 F0 fr
 refine .sr ?_
 refine .aA (.nil ?_)
 refine .sr ?_
 refine .mA ?_
 refine .mA ?_
 refine .sA (.add64 rfl rfl rfl (by omega) (by omega)) ?_
 refine .sA (.sub64 rfl rfl rfl (by omega) (by omega)) ?_
 refine .mA ?_
 refine .sA (.quo64 rfl rfl rfl (by omega) (by omega) (by omega)) ?_
 refine .aA (.nil ?_)
 refine .ret ?_
 refine ⟨RetD.eq rfl ?_, trivial⟩
 all_goals (rfl)

set_option maxRecDepth 100000 in
set_option maxHeartbeats 1000000 in
theorem c_pMan (m : Man) (hs : m.item.size ≤ 9223372036854775807) : ACall Tryd.prog 25 [.agg m.ds] (.v (.int .i64 (manFault m))) := by
 refine acall_of (n := 44) (ds' := [.v (.int .i64 (manFault m))]) Tryd.func25 rfl (by kernel_rfl) rfl [2] rfl rfl ?_
 intro B w0 F0 fr
 refine .sr ?_
 refine .sA (.box rfl rfl rfl) ?_
 refine .aA (.nil ?_)
 refine .seq ?_
 refine .block ?_
 refine .sr ?_
 refine .sA (.fieldAddr rfl fo_34_0 rfl) ?_
 refine .sA (.load rfl sc_9 rfl) ?_
 refine .sA (.call rfl (.cons (.rfl' rfl) .nil) (c_pName _ (by assumption))) ?_
 refine .sA (.not rfl rfl) ?_
 refine .aA (.nil ?_)
 refine .cond rfl (fun h1 => ?_) (fun h1 => ?_)
 ·replace h1 := bnot_t h1
  refine .sr ?_
  refine .aA (.nil ?_)
  refine .ret ?_
  refine ⟨RetD.eq rfl ?_, trivial⟩
  all_goals (unfold manFault; (repeat' split) <;> first | rfl | omega | simp_all)
 replace h1 := bnot_f h1
 refine .sr ?_
 refine .sA (.fieldAddr rfl fo_34_1 rfl) ?_
 refine .sA (.load rfl sc_3 rfl) ?_
 refine .sA (.lss rfl rfl rfl) ?_
 refine .mA ?_
 refine .split 12 rfl (fun g2 => ?_) (fun g2 => ?_)
 ·replace g2 := of_decide_eq_true g2
  refine .pA ?_
  refine .pA ?_
  refine .pA ?_
  refine .sA (.pickT rfl rfl rfl) ?_
  refine .mA ?_
  refine .pA ?_
  refine .pA ?_
  refine .pA ?_
  refine .sA (.pickT rfl rfl rfl) ?_
  refine .mA ?_
  refine .pA ?_
  refine .pA ?_
  refine .pA ?_
  refine .sA (.pickT rfl rfl rfl) ?_
  refine .aA (.nil ?_)
  refine .cond rfl (fun _ => ?_) (fun h => nomatch h)
  refine .sr ?_
  refine .aA (.nil ?_)
  refine .ret ?_
  refine ⟨RetD.eq rfl ?_, trivial⟩
  all_goals (unfold manFault; (repeat' split) <;> first | rfl | omega | simp_all)
 replace g2 := of_decide_eq_false g2
 refine .sG (.fieldAddr rfl fo_34_1 rfl) ?_
 refine .sG (.load rfl sc_3 rfl) ?_
 refine .sG (.gtr rfl rfl rfl) ?_
 refine .sA (.pickF rfl rfl rfl) ?_
 refine .mA ?_
 refine .split 17 rfl (fun g3 => ?_) (fun g3 => ?_)
 ·replace g3 := of_decide_eq_true g3
  refine .pA ?_
  refine .pA ?_
  refine .pA ?_
  refine .sA (.pickT rfl rfl rfl) ?_
  refine .mA ?_
  refine .pA ?_
  refine .pA ?_
  refine .pA ?_
  refine .sA (.pickT rfl rfl rfl) ?_
  refine .aA (.nil ?_)
  refine .cond rfl (fun _ => ?_) (fun h => nomatch h)
  refine .sr ?_
  refine .aA (.nil ?_)
  refine .ret ?_
  refine ⟨RetD.eq rfl ?_, trivial⟩
  all_goals (unfold manFault; (repeat' split) <;> first | rfl | omega | simp_all)
 replace g3 := of_decide_eq_false g3
 refine .sG (.fieldAddr rfl fo_34_2 rfl) ?_
 refine .sG (.load rfl sc_3 rfl) ?_
 refine .sG (.lss rfl rfl rfl) ?_
 refine .sA (.pickF rfl rfl rfl) ?_
 refine .mA ?_
 refine .split 22 rfl (fun g4 => ?_) (fun g4 => ?_)
 ·replace g4 := of_decide_eq_true g4
  refine .pA ?_
  refine .pA ?_
  refine .pA ?_
  refine .sA (.pickT rfl rfl rfl) ?_
  refine .aA (.nil ?_)
  refine .cond rfl (fun _ => ?_) (fun h => nomatch h)
  refine .sr ?_
  refine .aA (.nil ?_)
  refine .ret ?_
  refine ⟨RetD.eq rfl ?_, trivial⟩
  all_goals (unfold manFault; (repeat' split) <;> first | rfl | omega | simp_all)
 replace g4 := of_decide_eq_false g4
 refine .sG (.fieldAddr rfl fo_34_2 rfl) ?_
 refine .sG (.load rfl sc_3 rfl) ?_
 refine .sG (.gtr rfl rfl rfl) ?_
 refine .sA (.pickF rfl rfl rfl) ?_
 refine .aA (.nil ?_)
 refine .cond rfl (fun h5 => ?_) (fun h5 => ?_)
 ·replace h5 := of_decide_eq_true h5
  refine .sr ?_
  refine .aA (.nil ?_)
  refine .ret ?_
  refine ⟨RetD.eq rfl ?_, trivial⟩
  all_goals (unfold manFault; (repeat' split) <;> first | rfl | omega | simp_all)
 replace h5 := of_decide_eq_false h5
 refine .sr ?_
 refine .sA (.fieldAddr rfl fo_34_1 rfl) ?_
 refine .sA (.load rfl sc_3 rfl) ?_
 refine .sA (.fieldAddr rfl fo_34_2 rfl) ?_
 refine .sA (.load rfl sc_3 rfl) ?_
 refine .sA (.call rfl (.cons (.rfl' rfl) (.cons (.rfl' rfl) .nil)) (c_blocks _ _ (by first | assumption | omega) (by first | assumption | omega) (by first | assumption | omega))) ?_
 refine .sA (.gtr rfl rfl rfl) ?_
 refine .aA (.nil ?_)
 refine .cond rfl (fun h6 => ?_) (fun h6 => ?_)
 ·replace h6 := of_decide_eq_true h6
  refine .sr ?_
  refine .aA (.nil ?_)
  refine .ret ?_
  refine ⟨RetD.eq rfl ?_, trivial⟩
  all_goals (unfold manFault; (repeat' split) <;> first | rfl | omega | simp_all)
 replace h6 := of_decide_eq_false h6
 refine .seq ?_
 refine .draw (by kernel_rfl) (by kernel_rfl) ?_
 refine .sA (.fieldAddr rfl fo_34_3 rfl) ?_
 refine .sA (.load rfl sc_32 rfl) ?_
 refine .sA (.lenSl rfl et_32.ht rfl) ?_
 refine .sA (.fieldAddr rfl fo_34_1 rfl) ?_
 refine .sA (.load rfl sc_3 rfl) ?_
 refine .sA (.fieldAddr rfl fo_34_2 rfl) ?_
 refine .sA (.load rfl sc_3 rfl) ?_
 refine .sA (.call rfl (.cons (.rfl' rfl) (.cons (.rfl' rfl) .nil)) (c_blocks _ _ (by first | assumption | omega) (by first | assumption | omega) (by first | assumption | omega))) ?_
 refine .sA (.neq rfl rfl rfl) ?_
 refine .sA (.assignD rfl rfl) ?_
 refine .nil ?_
 refine .cond rfl (fun h7 => ?_) (fun h7 => ?_)
 ·replace h7 := of_decide_eq_true h7
  refine .sr ?_
  refine .aA (.nil ?_)
  refine .ret ?_
  refine ⟨RetD.eq rfl ?_, trivial⟩
  all_goals (unfold manFault; (repeat' split) <;> first | rfl | omega | simp_all)
 replace h7 := of_decide_eq_false h7
 refine .skip ?_
 refine .sr ?_
 refine .aA (.nil ?_)
 refine .ret ?_
 refine ⟨RetD.eq rfl ?_, trivial⟩
 all_goals (unfold manFault; (repeat' split) <;> first | rfl | omega | simp_all)

set_option maxRecDepth 100000 in
set_option maxHeartbeats 1000000 in
theorem c_blockOf (bs : List UInt8) (b i : Nat) (hb : b ≤ 1000000) (hi : i ≤ 1000000) : ACall Tryd.prog 29 [.sl (bs.map u8D), .v (.int .i64 b), .v (.int .i64 i)] (.sl ((chunk bs b i).map u8D)) := by
 have p1 : 0 ≤ (i : Int) * (b : Int) := Int.mul_nonneg (by omega) (by omega)
 have p2 : ((i : Int) + 1) * (b : Int) = (i : Int) * (b : Int) + b := by rw [Int.add_mul, Int.one_mul]
 have p3 : (i : Int) * (b : Int) ≤ 1000000 * 1000000 := Int.mul_le_mul (by omega) (by omega) (by omega) (by omega)
 refine acall_of (n := 22) (ds' := [.sl ((chunk bs b i).map u8D)]) Tryd.func29 rfl (by kernel_rfl) rfl [6] rfl rfl ?_
 intro B w0 F0 fr
 refine .sr ?_
 refine .aA (.nil ?_)
 refine .sr ?_
 refine .mA ?_
 refine .mA ?_
 refine .sA (.lenSl rfl et_28.ht rfl) ?_
 refine .mA ?_
 refine .mA ?_
 refine .sA (.mul64 rfl rfl rfl (by omega) (by omega)) ?_
 refine .sA (.min rfl rfl rfl) ?_
 refine .mA ?_
 refine .sA (.lenSl rfl et_28.ht rfl) ?_
 refine .mA ?_
 refine .sA (.add64 rfl rfl rfl (by omega) (by omega)) ?_
 refine .mA ?_
 refine .sA (.mul64 rfl rfl rfl (by omega) (by omega)) ?_
 refine .sA (.min rfl rfl rfl) ?_
 refine .sA (.sliceLH rfl et_28 rfl rfl rfl (by omega) (by omega) (by omega) (by simp [u8D])) ?_
 refine .aA (.nil ?_)
 refine .ret ?_
 refine ⟨RetD.eq rfl ?_, trivial⟩
 all_goals (rw [cut_chunk])

set_option maxRecDepth 100000 in
set_option maxHeartbeats 1000000 in
theorem c_pSums (bs : List UInt8) (block : Int) : ACall Tryd.prog 11 [.sl (bs.map u8D), .v (.int .i64 block)] (.tup [.sl ((sumsRes bs block).1.map u32D), .v (.int .i64 (sumsRes bs block).2)]) := by
 refine acall_of (n := 34) (ds' := [.sl ((sumsRes bs block).1.map u32D), .v (.int .i64 (sumsRes bs block).2)]) Tryd.func11 rfl (by kernel_rfl) rfl [4, 5] rfl rfl ?_
 intro B w0 F0 fr
 refine .sr ?_
 refine .aA ?_
 refine .aA (.nil ?_)
 refine .seq ?_
 refine .sr ?_
 refine .mA ?_
 refine .sA (.lenSl rfl et_28.ht rfl) ?_
 refine .sA (.gtr rfl rfl rfl) (.nil ?_)
 refine .cond rfl (fun h1 => ?_) (fun h1 => ?_)
 ·replace h1 := of_decide_eq_true h1
  rw [List.length_map] at h1
  have HR : sumsRes bs block = ([], 2) := by unfold sumsRes; rw [if_pos h1]
  rw [HR]
  refine .sr ?_
  refine .aA ?_
  refine .aA (.nil ?_)
  refine .ret ?_
  refine ⟨RetD.nil rfl, RetD.eq rfl ?_, trivial⟩
  all_goals (first | rfl | rw [show k = nblk bs.length b by omega])
 replace h1 := of_decide_eq_false h1
 rw [List.length_map] at h1
 refine .skip ?_
 refine .seq ?_
 refine .sr ?_
 refine .mA ?_
 refine .sA (.lss rfl rfl rfl) ?_
 refine .mA ?_
 refine .split 13 rfl (fun g2 => ?_) (fun g2 => ?_)
 ·replace g2 := of_decide_eq_true g2
  refine .pA ?_
  refine .pA ?_
  refine .sA (.pickT rfl rfl rfl) (.nil ?_)
  refine .cond rfl (fun _ => ?_) (fun h => nomatch h)
  refine .seq ?_
  have HR : sumsRes bs block = ([], 1) := by unfold sumsRes; rw [if_neg (by omega), if_pos (by omega)]
  rw [HR]
  refine .region ?_
  refine .aA ?_
  refine .aA (.nil ?_)
  refine .ret ?_
  refine ⟨RetD.nil rfl, RetD.eq rfl ?_, trivial⟩
  all_goals (first | rfl | rw [show k = nblk bs.length b by omega])
 replace g2 := of_decide_eq_false g2
 refine .sG (.moveD rfl rfl) ?_
 refine .sG (.gtr rfl rfl rfl) ?_
 refine .sA (.pickF rfl rfl rfl) (.nil ?_)
 refine .cond rfl (fun h3 => ?_) (fun h3 => ?_)
 ·replace h3 := of_decide_eq_true h3
  refine .seq ?_
  have HR : sumsRes bs block = ([], 1) := by unfold sumsRes; rw [if_neg (by omega), if_pos (by omega)]
  rw [HR]
  refine .region ?_
  refine .aA ?_
  refine .aA (.nil ?_)
  refine .ret ?_
  refine ⟨RetD.nil rfl, RetD.eq rfl ?_, trivial⟩
  all_goals (first | rfl | rw [show k = nblk bs.length b by omega])
 replace h3 := of_decide_eq_false h3
 refine .skip ?_
 refine .sr ?_
 refine .aA (.nil ?_)
 refine .seq ?_
 refine .seq ?_
 obtain ⟨b, rfl⟩ := Int.eq_ofNat_of_zero_le (show 0 ≤ block by omega)
 have HR : sumsRes bs b = (sumsTo bs b (nblk bs.length b), 0) := by unfold sumsRes; rw [if_neg (by omega), if_neg (by omega)]; rfl
 rw [HR]
 have HN := nblocks_nat bs.length b (by omega)
 have HL := nblk_le bs.length b (by omega)
 refine .region ?_
 refine .mA ?_
 refine .sA (.lenSl rfl et_28.ht rfl) ?_
 refine .mA ?_
 refine .sA (.call rfl (.cons (.rfl' rfl) (.cons (.rfl' rfl) .nil)) (by have := c_blocks (bs.length : Int) b (by omega) (by omega) (by omega); rw [HN] at this; rw [List.length_map]; exact this)) ?_
 refine .mA (.nil ?_)
 refine .block ?_
 refine .adopt 6 1 49 1 rfl rfl ?_
 refine .loop (G := Nat) (fun k => Env.of [(21, .d (.v (.int .i64 (k : Int)))), (0, .d (.sl (bs.map u8D))), (1, .d (.v (.int .i64 (b : Int)))), (20, .d (.v (.int .i64 (nblk bs.length b : Int)))), (6, .own 1)]) (fun k => [(1, .row 49 1 ((sumsTo bs b k).map u32D))]) (fun k => k ≤ nblk bs.length b) (fun k => nblk bs.length b - k) 0 (Nat.zero_le _) (Sub.less ⟨(SLe.of_eq rfl), SLe.refl _, SLe.refl _, SLe.refl _, SLe.refl _, trivial⟩ (fun _ h => h)) ?_
 intro k hk
 refine .sr ?_
 refine .sA (.lss rfl rfl rfl) (.nil ?_)
 refine .seq ?_
 refine .cond rfl (fun h4 => ?_) (fun h4 => ?_)
 ·replace h4 := of_decide_eq_true h4
  refine .skip ?_
  refine .seq ?_
  refine .block ?_
  refine .sr ?_
  refine .mA ?_
  refine .aA (.nil ?_)
  refine .region ?_
  refine .sA (.moveO rfl rfl) ?_
  refine .mA ?_
  refine .mA ?_
  refine .mA ?_
  refine .sA (.call rfl (.cons (.rfl' rfl) (.cons (.rfl' rfl) (.cons (.rfl' rfl) .nil))) (c_blockOf bs b k (by omega) (by omega))) ?_
  refine .sA (.call rfl (.cons (.rfl' rfl) .nil) (c_pSum _)) ?_
  refine .sA (.buildSlice rfl et_32 (.cons rfl rfl rfl .nil) rfl (by decide)) ?_
  -- append 31
  refine .append rfl rfl rfl rfl et_32 rfl (.head _) rfl (by simp [D.parts]) (by simp [sumsTo_length]; omega) (by simp [sumsTo_length]; omega) ?_
  refine .sA (.assignO rfl rfl) (.nil ?_)
  refine .region ?_
  refine .sA (.add64 rfl rfl rfl (by omega) (by omega)) ?_
  refine .mA (.nil ?_)
  refine ⟨k + 1, (by omega), (by dsimp only; omega), Sub.less ⟨(SLe.of_eq rfl), SLe.refl _, SLe.refl _, SLe.refl _, SLe.refl _, trivial⟩ (by show ∀ p ∈ [(1, Ob.row 49 1 ((sumsTo bs b (k + 1)).map u32D))], _; rw [sumsTo_succ, List.map_append]; exact fun _ h => h)⟩
 replace h4 := of_decide_eq_false h4
 refine .exit ?_
 refine .sr ?_
 refine .sA (.moveO rfl rfl) ?_
 refine .sA (.assignO rfl rfl) ?_
 refine .aA (.nil ?_)
 refine .ret ?_
 refine ⟨RetD.own rfl (.head _) ?_, RetD.eq rfl ?_, trivial⟩
 all_goals (first | rfl | rw [show k = nblk bs.length b by omega])

end Go.Proofs.YtagdgclfnbiahaaDoor

namespace Go.Proofs.YtagdgclfnbiahaaDoor
open Go.RowKit
set_option linter.unusedVariables false

/-! Types. -/
namespace TyV2
theorem ag_34 : AggT Tryd.prog 34 4 := .of (by kernel_rfl)
theorem bu_34 : StructT Tryd.prog 34 (fun i => (#[(0, 1), (1, 1), (2, 1), (3, 1)] : Array (Nat × Nat))[i]?) [(.string ⟨#[]⟩), (.int .i64 0), (.int .i64 0), (.slice none 0 0)] := .of (by kernel_rfl) (by kernel_rfl) (by decide)
theorem sz_34 : ∀ w, (sizeOf 34).run Tryd.prog w = .ok 4 w := SizeT.of (by kernel_rfl)
theorem zt_34 : (Tryd.prog.info? 34).bind (·.zero) = some (.agg #[(.string ⟨#[]⟩), (.int .i64 0), (.int .i64 0), (.slice none 0 0)]) := by kernel_rfl
end TyV2
open TyXA TyXB TySBA TySBB TySBC TySBD TySBE TySBF TySBG TySBH TySBI TySBJ TySBK TyV1 TyV2

def Man.zero : Man := ⟨⟨#[]⟩, 0, 0, []⟩
def makeRes (item : ByteArray) (bs : List UInt8) (block : Int) : Man × Int :=
  if isName item.data.toList = false then (Man.zero, 5) else if (sumsRes bs block).2 ≠ 0 then (Man.zero, (sumsRes bs block).2) else if 1000 < ((sumsRes bs block).1.length : Int) then (Man.zero, 2) else (⟨item, bs.length, block, (sumsRes bs block).1⟩, 0)

set_option maxRecDepth 100000 in
set_option maxHeartbeats 1000000 in
theorem c_pMake (item : ByteArray) (bs : List UInt8) (block : Int) (hs : item.size ≤ 9223372036854775807) : ACall Tryd.prog 6 [.v (.string item), .sl (bs.map u8D), .v (.int .i64 block)] (.tup [.agg (makeRes item bs block).1.ds, .v (.int .i64 (makeRes item bs block).2)]) := by
 refine acall_ofR (n := 34) (ds' := [.agg (makeRes item bs block).1.ds, .v (.int .i64 (makeRes item bs block).2)]) Tryd.func6 rfl (by kernel_rfl) rfl [.cell 6 34, .tmp 7] rfl rfl ?_
 intro B w0 F0 fr
 refine .sr ?_
 refine .alloc 101 rfl rfl rfl rfl zt_34 rfl rfl rfl ?_
 refine .aA (.nil ?_)
 refine .seq ?_
 refine .sr ?_
 refine .mA ?_
 refine .sA (.call rfl (.cons (.rfl' rfl) .nil) (c_pName _ (by assumption))) ?_
 refine .sA (.not rfl rfl) (.nil ?_)
 refine .cond rfl (fun h1 => ?_) (fun h1 => ?_)
 ·replace h1 := bnot_t h1
  have HR : makeRes item bs block = (Man.zero, 5) := by unfold makeRes; rw [if_pos h1]
  refine .sr ?_
  refine .sA (.build rfl bu_34 .nil rfl) ?_
  refine .store rfl rfl rfl sz_34 rfl (.head _) rfl rfl rfl (Nat.le_of_ble_eq_true rfl) ?_
  refine .aA (.nil ?_)
  refine .ret ?_
  rw [HR]
  refine ⟨RetR.agg rfl (.head _) ag_34 rfl (.cons (by first | exact CellD.nil | exact CellD.d | exact CellD.eq (by simp) | (refine CellD.own (by first | exact .head _ | exact .tail _ (.head _)) ?_; rfl)) (.cons (by first | exact CellD.nil | exact CellD.d | exact CellD.eq (by simp) | (refine CellD.own (by first | exact .head _ | exact .tail _ (.head _)) ?_; rfl)) (.cons (by first | exact CellD.nil | exact CellD.d | exact CellD.eq (by simp) | (refine CellD.own (by first | exact .head _ | exact .tail _ (.head _)) ?_; rfl)) (.cons (by first | exact CellD.nil | exact CellD.d | exact CellD.eq (by simp) | (refine CellD.own (by first | exact .head _ | exact .tail _ (.head _)) ?_; rfl)) .nil)))), RetD.eq rfl ?_, trivial⟩
  all_goals (rfl)
 replace h1 := bnot_f h1
 have HN : ¬ isName item.data.toList = false := by rw [h1]; simp
 refine .skip ?_
 refine .sr ?_
 refine .mA ?_
 refine .mA ?_
 refine .sA (.call rfl (.cons (.rfl' rfl) (.cons (.rfl' rfl) .nil)) (c_pSums _ _)) ?_
 refine .mA ?_
 refine .sA (.extract rfl rfl rfl) ?_
 refine .sA (.extract rfl rfl rfl) ?_
 refine .aA ?_
 refine .aA (.nil ?_)
 refine .seq ?_
 refine .sr ?_
 refine .mA ?_
 refine .sA (.neq rfl rfl rfl) (.nil ?_)
 refine .cond rfl (fun h2 => ?_) (fun h2 => ?_)
 ·replace h2 := of_decide_eq_true h2
  have HR : makeRes item bs block = (Man.zero, (sumsRes bs block).2) := by unfold makeRes; rw [if_neg HN, if_pos h2]
  refine .sr ?_
  refine .sA (.build rfl bu_34 .nil rfl) ?_
  refine .mA ?_
  refine .store rfl rfl rfl sz_34 rfl (.head _) rfl rfl rfl (Nat.le_of_ble_eq_true rfl) ?_
  refine .aA (.nil ?_)
  refine .ret ?_
  rw [HR]
  refine ⟨RetR.agg rfl (.head _) ag_34 rfl (.cons (by first | exact CellD.nil | exact CellD.d | exact CellD.eq (by simp) | (refine CellD.own (by first | exact .head _ | exact .tail _ (.head _)) ?_; rfl)) (.cons (by first | exact CellD.nil | exact CellD.d | exact CellD.eq (by simp) | (refine CellD.own (by first | exact .head _ | exact .tail _ (.head _)) ?_; rfl)) (.cons (by first | exact CellD.nil | exact CellD.d | exact CellD.eq (by simp) | (refine CellD.own (by first | exact .head _ | exact .tail _ (.head _)) ?_; rfl)) (.cons (by first | exact CellD.nil | exact CellD.d | exact CellD.eq (by simp) | (refine CellD.own (by first | exact .head _ | exact .tail _ (.head _)) ?_; rfl)) .nil)))), RetD.eq rfl ?_, trivial⟩
  all_goals (rfl)
 replace h2 := of_decide_eq_false h2
 refine .skip ?_
 refine .seq ?_
 refine .sr ?_
 refine .mA ?_
 refine .sA (.lenSl rfl et_32.ht rfl) ?_
 refine .sA (.gtr rfl rfl rfl) (.nil ?_)
 refine .cond rfl (fun h3 => ?_) (fun h3 => ?_)
 ·replace h3 := of_decide_eq_true h3
  rw [List.length_map] at h3
  have HR : makeRes item bs block = (Man.zero, 2) := by unfold makeRes; rw [if_neg HN, if_neg h2, if_pos h3]
  refine .sr ?_
  refine .sA (.build rfl bu_34 .nil rfl) ?_
  refine .store rfl rfl rfl sz_34 rfl (.head _) rfl rfl rfl (Nat.le_of_ble_eq_true rfl) ?_
  refine .aA (.nil ?_)
  refine .ret ?_
  rw [HR]
  refine ⟨RetR.agg rfl (.head _) ag_34 rfl (.cons (by first | exact CellD.nil | exact CellD.d | exact CellD.eq (by simp) | (refine CellD.own (by first | exact .head _ | exact .tail _ (.head _)) ?_; rfl)) (.cons (by first | exact CellD.nil | exact CellD.d | exact CellD.eq (by simp) | (refine CellD.own (by first | exact .head _ | exact .tail _ (.head _)) ?_; rfl)) (.cons (by first | exact CellD.nil | exact CellD.d | exact CellD.eq (by simp) | (refine CellD.own (by first | exact .head _ | exact .tail _ (.head _)) ?_; rfl)) (.cons (by first | exact CellD.nil | exact CellD.d | exact CellD.eq (by simp) | (refine CellD.own (by first | exact .head _ | exact .tail _ (.head _)) ?_; rfl)) .nil)))), RetD.eq rfl ?_, trivial⟩
  all_goals (rfl)
 replace h3 := of_decide_eq_false h3
 rw [List.length_map] at h3
 have HR : makeRes item bs block = (⟨item, bs.length, block, (sumsRes bs block).1⟩, 0) := by unfold makeRes; rw [if_neg HN, if_neg h2, if_neg h3]
 rw [List.length_map]
 refine .skip ?_
 refine .sr ?_
 refine .mA ?_
 refine .mA ?_
 refine .sA (.lenSl rfl et_28.ht rfl) ?_
 refine .mA ?_
 refine .mA ?_
 refine .sA (.build rfl bu_34 (.cons rfl rfl (.cons rfl rfl (.cons rfl rfl (.cons rfl rfl .nil)))) rfl) ?_
 refine .store rfl rfl rfl sz_34 rfl (.head _) rfl rfl rfl (Nat.le_of_ble_eq_true rfl) ?_
 refine .aA (.nil ?_)
 refine .ret ?_
 rw [HR]
 refine ⟨RetR.agg rfl (.head _) ag_34 rfl (.cons (by first | exact CellD.nil | exact CellD.d | exact CellD.eq (by simp) | (refine CellD.own (by first | exact .head _ | exact .tail _ (.head _)) ?_; rfl)) (.cons (by first | exact CellD.nil | exact CellD.d | exact CellD.eq (by simp) | (refine CellD.own (by first | exact .head _ | exact .tail _ (.head _)) ?_; rfl)) (.cons (by first | exact CellD.nil | exact CellD.d | exact CellD.eq (by simp) | (refine CellD.own (by first | exact .head _ | exact .tail _ (.head _)) ?_; rfl)) (.cons (by first | exact CellD.nil | exact CellD.d | exact CellD.eq (by simp) | (refine CellD.own (by first | exact .head _ | exact .tail _ (.head _)) ?_; rfl)) .nil)))), RetD.eq rfl ?_, trivial⟩
 all_goals (rfl)

end Go.Proofs.YtagdgclfnbiahaaDoor

namespace Go.Proofs.YtagdgclfnbiahaaDoor
open Go.RowKit
set_option linter.unusedVariables false

/-! Types. -/
namespace TyV3
theorem sc_49 : Scal Tryd.prog 49 := .of (by kernel_rfl)
end TyV3
open TyXA TyXB TySBA TySBB TySBC TySBD TySBE TySBF TySBG TySBH TySBI TySBJ TySBK TyV1 TyV2 TyV3

set_option maxRecDepth 100000 in
set_option maxHeartbeats 1000000 in
theorem c_eqU32 (l : List Nat) : ACall Tryd.prog 12 [.sl (l.map u32D), .sl (l.map u32D)] (.v (.bool true)) := by
 refine acall_of (n := 26) (ds' := [.v (.bool true)]) Tryd.func12 rfl (by kernel_rfl) rfl [4] rfl rfl ?_
 intro B w0 F0 fr
 refine .bound 0 rfl (fun hbd0 => ?_)
 rw [List.length_map] at hbd0
 refine .sr ?_
 refine .aA (.nil ?_)
 refine .seq ?_
 refine .sr ?_
 refine .mA ?_
 refine .sA (.lenSl rfl et_32.ht rfl) ?_
 refine .mA ?_
 refine .sA (.lenSl rfl et_32.ht rfl) ?_
 refine .sA (.neq rfl rfl rfl) (.nil ?_)
 refine .cond rfl (fun h1 => ?_) (fun h1 => ?_)
 ·replace h1 := of_decide_eq_true h1
  exact absurd rfl h1
 replace h1 := of_decide_eq_false h1
 refine .skip ?_
 refine .seq ?_
 refine .sr ?_
 refine .mA ?_
 refine .sA (.lenSl rfl et_32.ht rfl) ?_
 refine .mA (.nil ?_)
 refine .block ?_
 refine .loop (G := Nat) (fun k => Env.of [(13, .d (.v (.int .i64 (k : Int)))), (0, .d (.sl (l.map u32D))), (1, .d (.sl (l.map u32D))), (12, .d (.v (.int .i64 ((l.map u32D).length : Int))))]) (fun k => []) (fun k => k ≤ l.length) (fun k => l.length - k) 0 (Nat.zero_le _) (Sub.less ⟨(SLe.of_eq rfl), SLe.refl _, SLe.refl _, SLe.refl _, trivial⟩ (fun _ h => h)) ?_
 intro k hk
 refine .sr ?_
 refine .sA (.lss rfl rfl rfl) (.nil ?_)
 refine .seq ?_
 refine .cond rfl (fun h2 => ?_) (fun h2 => ?_)
 ·replace h2 := of_decide_eq_true h2
  rw [List.length_map] at h2
  have hlt : k < l.length := by omega
  refine .skip ?_
  refine .seq ?_
  refine .block ?_
  refine .sr ?_
  refine .mA ?_
  refine .aA (.nil ?_)
  refine .seq ?_
  refine .draw (by kernel_rfl) (by kernel_rfl) ?_
  refine .sA (.moveD rfl rfl) ?_
  refine .sA (.moveD rfl rfl) ?_
  refine .sA (.indexAddr rfl et_32 rfl rfl k rfl (at_map hlt) rfl) ?_
  refine .sA (.load rfl sc_49 rfl) ?_
  refine .sA (.moveD rfl rfl) ?_
  refine .sA (.moveD rfl rfl) ?_
  refine .sA (.indexAddr rfl et_32 rfl rfl k rfl (at_map hlt) rfl) ?_
  refine .sA (.load rfl sc_49 rfl) ?_
  refine .sA (.neq rfl rfl rfl) ?_
  refine .nil ?_
  refine .cond rfl (fun h3 => ?_) (fun h3 => ?_)
  ·replace h3 := of_decide_eq_true h3
   exact absurd rfl h3
  replace h3 := of_decide_eq_false h3
  refine .skip ?_
  refine .region ?_
  refine .sA (.add64 rfl rfl rfl (by omega) (by omega)) ?_
  refine .mA (.nil ?_)
  refine ⟨k + 1, (by omega), (by dsimp only; omega), Sub.less ⟨(SLe.of_eq rfl), SLe.refl _, SLe.refl _, SLe.refl _, trivial⟩ (fun _ h => h)⟩
 replace h2 := of_decide_eq_false h2
 refine .exit ?_
 refine .sr ?_
 refine .aA (.nil ?_)
 refine .ret ?_
 refine ⟨RetD.eq rfl ?_, trivial⟩
 all_goals (rfl)

end Go.Proofs.YtagdgclfnbiahaaDoor

namespace Go.Proofs.YtagdgclfnbiahaaDoor
open Go.RowKit
set_option linter.unusedVariables false

/-! Types. -/
namespace TyV4
end TyV4
open TyXA TyXB TySBA TySBB TySBC TySBD TySBE TySBF TySBG TySBH TySBI TySBJ TySBK TyV1 TyV2 TyV3 TyV4

/-- A manifest's cells. -/
def manD (item : ByteArray) (size block : Int) (sums : List Nat) : List D := [.v (.string item), .v (.int .i64 size), .v (.int .i64 block), .sl (sums.map u32D)]
def rightB (n b : Nat) (sums : List Nat) (bs : List UInt8) (i : Nat) : Bool :=
  decide (((chunk bs b i).length : Int) = min (b : Int) ((n : Int) - (i : Int) * (b : Int))) && decide (((fnv (chunk bs b i) : Nat) : Int) = ((sums.getD i 0 : Nat) : Int))
theorem mulb (i b : Nat) (hi : i ≤ 1000) (hb : b ≤ 20000) : 0 ≤ (i : Int) * (b : Int) ∧ (i : Int) * (b : Int) ≤ 20000000 := by
  refine ⟨Int.mul_nonneg (by omega) (by omega), ?_⟩
  have := Int.mul_le_mul (show (i : Int) ≤ 1000 by omega) (show (b : Int) ≤ 20000 by omega) (by omega) (by omega)
  omega
theorem at_getD {l : List Nat} {i : Nat} (h : i < l.length) : (l.map u32D)[i]? = some (u32D (l.getD i 0)) := by simp [h, List.getD_eq_getElem?_getD]

set_option maxRecDepth 100000 in
set_option maxHeartbeats 1000000 in
theorem c_sizeOf (item : ByteArray) (n b : Nat) (sums : List Nat) (i : Nat) (hb : b ≤ 20000) (hn : n ≤ 20000) (hi : i ≤ 1000) : ACall Tryd.prog 46 [.agg (manD item n b sums), .v (.int .i64 i)] (.v (.int .i64 (min (b : Int) ((n : Int) - (i : Int) * (b : Int))))) := by
 have hm := mulb i b hi hb
 refine acall_of (n := 15) (ds' := [.v (.int .i64 (min (b : Int) ((n : Int) - (i : Int) * (b : Int))))]) Tryd.func46 rfl (by kernel_rfl) rfl [4] rfl rfl ?_
 intro B w0 F0 fr
 refine .sr ?_
 refine .sA (.box rfl rfl rfl) ?_
 refine .aA (.nil ?_)
 refine .sr ?_
 refine .sA (.fieldAddr rfl fo_34_2 rfl) ?_
 refine .sA (.load rfl sc_3 rfl) ?_
 refine .sA (.fieldAddr rfl fo_34_1 rfl) ?_
 refine .sA (.load rfl sc_3 rfl) ?_
 refine .mA ?_
 refine .sA (.fieldAddr rfl fo_34_2 rfl) ?_
 refine .sA (.load rfl sc_3 rfl) ?_
 refine .sA (.mul64 rfl rfl rfl (by omega) (by omega)) ?_
 refine .sA (.sub64 rfl rfl rfl (by omega) (by omega)) ?_
 refine .sA (.min rfl rfl rfl) ?_
 refine .aA (.nil ?_)
 refine .ret ?_
 refine ⟨RetD.eq rfl ?_, trivial⟩
 all_goals (rfl)

set_option maxRecDepth 100000 in
set_option maxHeartbeats 1000000 in
theorem c_whole (item : ByteArray) (n b : Nat) (sums : List Nat) (bs : List UInt8) : ACall Tryd.prog 45 [.agg (manD item n b sums), .sl (bs.map u8D)] (.sl ((bs.take n).map u8D)) := by
 refine acall_of (n := 12) (ds' := [.sl ((bs.take n).map u8D)]) Tryd.func45 rfl (by kernel_rfl) rfl [4] rfl rfl ?_
 intro B w0 F0 fr
 refine .sr ?_
 refine .sA (.box rfl rfl rfl) ?_
 refine .aA (.nil ?_)
 refine .sr ?_
 refine .mA ?_
 refine .mA ?_
 refine .sA (.lenSl rfl et_28.ht rfl) ?_
 refine .sA (.fieldAddr rfl fo_34_1 rfl) ?_
 refine .sA (.load rfl sc_3 rfl) ?_
 refine .sA (.min rfl rfl rfl) ?_
 refine .sA (.sliceH rfl et_28 rfl rfl (by omega) (by omega) (by simp [u8D])) ?_
 refine .aA (.nil ?_)
 refine .ret ?_
 refine ⟨RetD.eq rfl ?_, trivial⟩
 all_goals (rw [List.length_map, show (min (bs.length : Int) (n : Int)).toNat = min bs.length n by omega, ← List.map_take]; congr 1; by_cases h : n ≤ bs.length; (· rw [Nat.min_eq_right h]); (· rw [Nat.min_eq_left (by omega), List.take_of_length_le (Nat.le_refl _), List.take_of_length_le (by omega)]))

set_option maxRecDepth 100000 in
set_option maxHeartbeats 1000000 in
theorem c_pright (item : ByteArray) (n b : Nat) (sums : List Nat) (bs : List UInt8) (i : Nat) (hb : b ≤ 20000) (hn : n ≤ 20000) (hl : sums.length ≤ 1000) (hi : i < sums.length) : ACall Tryd.prog 44 [.agg (manD item n b sums), .sl (bs.map u8D), .v (.int .i64 i)] (.v (.bool (rightB n b sums bs i))) := by
 refine acall_of (n := 29) (ds' := [.v (.bool (rightB n b sums bs i))]) Tryd.func44 rfl (by kernel_rfl) rfl [6] rfl rfl ?_
 intro B w0 F0 fr
 refine .sr ?_
 refine .sA (.box rfl rfl rfl) ?_
 refine .aA (.nil ?_)
 refine .sr ?_
 refine .mA ?_
 refine .sA (.fieldAddr rfl fo_34_2 rfl) ?_
 refine .sA (.load rfl sc_3 rfl) ?_
 refine .mA ?_
 refine .sA (.call rfl (.cons (.rfl' rfl) (.cons (.rfl' rfl) (.cons (.rfl' rfl) .nil))) (c_blockOf bs b i (by omega) (by omega))) ?_
 refine .aA (.nil ?_)
 refine .seq ?_
 refine .draw (by kernel_rfl) (by kernel_rfl) ?_
 refine .sA (.moveD rfl rfl) ?_
 refine .sA (.lenSl rfl et_28.ht rfl) ?_
 refine .sA (.loadAgg rfl ag_34 rfl rfl) ?_
 refine .sA (.moveD rfl rfl) ?_
 refine .sA (.call rfl (.cons (.rfl' rfl) (.cons (.rfl' rfl) .nil)) (c_sizeOf item n b sums i hb hn (by omega))) ?_
 refine .sA (.eql rfl rfl rfl) ?_
 refine .sA (.moveD rfl rfl) ?_
 refine .split 19 rfl (fun g1 => ?_) (fun g1 => ?_)
 ·replace g1 := of_decide_eq_true g1
  refine .sG (.moveD rfl rfl) ?_
  refine .sG (.call rfl (.cons (.rfl' rfl) .nil) (c_pSum _)) ?_
  refine .sG (.fieldAddr rfl fo_34_3 rfl) ?_
  refine .sG (.load rfl sc_32 rfl) ?_
  refine .sG (.moveD rfl rfl) ?_
  refine .sG (.indexAddr rfl et_32 rfl rfl i rfl (at_getD hi) rfl) ?_
  refine .sG (.load rfl sc_49 rfl) ?_
  refine .sG (.eql rfl rfl rfl) ?_
  refine .sA (.pickT rfl rfl rfl) ?_
  refine .sA (.assignD rfl rfl) ?_
  refine .nil ?_
  refine .ret ?_
  refine ⟨RetD.eq rfl ?_, trivial⟩
  all_goals (unfold rightB; simp_all)
 replace g1 := of_decide_eq_false g1
 refine .pA ?_
 refine .pA ?_
 refine .pA ?_
 refine .pA ?_
 refine .pA ?_
 refine .pA ?_
 refine .pA ?_
 refine .pA ?_
 refine .sA (.pickF rfl rfl rfl) ?_
 refine .sA (.assignD rfl rfl) ?_
 refine .nil ?_
 refine .ret ?_
 refine ⟨RetD.eq rfl ?_, trivial⟩
 all_goals (unfold rightB; simp_all)

end Go.Proofs.YtagdgclfnbiahaaDoor

namespace Go.Proofs.YtagdgclfnbiahaaDoor
open Go.RowKit
set_option linter.unusedVariables false

/-! Types. -/
namespace TyV5
end TyV5
open TyXA TyXB TySBA TySBB TySBC TySBD TySBE TySBF TySBG TySBH TySBI TySBJ TySBK TyV1 TyV2 TyV3 TyV4 TyV5

/-- A good manifest in natural numbers. -/
theorem man_good {m : Man} (h : manFault m = 0) : ∃ n b : Nat, m = ⟨m.item, n, b, m.sums⟩ ∧ 1 ≤ b ∧ b ≤ 20000 ∧ n ≤ 20000 ∧ m.sums.length ≤ 1000 ∧ m.sums.length = nblk n b := by
  unfold manFault at h
  split at h
  · simp at h
  split at h
  · simp at h
  split at h
  · simp at h
  split at h
  · simp at h
  rename_i h1 h2 h3 h4
  obtain ⟨n, hn⟩ := Int.eq_ofNat_of_zero_le (show 0 ≤ m.size by omega)
  obtain ⟨b, hb⟩ := Int.eq_ofNat_of_zero_le (show 0 ≤ m.block by omega)
  have h5 : nblocks m.size m.block = ((nblk n b : Nat) : Int) := by rw [hn, hb]; exact nblocks_nat n b (by omega)
  rw [h5] at h3 h4
  refine ⟨n, b, ?_, by omega, by omega, by omega, by omega, by omega⟩
  cases m
  simp_all
def badOf (n b : Nat) (sums : List Nat) (bs : List UInt8) (k : Nat) : List Nat := (List.range k).filter fun i => !rightB n b sums (bs.take n) i
def natD (n : Nat) : List D := [.v (.int .i64 (n : Int))]
def damRes (m : Man) (bs : List UInt8) : List Nat × Int :=
  if manFault m ≠ 0 then ([], manFault m) else if 40000 < (bs.length : Int) then ([], 2) else (badOf m.size.toNat m.block.toNat m.sums bs m.sums.length ++ (if m.size < bs.length then [m.sums.length] else []), 0)
end Go.Proofs.YtagdgclfnbiahaaDoor

namespace Go.Proofs.YtagdgclfnbiahaaDoor
open Go.RowKit
set_option linter.unusedVariables false

/-! Types. -/
namespace TyV6
theorem ag_121 : AggT Tryd.prog 121 256 := .of (by kernel_rfl)
theorem ar_121 : ArrT Tryd.prog 121 3 256 1 := .of (by kernel_rfl) (by kernel_rfl)
theorem et_38 : ElemTy Tryd.prog 38 28 1 24 (.slice none 0 0) := ⟨by kernel_rfl, by kernel_rfl, by kernel_rfl, by decide⟩
theorem sz_3 : ∀ w, (sizeOf 3).run Tryd.prog w = .ok 1 w := SizeT.of (by kernel_rfl)
theorem zt_121 : (Tryd.prog.info? 121).bind (·.zero) = some (.agg #[(.int .i64 0), (.int .i64 0), (.int .i64 0), (.int .i64 0), (.int .i64 0), (.int .i64 0), (.int .i64 0), (.int .i64 0), (.int .i64 0), (.int .i64 0), (.int .i64 0), (.int .i64 0), (.int .i64 0), (.int .i64 0), (.int .i64 0), (.int .i64 0), (.int .i64 0), (.int .i64 0), (.int .i64 0), (.int .i64 0), (.int .i64 0), (.int .i64 0), (.int .i64 0), (.int .i64 0), (.int .i64 0), (.int .i64 0), (.int .i64 0), (.int .i64 0), (.int .i64 0), (.int .i64 0), (.int .i64 0), (.int .i64 0), (.int .i64 0), (.int .i64 0), (.int .i64 0), (.int .i64 0), (.int .i64 0), (.int .i64 0), (.int .i64 0), (.int .i64 0), (.int .i64 0), (.int .i64 0), (.int .i64 0), (.int .i64 0), (.int .i64 0), (.int .i64 0), (.int .i64 0), (.int .i64 0), (.int .i64 0), (.int .i64 0), (.int .i64 0), (.int .i64 0), (.int .i64 0), (.int .i64 0), (.int .i64 0), (.int .i64 0), (.int .i64 0), (.int .i64 0), (.int .i64 0), (.int .i64 0), (.int .i64 0), (.int .i64 0), (.int .i64 0), (.int .i64 0), (.int .i64 0), (.int .i64 0), (.int .i64 0), (.int .i64 0), (.int .i64 0), (.int .i64 0), (.int .i64 0), (.int .i64 0), (.int .i64 0), (.int .i64 0), (.int .i64 0), (.int .i64 0), (.int .i64 0), (.int .i64 0), (.int .i64 0), (.int .i64 0), (.int .i64 0), (.int .i64 0), (.int .i64 0), (.int .i64 0), (.int .i64 0), (.int .i64 0), (.int .i64 0), (.int .i64 0), (.int .i64 0), (.int .i64 0), (.int .i64 0), (.int .i64 0), (.int .i64 0), (.int .i64 0), (.int .i64 0), (.int .i64 0), (.int .i64 0), (.int .i64 0), (.int .i64 0), (.int .i64 0), (.int .i64 0), (.int .i64 0), (.int .i64 0), (.int .i64 0), (.int .i64 0), (.int .i64 0), (.int .i64 0), (.int .i64 0), (.int .i64 0), (.int .i64 0), (.int .i64 0), (.int .i64 0), (.int .i64 0), (.int .i64 0), (.int .i64 0), (.int .i64 0), (.int .i64 0), (.int .i64 0), (.int .i64 0), (.int .i64 0), (.int .i64 0), (.int .i64 0), (.int .i64 0), (.int .i64 0), (.int .i64 0), (.int .i64 0), (.int .i64 0), (.int .i64 0), (.int .i64 0), (.int .i64 0), (.int .i64 0), (.int .i64 0), (.int .i64 0), (.int .i64 0), (.int .i64 0), (.int .i64 0), (.int .i64 0), (.int .i64 0), (.int .i64 0), (.int .i64 0), (.int .i64 0), (.int .i64 0), (.int .i64 0), (.int .i64 0), (.int .i64 0), (.int .i64 0), (.int .i64 0), (.int .i64 0), (.int .i64 0), (.int .i64 0), (.int .i64 0), (.int .i64 0), (.int .i64 0), (.int .i64 0), (.int .i64 0), (.int .i64 0), (.int .i64 0), (.int .i64 0), (.int .i64 0), (.int .i64 0), (.int .i64 0), (.int .i64 0), (.int .i64 0), (.int .i64 0), (.int .i64 0), (.int .i64 0), (.int .i64 0), (.int .i64 0), (.int .i64 0), (.int .i64 0), (.int .i64 0), (.int .i64 0), (.int .i64 0), (.int .i64 0), (.int .i64 0), (.int .i64 0), (.int .i64 0), (.int .i64 0), (.int .i64 0), (.int .i64 0), (.int .i64 0), (.int .i64 0), (.int .i64 0), (.int .i64 0), (.int .i64 0), (.int .i64 0), (.int .i64 0), (.int .i64 0), (.int .i64 0), (.int .i64 0), (.int .i64 0), (.int .i64 0), (.int .i64 0), (.int .i64 0), (.int .i64 0), (.int .i64 0), (.int .i64 0), (.int .i64 0), (.int .i64 0), (.int .i64 0), (.int .i64 0), (.int .i64 0), (.int .i64 0), (.int .i64 0), (.int .i64 0), (.int .i64 0), (.int .i64 0), (.int .i64 0), (.int .i64 0), (.int .i64 0), (.int .i64 0), (.int .i64 0), (.int .i64 0), (.int .i64 0), (.int .i64 0), (.int .i64 0), (.int .i64 0), (.int .i64 0), (.int .i64 0), (.int .i64 0), (.int .i64 0), (.int .i64 0), (.int .i64 0), (.int .i64 0), (.int .i64 0), (.int .i64 0), (.int .i64 0), (.int .i64 0), (.int .i64 0), (.int .i64 0), (.int .i64 0), (.int .i64 0), (.int .i64 0), (.int .i64 0), (.int .i64 0), (.int .i64 0), (.int .i64 0), (.int .i64 0), (.int .i64 0), (.int .i64 0), (.int .i64 0), (.int .i64 0), (.int .i64 0), (.int .i64 0), (.int .i64 0), (.int .i64 0), (.int .i64 0), (.int .i64 0), (.int .i64 0), (.int .i64 0), (.int .i64 0), (.int .i64 0), (.int .i64 0), (.int .i64 0), (.int .i64 0), (.int .i64 0)]) := by kernel_rfl
end TyV6
open TyXA TyXB TySBA TySBB TySBC TySBD TySBE TySBF TySBG TySBH TySBI TySBJ TySBK TyV1 TyV2 TyV3 TyV4 TyV5 TyV6

/-- How many of the first k copies have the byte v at p. -/
def cntK (cs : List (List UInt8)) (p k v : Nat) : Nat := ((cs.take k).filter fun c => decide (c[p]?.map UInt8.toNat = some v)).length
theorem cntK_le (cs : List (List UInt8)) (p k v : Nat) : cntK cs p k v ≤ k := by
  unfold cntK
  exact Nat.le_trans (List.length_filter_le _ _) (by simp; omega)
theorem cntK_succ (cs : List (List UInt8)) (p k v : Nat) (hk : k < cs.length) : cntK cs p (k + 1) v = cntK cs p k v + if cs[k][p]?.map UInt8.toNat = some v then 1 else 0 := by
  unfold cntK
  rw [List.take_succ_eq_append_getElem hk, List.filter_append, List.length_append]
  simp only [List.filter_cons, List.filter_nil]
  by_cases h : cs[k][p]?.map UInt8.toNat = some v
  · rw [if_pos (decide_eq_true h), if_pos h]; rfl
  · rw [if_neg (by rw [decide_eq_true_eq]; exact h), if_neg h]; rfl
def bestR (f : Nat → Nat) : Nat → Nat
  | 0 => 0
  | k + 1 => if f (bestR f k) < f k then k else bestR f k
theorem bestR_lt (f : Nat → Nat) : ∀ k, bestR f k ≤ k ∧ (0 < k → bestR f k < k)
  | 0 => ⟨Nat.le_refl _, fun h => by omega⟩
  | k + 1 => by
    have := bestR_lt f k
    simp only [bestR]
    split <;> exact ⟨by omega, fun _ => by omega⟩
def mostR (f : Nat → Nat) (k : Nat) : Nat := if k = 0 then 0 else f (bestR f k)
/-- One round of the search, as the program does it. -/
theorem best_yes (f : Nat → Nat) (k : Nat) (h : mostR f k < f k) : bestR f (k + 1) = k ∧ mostR f (k + 1) = f k := by
  have h1 : bestR f (k + 1) = k := by
    simp only [bestR]
    by_cases hk : k = 0
    · subst hk; simp [bestR]
    · rw [mostR, if_neg hk] at h; rw [if_pos h]
  exact ⟨h1, by rw [mostR, if_neg (by omega), h1]⟩
theorem best_no (f : Nat → Nat) (k : Nat) (h : ¬ mostR f k < f k) : bestR f (k + 1) = bestR f k ∧ mostR f (k + 1) = mostR f k := by
  have h1 : bestR f (k + 1) = bestR f k := by
    simp only [bestR]
    by_cases hk : k = 0
    · subst hk; simp [bestR]
    · rw [mostR, if_neg hk] at h; rw [if_neg h]
  refine ⟨h1, ?_⟩
  unfold mostR
  rw [if_neg (by omega), h1]
  by_cases hk : k = 0
  · subst hk
    simp [mostR, bestR] at h ⊢
    exact h
  · rw [if_neg hk]
def voteB (cs : List (List UInt8)) (p : Nat) : UInt8 := UInt8.ofNat (bestR (cntK cs p cs.length) 256)
theorem voteB_nat (cs : List (List UInt8)) (p : Nat) : IntKind.u8.wrap ((bestR (cntK cs p cs.length) 256 : Nat) : Int) = ((voteB cs p).toNat : Int) := by
  have h := (bestR_lt (cntK cs p cs.length) 256).2 (by omega)
  unfold voteB
  rw [UInt8.toNat_ofNat', Nat.mod_eq_of_lt (by omega)]
  have : ∀ n : Int, IntKind.u8.wrap n = n % 256 := fun n => by simp [IntKind.wrap, IntKind.signed, IntKind.bits]
  rw [this]
  omega
theorem range_upd {α : Type} (n k : Nat) (f : Nat → α) (x : α) (h : k < n) : ((List.range n).map f).take k ++ [x] ++ ((List.range n).map f).drop (k + 1) = (List.range n).map fun i => if i = k then x else f i := by
  apply List.ext_getElem?
  intro i
  by_cases h1 : i < k
  · rw [List.append_assoc, List.getElem?_append_left (by simp; omega), List.getElem?_take, if_pos h1]
    simp [show i < n by omega, show i ≠ k by omega]
  · by_cases h2 : i = k
    · subst h2
      rw [List.append_assoc, List.getElem?_append_right (by simp; omega)]
      simp [h, Nat.min_eq_left (Nat.le_of_lt h)]
    · rw [List.getElem?_append_right (by simp; omega)]
      simp only [List.length_append, List.length_take, List.length_map, List.length_range, Nat.min_eq_left (Nat.le_of_lt h), List.length_singleton, List.getElem?_drop]
      rw [show k + 1 + (i - (k + 1)) = i by omega]
      by_cases h3 : i < n
      · simp [h3, h2]
      · simp [h3]
theorem range_set {α : Type} (n k : Nat) (f : Nat → α) (x : α) : ((List.range n).map f).set k x = (List.range n).map fun i => if i = k then x else f i := by
  apply List.ext_getElem?
  intro i
  rw [List.getElem?_set]
  by_cases h2 : k = i
  · subst h2
    by_cases h : k < n <;> simp [h]
  · rw [if_neg h2, List.getElem?_map, List.getElem?_map]
    by_cases h : i < n
    · simp only [List.getElem?_range h, Option.map_some, if_neg (Ne.symm h2)]
    · rw [List.getElem?_eq_none (by simp; omega)]; rfl
def cntS (f : Nat → Nat) : List S := (List.range 256).map fun v => S.d (.v (.int .i64 ((f v : Nat) : Int)))
theorem cntS_at (f : Nat → Nat) (k : Nat) (h : k < 256) : (cntS f)[0 + k * 1]? = some (S.d (.v (.int .i64 ((f k : Nat) : Int)))) := by
  rw [Nat.zero_add, Nat.mul_one]; simp [cntS, h]
theorem cntS_upd (cs : List (List UInt8)) (p k : Nat) (hk : k < cs.length) (c : UInt8) (hc : cs[k][p]? = some c) :
    (cntS (cntK cs p k)).take (0 + c.toNat * 1) ++ (D.v (.int .i64 (((cntK cs p k c.toNat : Nat) : Int) + 1))).parts.map S.d ++ (cntS (cntK cs p k)).drop (0 + c.toNat * 1 + 1) = cntS (cntK cs p (k + 1)) := by
  rw [Nat.zero_add, Nat.mul_one]
  show (cntS _).take _ ++ [S.d (D.v (.int .i64 (((cntK cs p k c.toNat : Nat) : Int) + 1)))] ++ _ = _
  unfold cntS
  rw [range_upd _ _ _ _ c.toNat_lt]
  apply List.map_congr_left
  intro v _
  rw [cntK_succ cs p k v hk, hc]
  by_cases h : v = c.toNat
  · subst h; simp
  · simp [h, Ne.symm h]
theorem cntK_none (cs : List (List UInt8)) (p k : Nat) (hk : k < cs.length) (h : cs[k].length ≤ p) : cntK cs p (k + 1) = cntK cs p k := by
  funext v
  rw [cntK_succ cs p k v hk, List.getElem?_eq_none h]
  simp
theorem cntS_zero (cs : List (List UInt8)) (p : Nat) : cntS (cntK cs p 0) = ((List.replicate 256 (Value.int .i64 0)).map D.v).map S.d := by
  unfold cntS cntK
  simp only [List.take_zero, List.filter_nil, List.length_nil]
  rw [List.map_const', List.length_range, List.map_replicate, List.map_replicate]
  rfl
theorem un_cntS (f : Nat → Nat) : (((cntS f).drop 0).take 256).map S.un = (List.range 256).map fun v => D.v (.int .i64 ((f v : Nat) : Int)) := by
  unfold cntS
  rw [List.drop_zero, List.take_of_length_le (by simp), List.map_map]
  rfl
theorem at_range' {α : Type} {n k : Nat} {f : Nat → α} (h : k < n) : ((List.range n).map f)[k]? = some (f k) := by simp [h]
theorem at_map2 {l : List UInt8} {k : Nat} {c : UInt8} (h : l[k]? = some c) : (l.map u8D)[k]? = some (u8D c) := by simp [h]

set_option maxRecDepth 100000 in
set_option maxHeartbeats 1000000 in
theorem c_voted (cs : List (List UInt8)) (p : Nat) (hc : cs.length ≤ 20) : ACall Tryd.prog 47 [.sl (cs.map (slD u8D)), .v (.int .i64 p)] (.v (.int .u8 ((voteB cs p).toNat : Int))) := by
 refine acall_of (n := 44) (ds' := [.v (.int .u8 ((voteB cs p).toNat : Int))]) Tryd.func47 rfl (by kernel_rfl) rfl [4] rfl rfl ?_
 intro B w0 F0 fr
 refine .sr ?_
 refine .aA (.nil ?_)
 refine .sr ?_
 refine .alloc 101 rfl rfl rfl rfl zt_121 rfl rfl rfl (.nil ?_)
 refine .sr ?_
 refine .aA ?_
 refine .aA (.nil ?_)
 refine .seq ?_
 refine .sr ?_
 refine .mA ?_
 refine .sA (.lenSl rfl et_38.ht rfl) ?_
 refine .mA (.nil ?_)
 refine .block ?_
 refine .loop (G := Nat) (fun k => Env.of [(14, .d (.v (.int .i64 (k : Int)))), (12, .d (.sl (cs.map (slD u8D)))), (13, .d (.v (.int .i64 ((cs.map (slD u8D)).length : Int)))), (1, .d (.v (.int .i64 (p : Int)))), (5, .ptr 101 0), (6, .d (.v (.int .i64 0))), (7, .d (.v (.int .i64 0)))]) (fun k => [(101, .cells (cntS (cntK cs p k)))]) (fun k => k ≤ cs.length) (fun k => cs.length - k) 0 (Nat.zero_le _) (Sub.less ⟨(SLe.of_eq rfl), SLe.refl _, SLe.refl _, SLe.refl _, SLe.refl _, SLe.refl _, SLe.refl _, trivial⟩ (by dsimp only; rw [cntS_zero]; exact fun _ h => h)) ?_
 intro k hk
 refine .sr ?_
 refine .sA (.lss rfl rfl rfl) (.nil ?_)
 refine .seq ?_
 refine .cond rfl (fun h1 => ?_) (fun h1 => ?_)
 ·replace h1 := of_decide_eq_true h1
  rw [List.length_map] at h1
  have hlt : k < cs.length := by omega
  have hcl := cntK_le cs p k
  refine .skip ?_
  refine .seq ?_
  refine .block ?_
  refine .sr ?_
  refine .sA (.indexAddr rfl et_38 rfl rfl k rfl (at_map hlt) rfl) ?_
  refine .sA (.load rfl sc_28 rfl) ?_
  refine .aA (.nil ?_)
  refine .sr ?_
  refine .mA ?_
  refine .mA ?_
  refine .sA (.lenSl rfl et_28.ht rfl) ?_
  refine .sA (.lss rfl rfl rfl) (.nil ?_)
  refine .cond rfl (fun h2 => ?_) (fun h2 => ?_)
  ·replace h2 := of_decide_eq_true h2
   rw [List.length_map] at h2
   obtain ⟨c, hcc⟩ : ∃ c, cs[k][p]? = some c := ⟨cs[k][p]'(by omega), List.getElem?_eq_getElem (by omega)⟩
   have hu := cntS_upd cs p k hlt c hcc
   have hc8 := c.toNat_lt
   have hclc := hcl c.toNat
   refine .region ?_
   refine .mA ?_
   refine .mA ?_
   refine .sA (.indexAddr rfl et_28 rfl rfl p rfl (at_map2 hcc) rfl) ?_
   refine .sA (.load rfl sc_5 rfl) ?_
   refine .sA (.indexArrP rfl ar_121 rfl rfl c.toNat rfl hc8) ?_
   refine .sA (.loadP rfl sc_3 rfl (.head _) (cntS_at _ _ hc8)) ?_
   refine .sA (.add64 rfl rfl rfl (by omega) (by omega)) ?_
   refine .sA (.indexArrP rfl ar_121 rfl rfl c.toNat rfl hc8) ?_
   refine .store rfl rfl rfl sz_3 rfl (.head _) rfl rfl rfl (by simp [cntS]; omega) (.nil ?_)
   refine .region ?_
   refine .sA (.add64 rfl rfl rfl (by omega) (by omega)) ?_
   refine .mA (.nil ?_)
   refine ⟨k + 1, (by omega), (by dsimp only; omega), Sub.less ⟨(SLe.of_eq rfl), SLe.refl _, SLe.refl _, SLe.refl _, SLe.refl _, SLe.refl _, SLe.refl _, trivial⟩ (by dsimp only; rw [← hu]; exact fun _ h => h)⟩
  replace h2 := of_decide_eq_false h2
  rw [List.length_map] at h2
  have hu := cntK_none cs p k hlt (by omega)
  refine .skip ?_
  refine .region ?_
  refine .sA (.add64 rfl rfl rfl (by omega) (by omega)) ?_
  refine .mA (.nil ?_)
  refine ⟨k + 1, (by omega), (by dsimp only; omega), Sub.less ⟨(SLe.of_eq rfl), SLe.refl _, SLe.refl _, SLe.refl _, SLe.refl _, SLe.refl _, SLe.refl _, trivial⟩ (by dsimp only; rw [hu]; exact fun _ h => h)⟩
 replace h1 := of_decide_eq_false h1
 rw [List.length_map] at h1
 obtain rfl : k = cs.length := by omega
 refine .exit ?_
 refine .seq ?_
 refine .sr ?_
 refine .sA (.loadPU rfl ag_121 rfl (.head _) rfl rfl) ?_
 refine .mA (.nil ?_)
 refine .block ?_
 refine .loop (G := Nat) (fun k => Env.of [(32, .d (.v (.int .i64 (k : Int)))), (6, .d (.v (.int .i64 (bestR (cntK cs p cs.length) k : Int)))), (7, .d (.v (.int .i64 (mostR (cntK cs p cs.length) k : Int)))), (31, .d (.agg ((List.range 256).map fun v => D.v (.int .i64 ((cntK cs p cs.length v : Nat) : Int)))))]) (fun k => []) (fun k => k ≤ 256) (fun k => 256 - k) 0 (Nat.zero_le _) (Sub.less ⟨(SLe.of_eq rfl), (SLe.of_eq rfl), (SLe.of_eq rfl), (SLe.of_eq (by rw [un_cntS]; rfl)), trivial⟩ (fun _ h => by cases h)) ?_
 intro k hk
 refine .sr ?_
 refine .sA (.lss rfl rfl rfl) (.nil ?_)
 refine .seq ?_
 refine .cond rfl (fun h3 => ?_) (fun h3 => ?_)
 ·replace h3 := of_decide_eq_true h3
  have hlt : k < 256 := by omega
  refine .skip ?_
  refine .seq ?_
  refine .block ?_
  refine .sr ?_
  refine .mA ?_
  refine .sA (.indexArr rfl ar_121 sc_3 rfl rfl k rfl hlt (at_range' hlt)) ?_
  refine .aA ?_
  refine .aA (.nil ?_)
  refine .sr ?_
  refine .mA ?_
  refine .mA ?_
  refine .sA (.gtr rfl rfl rfl) (.nil ?_)
  refine .cond rfl (fun h4 => ?_) (fun h4 => ?_)
  ·replace h4 := of_decide_eq_true h4
   obtain ⟨hb1, hb2⟩ := best_yes (cntK cs p cs.length) k (by omega)
   refine .region ?_
   refine .mA ?_
   refine .mA ?_
   refine .aA ?_
   refine .aA (.nil ?_)
   refine .region ?_
   refine .sA (.add64 rfl rfl rfl (by omega) (by omega)) ?_
   refine .mA (.nil ?_)
   refine ⟨k + 1, (by omega), (by dsimp only; omega), Sub.less ⟨(SLe.of_eq rfl), (SLe.of_eq (by rw [hb1]; rfl)), (SLe.of_eq (by rw [hb2]; rfl)), SLe.refl _, trivial⟩ (fun _ h => h)⟩
  replace h4 := of_decide_eq_false h4
  obtain ⟨hb1, hb2⟩ := best_no (cntK cs p cs.length) k (by omega)
  refine .skip ?_
  refine .region ?_
  refine .sA (.add64 rfl rfl rfl (by omega) (by omega)) ?_
  refine .mA (.nil ?_)
  refine ⟨k + 1, (by omega), (by dsimp only; omega), Sub.less ⟨(SLe.of_eq rfl), (SLe.of_eq (by rw [hb1]; rfl)), (SLe.of_eq (by rw [hb2]; rfl)), SLe.refl _, trivial⟩ (fun _ h => h)⟩
 replace h3 := of_decide_eq_false h3
 obtain rfl : k = 256 := by omega
 refine .exit ?_
 refine .sr ?_
 refine .mA ?_
 refine .sA (.convInt rfl cv_3_5 rfl) ?_
 refine .aA (.nil ?_)
 refine .ret ?_
 refine ⟨RetD.eq rfl ?_, trivial⟩
 all_goals (rw [voteB_nat])

end Go.Proofs.YtagdgclfnbiahaaDoor

namespace Go.Proofs.YtagdgclfnbiahaaDoor
open Go.RowKit
set_option linter.unusedVariables false

/-! Types. -/
namespace TyV7
theorem sz_5 : ∀ w, (sizeOf 5).run Tryd.prog w = .ok 1 w := SizeT.of (by kernel_rfl)
end TyV7
open TyXA TyXB TySBA TySBB TySBC TySBD TySBE TySBF TySBG TySBH TySBI TySBJ TySBK TyV1 TyV2 TyV3 TyV4 TyV5 TyV6 TyV7

/-- The block that is found: the first right one's, or the votes. -/
def repB (n b : Nat) (sums : List Nat) (cs : List (List UInt8)) (i : Nat) : List UInt8 :=
  match cs.find? fun c => rightB n b sums (c.take n) i with
  | some c => chunk (c.take n) b i
  | none => (List.range (min b (n - i * b))).map fun k => voteB cs (i * b + k)
theorem repB_yes {n b : Nat} {sums : List Nat} {cs : List (List UInt8)} {i k : Nat} (hk : k < cs.length) (h : ∀ c ∈ cs.take k, rightB n b sums (c.take n) i = false) (hr : rightB n b sums (cs[k].take n) i = true) : repB n b sums cs i = chunk (cs[k].take n) b i := by
  have : cs.find? (fun c => rightB n b sums (c.take n) i) = some cs[k] := by
    rw [List.find?_eq_some_iff_getElem]
    refine ⟨hr, k, hk, rfl, fun j hj => ?_⟩
    have := h cs[j] (by rw [List.mem_take_iff_getElem]; exact ⟨j, by omega, rfl⟩)
    simp [this]
  unfold repB
  rw [this]
theorem repB_no {n b : Nat} {sums : List Nat} {cs : List (List UInt8)} {i : Nat} (h : ∀ c ∈ cs.take cs.length, rightB n b sums (c.take n) i = false) : repB n b sums cs i = (List.range (min b (n - i * b))).map fun k => voteB cs (i * b + k) := by
  have : cs.find? (fun c => rightB n b sums (c.take n) i) = none := by
    rw [List.find?_eq_none]
    intro c hc
    rw [h c (by rw [List.take_length]; exact hc)]
    simp
  unfold repB
  rw [this]
theorem repB_len (n b : Nat) (sums : List Nat) (cs : List (List UInt8)) (i : Nat) : (repB n b sums cs i).length ≤ b := by
  unfold repB
  split
  · unfold chunk; exact List.length_take_le _ _
  · simp; omega
theorem right_fnv {n b : Nat} {sums : List Nat} {bs : List UInt8} {i : Nat} (h : rightB n b sums bs i = true) : fnv (chunk bs b i) = sums.getD i 0 := by
  unfold rightB at h
  simp only [Bool.and_eq_true, decide_eq_true_eq] at h
  omega
theorem take_false {α : Type} {p : α → Bool} {l : List α} {k : Nat} (hk : k < l.length) (h : ∀ c ∈ l.take k, p c = false) (h2 : p l[k] = false) : ∀ c ∈ l.take (k + 1), p c = false := by
  intro c hc
  rw [List.take_succ_eq_append_getElem hk, List.mem_append] at hc
  rcases hc with hc | hc
  · exact h c hc
  · simp at hc; rw [hc]; exact h2
/-- The votes so far, the rest zero. -/
def fillD' (f : Nat → UInt8) (sz k : Nat) : List (List D) := (List.range sz).map fun j => if j < k then u8D (f j) else [D.v (.int .u8 0)]
theorem fill_zero (f : Nat → UInt8) (sz : Nat) : fillD' f sz 0 = List.replicate sz [D.v (.int .u8 0)] := by
  unfold fillD'
  simp only [Nat.not_lt_zero, if_false]
  rw [List.map_const', List.length_range]
theorem fill_succ (f : Nat → UInt8) (sz k : Nat) : (fillD' f sz k).set k (u8D (f k)) = fillD' f sz (k + 1) := by
  unfold fillD'
  rw [range_set]
  apply List.map_congr_left
  intro j _
  by_cases h : j = k
  · subst h; simp
  · rw [if_neg h]
    by_cases h2 : j < k
    · rw [if_pos h2, if_pos (by omega)]
    · rw [if_neg h2, if_neg (by omega)]
theorem fill_all (f : Nat → UInt8) (sz : Nat) : fillD' f sz sz = ((List.range sz).map f).map u8D := by
  unfold fillD'
  rw [List.map_map]
  apply List.map_congr_left
  intro j hj
  rw [if_pos (by simpa using hj)]
  rfl
theorem fill_len (f : Nat → UInt8) (sz k : Nat) : (fillD' f sz k).length = sz := by simp [fillD']
theorem fill_at (f : Nat → UInt8) (sz k : Nat) (h : k < sz) : (fillD' f sz k)[k]? = some [D.v (.int .u8 0)] := by simp [fillD', h]
theorem min_nat (n b i : Nat) (h : i * b ≤ n) : min (b : Int) ((n : Int) - (i : Int) * (b : Int)) = ((min b (n - i * b) : Nat) : Int) := by
  rw [← Int.natCast_mul]; omega

set_option maxRecDepth 100000 in
set_option maxHeartbeats 1000000 in
theorem c_repaired (item : ByteArray) (n b : Nat) (sums : List Nat) (cs : List (List UInt8)) (i : Nat) (hb1 : 1 ≤ b) (hb : b ≤ 20000) (hn : n ≤ 20000) (hl : sums.length ≤ 1000) (hi : i < sums.length) (hin : i * b ≤ n) (hc : cs.length ≤ 20) : ACall Tryd.prog 26 [.agg (manD item n b sums), .sl (cs.map (slD u8D)), .v (.int .i64 i)] (.sl ((repB n b sums cs i).map u8D)) := by
 have hm := mulb i b (by omega) hb
 have hmn := min_nat n b i hin
 have hmc : (i : Int) * (b : Int) = ((i * b : Nat) : Int) := (Int.natCast_mul i b).symm
 refine acall_of (n := 53) (ds' := [.sl ((repB n b sums cs i).map u8D)]) Tryd.func26 rfl (by kernel_rfl) rfl [6] rfl rfl ?_
 intro B w0 F0 fr
 refine .sr ?_
 refine .sA (.box rfl rfl rfl) ?_
 refine .aA (.nil ?_)
 refine .seq ?_
 refine .sr ?_
 refine .mA ?_
 refine .sA (.lenSl rfl et_38.ht rfl) ?_
 refine .mA (.nil ?_)
 refine .block ?_
 refine .loop (G := Nat) (fun k => Env.of [(13, .d (.v (.int .i64 (k : Int)))), (11, .d (.sl (cs.map (slD u8D)))), (12, .d (.v (.int .i64 ((cs.map (slD u8D)).length : Int)))), (1, .d (.sl (cs.map (slD u8D)))), (3, .d (.fp (manD item n b sums))), (2, .d (.v (.int .i64 (i : Int))))]) (fun k => []) (fun k => k ≤ cs.length ∧ ∀ c ∈ cs.take k, rightB n b sums (c.take n) i = false) (fun k => cs.length - k) 0 ⟨Nat.zero_le _, fun c h => by simp at h⟩ (Sub.less ⟨(SLe.of_eq rfl), SLe.refl _, SLe.refl _, SLe.refl _, SLe.refl _, SLe.refl _, trivial⟩ (fun _ h => h)) ?_
 intro k hk
 refine .sr ?_
 refine .sA (.lss rfl rfl rfl) (.nil ?_)
 refine .seq ?_
 refine .cond rfl (fun h1 => ?_) (fun h1 => ?_)
 ·replace h1 := of_decide_eq_true h1
  rw [List.length_map] at h1
  have hlt : k < cs.length := by omega
  refine .skip ?_
  refine .seq ?_
  refine .block ?_
  refine .sr ?_
  refine .sA (.indexAddr rfl et_38 rfl rfl k rfl (at_map hlt) rfl) ?_
  refine .sA (.load rfl sc_28 rfl) ?_
  refine .aA (.nil ?_)
  refine .seq ?_
  refine .draw (by kernel_rfl) (by kernel_rfl) ?_
  refine .sA (.loadAgg rfl ag_34 rfl rfl) ?_
  refine .sA (.loadAgg rfl ag_34 rfl rfl) ?_
  refine .sA (.moveD rfl rfl) ?_
  refine .sA (.call rfl (.cons (.rfl' rfl) (.cons (.rfl' rfl) .nil)) (c_whole item n b sums cs[k])) ?_
  refine .sA (.moveD rfl rfl) ?_
  refine .sA (.call rfl (.cons (.rfl' rfl) (.cons (.rfl' rfl) (.cons (.rfl' rfl) .nil))) (c_pright item n b sums (cs[k].take n) i hb hn hl hi)) ?_
  refine .nil ?_
  refine .cond rfl (fun h2 => ?_) (fun h2 => ?_)
  ·skip
   have hR := repB_yes hlt hk.2 h2
   refine .seq ?_
   refine .draw (by kernel_rfl) (by kernel_rfl) ?_
   refine .sA (.loadAgg rfl ag_34 rfl rfl) ?_
   refine .sA (.moveD rfl rfl) ?_
   refine .sA (.call rfl (.cons (.rfl' rfl) (.cons (.rfl' rfl) .nil)) (c_whole item n b sums cs[k])) ?_
   refine .sA (.fieldAddr rfl fo_34_2 rfl) ?_
   refine .sA (.load rfl sc_3 rfl) ?_
   refine .sA (.moveD rfl rfl) ?_
   refine .sA (.call rfl (.cons (.rfl' rfl) (.cons (.rfl' rfl) (.cons (.rfl' rfl) .nil))) (c_blockOf (cs[k].take n) b i (by omega) (by omega))) ?_
   refine .sA (.assignD rfl rfl) ?_
   refine .nil ?_
   refine .ret ?_
   refine ⟨RetD.eq rfl ?_, trivial⟩
   all_goals (first | (rw [hR]; done) | (rw [hR]; rfl) | (rw [fill_all]; done))
  have hT := take_false hlt hk.2 h2
  refine .skip ?_
  refine .region ?_
  refine .sA (.add64 rfl rfl rfl (by omega) (by omega)) ?_
  refine .mA (.nil ?_)
  refine ⟨k + 1, ⟨by omega, hT⟩, (by dsimp only; omega), Sub.less ⟨(SLe.of_eq rfl), SLe.refl _, SLe.refl _, SLe.refl _, SLe.refl _, SLe.refl _, trivial⟩ (fun _ h => h)⟩
 replace h1 := of_decide_eq_false h1
 rw [List.length_map] at h1
 have hR := repB_no (fun c hc2 => hk.2 c (by rw [show k = cs.length by omega]; exact hc2))
 rw [hR]
 refine .exit ?_
 refine .sr ?_
 refine .sA (.loadAgg rfl ag_34 rfl rfl) ?_
 refine .mA ?_
 refine .sA (.call rfl (.cons (.rfl' rfl) (.cons (.rfl' rfl) .nil)) (c_sizeOf item n b sums i hb hn (by omega))) ?_
 refine .makeI 101 (min b (n - i * b)) rfl rfl rfl rfl et_28 rfl rfl hmn (by omega) (by omega) rfl rfl ?_
 refine .sA (.assignO rfl rfl) (.nil ?_)
 refine .seq ?_
 refine .sr ?_
 refine .sA (.moveO rfl rfl) ?_
 refine .sA (.lenOwn rfl et_28.ht rfl (.head _)) ?_
 refine .mA (.nil ?_)
 refine .block ?_
 refine .loop (G := Nat) (fun k => Env.of [(37, .d (.v (.int .i64 (k : Int)))), (36, .d (.v (.int .i64 (((fillD' (fun j => voteB cs (i * b + j)) (min b (n - i * b)) k).length : Nat) : Int)))), (1, .d (.sl (cs.map (slD u8D)))), (3, .d (.fp (manD item n b sums))), (2, .d (.v (.int .i64 (i : Int)))), (9, .own 101)]) (fun k => [(101, .row 5 1 (fillD' (fun j => voteB cs (i * b + j)) (min b (n - i * b)) k))]) (fun k => k ≤ (min b (n - i * b))) (fun k => (min b (n - i * b)) - k) 0 (Nat.zero_le _) (Sub.less ⟨(SLe.of_eq rfl), (SLe.of_eq (by rw [fill_zero]; rfl)), SLe.refl _, SLe.refl _, SLe.refl _, SLe.refl _, trivial⟩ (by rw [fill_zero]; exact fun _ h => h)) ?_
 intro k hk
 refine .sr ?_
 refine .sA (.lss rfl rfl rfl) (.nil ?_)
 refine .seq ?_
 refine .cond rfl (fun h3 => ?_) (fun h3 => ?_)
 ·replace h3 := of_decide_eq_true h3
  rw [fill_len] at h3
  have hlt : k < min b (n - i * b) := by omega
  have hfl := fill_len (fun j => voteB cs (i * b + j)) (min b (n - i * b)) k
  refine .skip ?_
  refine .seq ?_
  refine .block ?_
  refine .sr ?_
  refine .mA ?_
  refine .aA (.nil ?_)
  refine .region ?_
  refine .sA (.moveO rfl rfl) ?_
  refine .mA ?_
  refine .mA ?_
  refine .mA ?_
  refine .sA (.fieldAddr rfl fo_34_2 rfl) ?_
  refine .sA (.load rfl sc_3 rfl) ?_
  refine .sA (.mul64 rfl rfl rfl (by omega) (by omega)) ?_
  refine .mA ?_
  refine .sA (.add64 rfl rfl rfl (by omega) (by omega)) ?_
  refine .sA (.call rfl (.cons (.rfl' rfl) (.cons (.rfl' rfl) .nil)) (by have := c_voted cs (i * b + k) hc; rw [Int.natCast_add, Int.natCast_mul] at this; exact this)) ?_
  refine .sA (.indexOwn rfl et_28 rfl rfl (.head _) k rfl (by omega)) ?_
  refine .storeRow rfl rfl rfl sz_5 rfl (.head _) rfl rfl rfl k 0 rfl (fill_at _ _ _ hlt) (by decide) (.nil ?_)
  refine .region ?_
  refine .sA (.add64 rfl rfl rfl (by omega) (by omega)) ?_
  refine .mA (.nil ?_)
  refine ⟨k + 1, (by omega), (by dsimp only; omega), Sub.less ⟨(SLe.of_eq rfl), (SLe.of_eq (by rw [fill_len, fill_len]; rfl)), SLe.refl _, SLe.refl _, SLe.refl _, SLe.refl _, trivial⟩ (by dsimp only; rw [← fill_succ]; exact fun _ h => h)⟩
 replace h3 := of_decide_eq_false h3
 rw [fill_len] at h3
 obtain rfl : k = min b (n - i * b) := by omega
 refine .exit ?_
 refine .sr ?_
 refine .sA (.moveO rfl rfl) ?_
 refine .sA (.assignO rfl rfl) (.nil ?_)
 refine .ret ?_
 refine ⟨RetD.own rfl (.head _) ?_, trivial⟩
 all_goals (first | (rw [hR]; done) | (rw [hR]; rfl) | (rw [fill_all]; done))

end Go.Proofs.YtagdgclfnbiahaaDoor

namespace Go.Proofs.YtagdgclfnbiahaaDoor
open Go.RowKit
set_option linter.unusedVariables false

/-! Types. -/
namespace TyV8
end TyV8
open TyXA TyXB TySBA TySBB TySBC TySBD TySBE TySBF TySBG TySBH TySBI TySBJ TySBK TyV1 TyV2 TyV3 TyV4 TyV5 TyV6 TyV7 TyV8

def wrongOf (n b : Nat) (sums : List Nat) (cs : List (List UInt8)) (k : Nat) : List Nat := (List.range k).filter fun i => !decide (((fnv (repB n b sums cs i) : Nat) : Int) = ((sums.getD i 0 : Nat) : Int))
theorem wrongOf_yes (n b : Nat) (sums : List Nat) (cs : List (List UInt8)) (k : Nat) (h : ¬ ((fnv (repB n b sums cs k) : Nat) : Int) = ((sums.getD k 0 : Nat) : Int)) : wrongOf n b sums cs (k + 1) = wrongOf n b sums cs k ++ [k] := by
  unfold wrongOf
  rw [List.range_succ, List.filter_append, List.filter_cons, List.filter_nil, decide_eq_false h]; rfl
theorem wrongOf_no (n b : Nat) (sums : List Nat) (cs : List (List UInt8)) (k : Nat) (h : ((fnv (repB n b sums cs k) : Nat) : Int) = ((sums.getD k 0 : Nat) : Int)) : wrongOf n b sums cs (k + 1) = wrongOf n b sums cs k := by
  unfold wrongOf
  rw [List.range_succ, List.filter_append, List.filter_cons, List.filter_nil, decide_eq_true h]; simp
theorem wrongOf_len (n b : Nat) (sums : List Nat) (cs : List (List UInt8)) (k : Nat) : (wrongOf n b sums cs k).length ≤ k := by
  unfold wrongOf
  exact Nat.le_trans (List.length_filter_le _ _) (by simp)
def outOf (n b : Nat) (sums : List Nat) (cs : List (List UInt8)) (k : Nat) : List UInt8 := (List.range k).flatMap fun i => repB n b sums cs i
theorem outOf_succ (n b : Nat) (sums : List Nat) (cs : List (List UInt8)) (k : Nat) : outOf n b sums cs (k + 1) = outOf n b sums cs k ++ repB n b sums cs k := by
  unfold outOf
  rw [List.range_succ, List.flatMap_append]; simp
theorem outOf_len (n b : Nat) (sums : List Nat) (cs : List (List UInt8)) (hb : b ≤ 20000) : ∀ k, (outOf n b sums cs k).length ≤ k * 20000
  | 0 => by simp [outOf]
  | k + 1 => by
    rw [outOf_succ, List.length_append]
    have := outOf_len n b sums cs hb k
    have := repB_len n b sums cs k
    omega
def anyLarge (cs : List (List UInt8)) : Bool := cs.any fun c => decide (40000 < (c.length : Int))
theorem anyLarge_yes {cs : List (List UInt8)} {k : Nat} (hk : k < cs.length) (h : 40000 < (cs[k].length : Int)) : anyLarge cs = true := by
  unfold anyLarge
  rw [List.any_eq_true]
  exact ⟨cs[k], List.getElem_mem hk, decide_eq_true h⟩
theorem anyLarge_no {cs : List (List UInt8)} (h : ∀ c ∈ cs.take cs.length, decide (40000 < (c.length : Int)) = false) : anyLarge cs = false := by
  unfold anyLarge
  rw [List.any_eq_false]
  intro c hc
  rw [h c (by rw [List.take_length]; exact hc)]
  simp
def repRes (m : Man) (cs : List (List UInt8)) : List UInt8 × List Nat × Int :=
  if manFault m ≠ 0 then ([], [], manFault m) else if (cs.length : Int) = 0 then ([], [], 9) else if 20 < (cs.length : Int) then ([], [], 2) else if anyLarge cs = true then ([], [], 2)
  else (outOf m.size.toNat m.block.toNat m.sums cs m.sums.length, wrongOf m.size.toNat m.block.toNat m.sums cs m.sums.length, 0)
theorem repRes_good (item : ByteArray) (n b : Nat) (sums : List Nat) (cs : List (List UInt8)) (h0 : manFault ⟨item, n, b, sums⟩ = 0) (h1 : ¬ (cs.length : Int) = 0) (h2 : ¬ 20 < (cs.length : Int)) (h3 : anyLarge cs = false) : repRes ⟨item, n, b, sums⟩ cs = (outOf n b sums cs sums.length, wrongOf n b sums cs sums.length, 0) := by
  unfold repRes
  rw [if_neg (by rw [h0]; simp), if_neg h1, if_neg h2, if_neg (by rw [h3]; simp)]
  rfl

set_option maxRecDepth 100000 in
set_option maxHeartbeats 1000000 in
theorem c_pRep (m : Man) (cs : List (List UInt8)) (hs : m.item.size ≤ 9223372036854775807) : ACall Tryd.prog 9 [.agg m.ds, .sl (cs.map (slD u8D))] (.tup [.sl ((repRes m cs).1.map u8D), .sl ((repRes m cs).2.1.map natD), .v (.int .i64 (repRes m cs).2.2)]) := by
 refine acall_of (n := 66) (ds' := [.sl ((repRes m cs).1.map u8D), .sl ((repRes m cs).2.1.map natD), .v (.int .i64 (repRes m cs).2.2)]) Tryd.func9 rfl (by kernel_rfl) rfl [4, 5, 6] rfl rfl ?_
 intro B w0 F0 fr
 refine .sr ?_
 refine .sA (.box rfl rfl rfl) ?_
 refine .aA ?_
 refine .aA ?_
 refine .aA (.nil ?_)
 refine .seq ?_
 refine .sr ?_
 refine .sA (.loadAgg rfl ag_34 rfl rfl) ?_
 refine .sA (.call rfl (.cons (.rfl' rfl) .nil) (c_pMan m hs)) ?_
 refine .aA (.nil ?_)
 refine .sr ?_
 refine .mA ?_
 refine .sA (.neq rfl rfl rfl) (.nil ?_)
 refine .cond rfl (fun h1 => ?_) (fun h1 => ?_)
 ·replace h1 := of_decide_eq_true h1
  have HR : repRes m cs = ([], [], manFault m) := by unfold repRes; rw [if_pos h1]
  rw [HR]
  refine .sr ?_
  refine .mA ?_
  refine .aA ?_
  refine .aA ?_
  refine .aA (.nil ?_)
  refine .ret ?_
  refine ⟨RetD.nil rfl, RetD.nil rfl, RetD.eq rfl ?_, trivial⟩
  all_goals (rfl)
 replace h1 := of_decide_eq_false h1
 refine .skip ?_
 refine .seq ?_
 refine .sr ?_
 refine .mA ?_
 refine .sA (.lenSl rfl et_38.ht rfl) ?_
 refine .sA (.eql rfl rfl rfl) (.nil ?_)
 refine .cond rfl (fun h2 => ?_) (fun h2 => ?_)
 ·replace h2 := of_decide_eq_true h2
  rw [List.length_map] at h2
  have HR : repRes m cs = ([], [], 9) := by unfold repRes; rw [if_neg h1, if_pos h2]
  rw [HR]
  refine .sr ?_
  refine .aA ?_
  refine .aA ?_
  refine .aA (.nil ?_)
  refine .ret ?_
  refine ⟨RetD.nil rfl, RetD.nil rfl, RetD.eq rfl ?_, trivial⟩
  all_goals (rfl)
 replace h2 := of_decide_eq_false h2
 rw [List.length_map] at h2
 refine .skip ?_
 refine .seq ?_
 refine .sr ?_
 refine .mA ?_
 refine .sA (.lenSl rfl et_38.ht rfl) ?_
 refine .sA (.gtr rfl rfl rfl) (.nil ?_)
 refine .cond rfl (fun h3 => ?_) (fun h3 => ?_)
 ·replace h3 := of_decide_eq_true h3
  rw [List.length_map] at h3
  have HR : repRes m cs = ([], [], 2) := by unfold repRes; rw [if_neg h1, if_neg h2, if_pos h3]
  rw [HR]
  refine .sr ?_
  refine .aA ?_
  refine .aA ?_
  refine .aA (.nil ?_)
  refine .ret ?_
  refine ⟨RetD.nil rfl, RetD.nil rfl, RetD.eq rfl ?_, trivial⟩
  all_goals (rfl)
 replace h3 := of_decide_eq_false h3
 rw [List.length_map] at h3
 refine .skip ?_
 refine .seq ?_
 refine .sr ?_
 refine .mA ?_
 refine .sA (.lenSl rfl et_38.ht rfl) ?_
 refine .mA (.nil ?_)
 refine .block ?_
 refine .loop (G := Nat) (fun k => Env.of [(27, .d (.v (.int .i64 (k : Int)))), (25, .d (.sl (cs.map (slD u8D)))), (26, .d (.v (.int .i64 ((cs.map (slD u8D)).length : Int)))), (1, .d (.sl (cs.map (slD u8D)))), (2, .d (.fp m.ds))]) (fun k => []) (fun k => k ≤ cs.length ∧ ∀ c ∈ cs.take k, decide (40000 < (c.length : Int)) = false) (fun k => cs.length - k) 0 ⟨Nat.zero_le _, fun c h => by simp at h⟩ (Sub.less ⟨(SLe.of_eq rfl), SLe.refl _, SLe.refl _, SLe.refl _, SLe.refl _, trivial⟩ (fun _ h => h)) ?_
 intro k hk
 refine .sr ?_
 refine .sA (.lss rfl rfl rfl) (.nil ?_)
 refine .seq ?_
 refine .cond rfl (fun h4 => ?_) (fun h4 => ?_)
 ·replace h4 := of_decide_eq_true h4
  rw [List.length_map] at h4
  have hlt : k < cs.length := by omega
  refine .skip ?_
  refine .seq ?_
  refine .block ?_
  refine .sr ?_
  refine .sA (.indexAddr rfl et_38 rfl rfl k rfl (at_map hlt) rfl) ?_
  refine .sA (.load rfl sc_28 rfl) ?_
  refine .aA (.nil ?_)
  refine .sr ?_
  refine .mA ?_
  refine .sA (.lenSl rfl et_28.ht rfl) ?_
  refine .sA (.gtr rfl rfl rfl) (.nil ?_)
  refine .cond rfl (fun h5 => ?_) (fun h5 => ?_)
  ·replace h5 := of_decide_eq_true h5
   rw [List.length_map] at h5
   have HR : repRes m cs = ([], [], 2) := by unfold repRes; rw [if_neg h1, if_neg h2, if_neg h3, if_pos (anyLarge_yes hlt h5)]
   rw [HR]
   refine .sr ?_
   refine .aA ?_
   refine .aA ?_
   refine .aA (.nil ?_)
   refine .ret ?_
   refine ⟨RetD.nil rfl, RetD.nil rfl, RetD.eq rfl ?_, trivial⟩
   all_goals (rfl)
  replace h5 := of_decide_eq_false h5
  rw [List.length_map] at h5
  have hT := take_false hlt hk.2 (decide_eq_false h5)
  refine .skip ?_
  refine .region ?_
  refine .sA (.add64 rfl rfl rfl (by omega) (by omega)) ?_
  refine .mA (.nil ?_)
  refine ⟨k + 1, ⟨by omega, hT⟩, (by dsimp only; omega), Sub.less ⟨(SLe.of_eq rfl), SLe.refl _, SLe.refl _, SLe.refl _, SLe.refl _, trivial⟩ (fun _ h => h)⟩
 replace h4 := of_decide_eq_false h4
 rw [List.length_map] at h4
 have hA := anyLarge_no (fun c hc2 => hk.2 c (by rw [show k = cs.length by omega]; exact hc2))
 obtain ⟨n, b, hm, hb1, hb2, hn, hl, hl2⟩ := man_good (Decidable.not_not.1 h1)
 obtain ⟨item, sz, bk, sums⟩ := m
 simp only [Man.mk.injEq, true_and, and_true] at hm
 obtain ⟨rfl, rfl⟩ := hm
 dsimp only at hl hl2
 have HR := repRes_good item n b sums cs (Decidable.not_not.1 h1) h2 h3 hA
 rw [HR]
 have HM : Man.ds ⟨item, n, b, sums⟩ = manD item n b sums := rfl
 rw [HM]
 have HO := outOf_len n b sums cs hb2
 have HW := wrongOf_len n b sums cs
 have hc20 : cs.length ≤ 20 := by omega
 refine .exit ?_
 refine .sr ?_
 refine .sA (.fieldAddr rfl fo_34_1 rfl) ?_
 refine .sA (.load rfl sc_3 rfl) ?_
 refine .make0 101 rfl rfl rfl rfl et_28 rfl rfl (by omega) (by omega) (by omega) rfl ?_
 refine .sA (.assignO rfl rfl) (.nil ?_)
 refine .sr ?_
 refine .aA (.nil ?_)
 refine .seq ?_
 refine .sr ?_
 refine .sA (.fieldAddr rfl fo_34_3 rfl) ?_
 refine .sA (.load rfl sc_32 rfl) ?_
 refine .sA (.lenSl rfl et_32.ht rfl) ?_
 refine .mA (.nil ?_)
 refine .block ?_
 refine .adopt 11 1 3 1 rfl rfl ?_
 refine .loop (G := Nat) (fun k => Env.of [(41, .d (.v (.int .i64 (k : Int)))), (1, .d (.sl (cs.map (slD u8D)))), (2, .d (.fp (manD item n b sums))), (40, .d (.v (.int .i64 ((sums.map u32D).length : Int)))), (10, .own 101), (11, .own 1)]) (fun k => [(1, .row 3 1 ((wrongOf n b sums cs k).map natD)), (101, .row 5 1 ((outOf n b sums cs k).map u8D))]) (fun k => k ≤ sums.length) (fun k => sums.length - k) 0 (Nat.zero_le _) (Sub.less ⟨(SLe.of_eq rfl), SLe.refl _, SLe.refl _, SLe.refl _, SLe.refl _, SLe.refl _, trivial⟩ (fun _ h => h)) ?_
 intro k hk
 refine .sr ?_
 refine .sA (.lss rfl rfl rfl) (.nil ?_)
 refine .seq ?_
 refine .cond rfl (fun h6 => ?_) (fun h6 => ?_)
 ·replace h6 := of_decide_eq_true h6
  rw [List.length_map] at h6
  have hlt2 : k < sums.length := by omega
  have hkb : k * b ≤ n := Nat.le_of_lt ((nblk_lt n b k hb1).2 (by omega))
  have HOk := HO k
  have HWk := HW k
  have HRk := repB_len n b sums cs k
  have HOs := outOf_succ n b sums cs k
  refine .skip ?_
  refine .seq ?_
  refine .block ?_
  refine .sr ?_
  refine .mA ?_
  refine .aA (.nil ?_)
  refine .sr ?_
  refine .sA (.loadAgg rfl ag_34 rfl rfl) ?_
  refine .mA ?_
  refine .mA ?_
  refine .sA (.call rfl (.cons (.rfl' rfl) (.cons (.rfl' rfl) (.cons (.rfl' rfl) .nil))) (c_repaired item n b sums cs k hb1 hb2 hn hl hlt2 hkb hc20)) ?_
  refine .aA (.nil ?_)
  refine .seq ?_
  refine .seq ?_
  refine .draw (by kernel_rfl) (by kernel_rfl) ?_
  refine .sA (.moveD rfl rfl) ?_
  refine .sA (.call rfl (.cons (.rfl' rfl) .nil) (c_pSum _)) ?_
  refine .sA (.fieldAddr rfl fo_34_3 rfl) ?_
  refine .sA (.load rfl sc_32 rfl) ?_
  refine .sA (.moveD rfl rfl) ?_
  refine .sA (.indexAddr rfl et_32 rfl rfl k rfl (at_getD hlt2) rfl) ?_
  refine .sA (.load rfl sc_49 rfl) ?_
  refine .sA (.neq rfl rfl rfl) ?_
  refine .nil ?_
  refine .cond rfl (fun h7 => ?_) (fun h7 => ?_)
  ·replace h7 := of_decide_eq_true h7
   have HWs := wrongOf_yes n b sums cs k h7
   refine .region ?_
   refine .sA (.moveO rfl rfl) ?_
   refine .mA ?_
   refine .sA (.buildSlice rfl et_42 (.cons rfl rfl rfl .nil) rfl (by decide)) ?_
   -- append 59
   refine .append rfl rfl rfl rfl et_42 rfl (.head _) rfl (by simp [D.parts]) (by simp; omega) (by simp; omega) ?_
   refine .sA (.assignO rfl rfl) (.nil ?_)
   refine .region ?_
   refine .sA (.moveO rfl rfl) ?_
   refine .mA ?_
   -- append 62
   refine .append rfl rfl rfl rfl et_28 rfl (.tail _ (.head _)) rfl (by simp [u8D]) (by simp; omega) (by simp; omega) ?_
   refine .sA (.assignO rfl rfl) (.nil ?_)
   refine .region ?_
   refine .sA (.add64 rfl rfl rfl (by omega) (by omega)) ?_
   refine .mA (.nil ?_)
   refine ⟨k + 1, (by omega), (by dsimp only; omega), Sub.less ⟨(SLe.of_eq rfl), SLe.refl _, SLe.refl _, SLe.refl _, SLe.refl _, SLe.refl _, trivial⟩ (by dsimp only; rw [HWs, HOs, List.map_append, List.map_append]; exact fun _ h => h)⟩
  replace h7 := of_decide_eq_false h7
  have HWs := wrongOf_no n b sums cs k (Decidable.not_not.1 h7)
  refine .skip ?_
  refine .region ?_
  refine .sA (.moveO rfl rfl) ?_
  refine .mA ?_
  -- append 62
  refine .append rfl rfl rfl rfl et_28 rfl (.tail _ (.head _)) rfl (by simp [u8D]) (by simp; omega) (by simp; omega) ?_
  refine .sA (.assignO rfl rfl) (.nil ?_)
  refine .region ?_
  refine .sA (.add64 rfl rfl rfl (by omega) (by omega)) ?_
  refine .mA (.nil ?_)
  refine ⟨k + 1, (by omega), (by dsimp only; omega), Sub.less ⟨(SLe.of_eq rfl), SLe.refl _, SLe.refl _, SLe.refl _, SLe.refl _, SLe.refl _, trivial⟩ (by dsimp only; rw [HWs, HOs, List.map_append]; exact fun _ h => h)⟩
 replace h6 := of_decide_eq_false h6
 rw [List.length_map] at h6
 obtain rfl : k = sums.length := by omega
 refine .exit ?_
 refine .sr ?_
 refine .sA (.moveO rfl rfl) ?_
 refine .sA (.moveO rfl rfl) ?_
 refine .sA (.assignO rfl rfl) ?_
 refine .sA (.assignO rfl rfl) ?_
 refine .aA (.nil ?_)
 refine .ret ?_
 refine ⟨RetD.own rfl (.tail _ (.head _)) ?_, RetD.own rfl (.head _) ?_, RetD.eq rfl ?_, trivial⟩
 all_goals (rfl)

end Go.Proofs.YtagdgclfnbiahaaDoor

namespace Go.Proofs.YtagdgclfnbiahaaDoor
open Go.RowKit
set_option linter.unusedVariables false

/-! Types. -/
namespace TySBL
end TySBL
open TyXA TyXB TySBA TySBB TySBC TySBD TySBE TySBF TySBG TySBH TySBI TySBJ TySBK TyV1 TyV2 TyV3 TyV4 TyV5 TyV6 TyV7 TyV8 TySBL

set_option linter.unusedSimpArgs false
theorem repB_len_eq {n b : Nat} {sums : List Nat} {cs : List (List UInt8)} {i : Nat} (hi : i * b < n) : (repB n b sums cs i).length = min b (n - i * b) := by
  unfold repB
  split
  · rename_i c hc
    have h := List.find?_some hc
    simp only [rightB, Bool.and_eq_true, decide_eq_true_eq] at h
    have h1 := h.1
    rw [min_nat n b i (by omega)] at h1
    omega
  · simp
theorem nblk_hi {n b k : Nat} (hb : 1 ≤ b) (hk : k < nblk n b) : k * b < n := (nblk_lt n b k hb).2 hk
theorem nblk_cover (n b : Nat) (hb : 1 ≤ b) : n ≤ nblk n b * b := by
  have := nblk_lt n b (nblk n b) hb
  omega
theorem outOf_length {n b : Nat} {sums : List Nat} {cs : List (List UInt8)} (hb : 1 ≤ b) : ∀ k, k ≤ nblk n b → (outOf n b sums cs k).length = min (k * b) n
  | 0, _ => by simp [outOf]
  | k + 1, h => by
    have h1 := nblk_hi (n := n) (b := b) (k := k) hb (by omega)
    rw [outOf_succ, List.length_append, outOf_length hb k (by omega), repB_len_eq h1, Nat.add_mul]
    omega
theorem chunk_out {n b : Nat} {sums : List Nat} {cs : List (List UInt8)} (hb : 1 ≤ b) : ∀ K, K ≤ nblk n b → ∀ i, i < K → chunk (outOf n b sums cs K) b i = repB n b sums cs i
  | 0, _, i, hi => by omega
  | K + 1, h, i, hi => by
    have h1 := nblk_hi (n := n) (b := b) (k := K) hb (by omega)
    have hl := outOf_length (n := n) (b := b) (sums := sums) (cs := cs) hb K (by omega)
    rw [outOf_succ]
    by_cases hik : i < K
    · rw [← chunk_out hb K (by omega) i hik]
      have h2 : i * b + b ≤ K * b := by rw [← Nat.succ_mul]; exact Nat.mul_le_mul_right _ hik
      unfold chunk
      rw [List.drop_append_of_le_length (by omega), List.take_append_of_le_length (by rw [List.length_drop]; omega)]
    · have : i = K := by omega
      subst this
      unfold chunk
      rw [List.drop_append, List.drop_eq_nil_of_le (by omega), List.nil_append, hl, show i * b - min (i * b) n = 0 by omega, List.drop_zero, List.take_of_length_le]
      rw [repB_len_eq h1]; omega

theorem whole_right {n b : Nat} {c : List UInt8} (hb : 1 ≤ b) (hc : c.length = n) {i : Nat} (hi : i < nblk n b) : rightB n b (sumsTo c b (nblk n b)) c i = true := by
  have hin := nblk_hi hb hi
  have h1 : (chunk c b i).length = min b (n - i * b) := by unfold chunk; rw [List.length_take, List.length_drop, hc]
  have h2 : (sumsTo c b (nblk n b)).getD i 0 = fnv (chunk c b i) := by
    unfold sumsTo
    rw [List.getD_eq_getElem?_getD, List.getElem?_map, List.getElem?_range hi]; rfl
  unfold rightB
  rw [h1, h2, min_nat n b i (by omega), decide_eq_true rfl, decide_eq_true rfl]; rfl
/-- Where one copy is whole, nothing is wrong. -/
theorem no_wrong {n b : Nat} {c : List UInt8} {cs : List (List UInt8)} (hb : 1 ≤ b) (hc : c ∈ cs) (hn : c.length = n) : wrongOf n b (sumsTo c b (nblk n b)) cs (nblk n b) = [] := by
  unfold wrongOf
  rw [List.filter_eq_nil_iff]
  intro i hi
  have hi := List.mem_range.1 hi
  have hw := whole_right hb hn hi
  have ht : c.take n = c := List.take_of_length_le (by omega)
  have key : fnv (repB n b (sumsTo c b (nblk n b)) cs i) = (sumsTo c b (nblk n b)).getD i 0 := by
    cases hf : cs.find? (fun c' => rightB n b (sumsTo c b (nblk n b)) (c'.take n) i) with
    | none =>
      rw [List.find?_eq_none] at hf
      exact absurd (by rw [ht]; exact hw) (hf c hc)
    | some c' =>
      have hs' : rightB n b (sumsTo c b (nblk n b)) (c'.take n) i = true := by have := List.find?_some hf; simpa using this
      have h6 : repB n b (sumsTo c b (nblk n b)) cs i = chunk (c'.take n) b i := by unfold repB; rw [hf]
      rw [h6]; exact right_fnv hs'
  rw [key]; simp

/-- Where nothing is wrong, what comes out has the sums. -/
theorem sums_back {n b : Nat} {sums : List Nat} {cs : List (List UInt8)} (hb : 1 ≤ b) (hl : sums.length = nblk n b) (hw : wrongOf n b sums cs sums.length = []) : (outOf n b sums cs sums.length).length = n ∧ sumsTo (outOf n b sums cs sums.length) b (nblk n b) = sums := by
  have hlen : (outOf n b sums cs sums.length).length = n := by
    rw [outOf_length hb _ (by omega), hl]
    have := nblk_cover n b hb
    omega
  refine ⟨hlen, List.ext_getElem (by rw [sumsTo_length, hl]) fun i h1 h2 => ?_⟩
  unfold wrongOf at hw
  rw [List.filter_eq_nil_iff] at hw
  have h3 := hw i (List.mem_range.2 h2)
  have h4 := chunk_out (n := n) (b := b) (sums := sums) (cs := cs) hb sums.length (by omega) i h2
  have h5 : (sumsTo (outOf n b sums cs sums.length) b (nblk n b))[i] = fnv (chunk (outOf n b sums cs sums.length) b i) := by simp [sumsTo]
  have h6 : sums.getD i 0 = sums[i] := by rw [List.getD_eq_getElem?_getD, List.getElem?_eq_getElem h2]; rfl
  rw [h5, h4]
  simp only [Bool.not_eq_true, Bool.not_eq_false', decide_eq_true_eq] at h3
  rw [h6] at h3
  omega

end Go.Proofs.YtagdgclfnbiahaaDoor

namespace Go.Proofs.YtagdgclfnbiahaaDoor
open Go.RowKit
set_option linter.unusedVariables false

end Go.Proofs.YtagdgclfnbiahaaDoor

namespace Go.Proofs.YtagdgclfnbiahaaDoor
open Go.RowKit
set_option linter.unusedVariables false
set_option linter.unusedSimpArgs false
section
variable {cx : Cx} {ops : Array Oper} {o : Oper} {rest : List Oper} {e : Env} {σ : Obs} {Q : Post}
theorem AOps.build2 {t dst : Nat} {x0 x1 : Operand} {s0 s1 : S} {places : Nat → Option (Nat × Nat)} {z0 z1 : Value} (id : Nat) (hg : o.guard = none) (ht : o.dst = some dst) (hdn : Nat.blt dst cx.N = true) (ho : o.op = .build t #[(0, x0), (1, x1)]) (T : StructT cx.P t places [z0, z1])
    (hp0 : places 0 = some (0, 1)) (hp1 : places 1 = some (1, 1)) (e0 : e.ev x0 = s0) (e1 : e.ev x1 = s1) (o0 : OneS σ s0) (o1 : OneS σ s1) (hid : Obs.fresh id σ = true)
    (k : AOps cx ops rest ((e.kill id).put (some dst) (.own id)) ((id, .val ([s0, s1].map (S.kill id))) :: Obs.kill id σ) Q) (hfx : cx.free id = true := by rfl) : AOps cx ops (o :: rest) e σ Q := by
  intro a w ⟨F, ρ, hr⟩
  have cell : ∀ {x : Operand} {s : S}, e.ev x = s → OneS σ s → ∃ c, (a.eval x).cells = #[c] ∧ c.oneCell' = true ∧ RepS F ρ w c s := fun {x s} hx h => by
    have r1 := ev_rep (e := e) (x := x) (a := a) (fun t _ => hr.env t)
    rw [hx] at r1
    exact h.cell hr.obs r1
  obtain ⟨c0, a0, b0, r0⟩ := cell e0 o0
  obtain ⟨c1, a1, b1, r1⟩ := cell e1 o1
  refine wpList_plain hg fun K hK => ?_
  unfold Oper.wp execOp
  simp only [ho, Sem.run_bind]
  rw [T.run w]
  have hfill : Instr.fill places [z0, z1].toArray (Array.map (fun p => (p.1, a.eval p.2)) #[(0, x0), (1, x1)]).toList = some #[c0, c1] := by
    simp [Instr.fill, hp0, hp1, a0, a1]
  rw [hfill]
  simp only [Result.andThen_ok, Sem.run_pure]
  obtain ⟨ρ', h8⟩ := hr.newObF (id := id) (dst := dst) (ob := .val ([s0, s1].map (S.kill id))) (v := .agg #[c0, c1]) (Obs.fresh_spec hid) (by simpa [Nat.blt_eq] using hdn) (Ext.refl hr.lt) (by
    refine ⟨[c0, c1], by simp, rfl, fun m hm hm' => ?_⟩
    match m, hm with
    | 0, _ => exact ⟨b0, r0.kill id (fun i hi => by simp [hi])⟩
    | 1, _ => exact ⟨b1, r1.kill id (fun i hi => by simp [hi])⟩) (fun g hg => by simp [blk] at hg) hfx
  have := k _ _ ⟨F, ρ', h8⟩
  rw [← ht] at this
  exact hK _ _ this
/-- A literal of three own rows. -/
theorem AOps.buildRows3 {t el bytes dst : Nat} {z : Value} {x0 x1 x2 : Operand} {s0 s1 s2 : S} (id : Nat) (hg : o.guard = none) (ht : o.dst = some dst) (hdn : Nat.blt dst cx.N = true) (ho : o.op = .buildSlice t 3 #[(0, x0), (1, x1), (2, x2)]) (T : ElemTy cx.P t el 1 bytes z)
    (e0 : e.ev x0 = s0) (e1 : e.ev x1 = s1) (e2 : e.ev x2 = s2) (o0 : OneS σ s0) (o1 : OneS σ s1) (o2 : OneS σ s2) (hid : Obs.fresh id σ = true)
    (k : AOps cx ops rest ((e.kill id).put (some dst) (.own id)) ((id, .rowS el 1 [[s0.kill id], [s1.kill id], [s2.kill id]]) :: Obs.kill id σ) Q) (hfx : cx.free id = true := by rfl) : AOps cx ops (o :: rest) e σ Q := by
  intro a w ⟨F, ρ, hr⟩
  have cell : ∀ {x : Operand} {s : S}, e.ev x = s → OneS σ s → ∃ c, (a.eval x).cells = #[c] ∧ c.oneCell' = true ∧ RepS F ρ w c s := fun {x s} hx h => by
    have r1 := ev_rep (e := e) (x := x) (a := a) (fun t _ => hr.env t)
    rw [hx] at r1
    exact h.cell hr.obs r1
  obtain ⟨c0, a0, b0, r0⟩ := cell e0 o0
  obtain ⟨c1, a1, b1, r1⟩ := cell e1 o1
  obtain ⟨c2, a2, b2, r2⟩ := cell e2 o2
  obtain ⟨i, hi, hz0, hz1, hz2⟩ := info_parts T.hi
  have hzc : z.cells.size = 1 := T.hz
  obtain ⟨cs', h5, h6⟩ := fill_inorder (size := 1) 0 [(0, a.eval x0), (1, a.eval x1), (2, a.eval x2)] ((Array.range 3).map (fun j => z.cells[j % z.cells.size]!)) (fun j hj => by
    have hj0 : j < 3 := by simpa using hj
    match j, hj0 with
    | 0, _ => exact ⟨rfl, by simp [a0]⟩
    | 1, _ => exact ⟨rfl, by simp [a1]⟩
    | 2, _ => exact ⟨rfl, by simp [a2]⟩) (by simp)
  have hcs : cs' = #[c0, c1, c2] := by
    have h9 : List.drop 3 (List.map (fun j => z.cells[j % z.cells.size]!) (List.range 3)) = [] := List.drop_eq_nil_of_le (by simp)
    have : cs'.toList = [c0, c1, c2] := by simpa [a0, a1, a2, h9] using h6
    rw [← Array.toArray_toList (xs := cs'), this]
  have hrun : (execOp a.eval o).run cx.P w = .ok (.value (.slice (some ⟨w.heap.size, 0, none⟩) 3 3)) (w.alloc (.cells #[c0, c1, c2] el)) := by
    unfold execOp
    simp only [ho, Instr.buildSlice, Sem.run_bind, run_underlying T.ht, Result.andThen_ok, T.sizeOf]
    have hprog : (program : Sem Program).run cx.P w = .ok cx.P w := rfl
    rw [if_neg (show ¬ (3 * 1 > 2 ^ 24) by decide), if_neg (show ¬ (3 * 1 = 0) by decide)]
    simp only [Sem.run_bind, zeroValue, typeInfo, hprog, Result.andThen_ok, hi, Sem.run_pure, hz0]
    have h8 : Array.map (fun (p : Nat × Operand) => (p.fst, a.eval p.snd)) #[(0, x0), (1, x1), (2, x2)] = #[(0, a.eval x0), (1, a.eval x1), (2, a.eval x2)] := by simp
    rw [h8]
    rw [hcs] at h5
    simp only [Nat.mul_one] at h5 ⊢
    rw [h5]
    rfl
  have hE : Ext F w F (w.alloc (.cells #[c0, c1, c2] el)) := Ext.of_below hr.lt ((Below.refl _ _).alloc (Nat.le_refl _) _)
  have key : ∀ {c : Value} {s : S}, RepS F ρ w c s → RepS F (fun j => if j = id then .slice (some ⟨w.heap.size, 0, none⟩) 3 3 else ρ j) (w.alloc (.cells #[c0, c1, c2] el)) c (s.kill id) := fun h => ((h.ext hr.lt hE).kill id (fun i hi => by simp [hi]))
  obtain ⟨ρ', h8⟩ := hr.newObF (id := id) (dst := dst) (ob := .rowS el 1 [[s0.kill id], [s1.kill id], [s2.kill id]]) (v := .slice (some ⟨w.heap.size, 0, none⟩) 3 3) (Obs.fresh_spec hid) (by simpa [Nat.blt_eq] using hdn) hE (by
    refine ⟨fun k _ => match k with | 0 => c0 | 1 => c1 | _ => c2, ?_, ?_, ?_, ?_⟩
    · dsimp only
      rw [if_pos rfl]
      exact ⟨rfl, .inr ⟨w.heap.size, 3, #[c0, c1, c2], rfl, hr.hB, heap_alloc_new w _, Nat.le_refl _, by unfold maxLen; omega, rfl, rfl⟩⟩
    · intro i hi
      match i, hi with
      | 0, _ => rfl
      | 1, _ => rfl
      | 2, _ => rfl
    · intro i hi j hj
      match i, hi with
      | 0, _ => obtain rfl : j = 0 := by (have : j < 1 := hj); omega
                exact ⟨b0, key r0⟩
      | 1, _ => obtain rfl : j = 0 := by (have : j < 1 := hj); omega
                exact ⟨b1, key r1⟩
      | 2, _ => obtain rfl : j = 0 := by (have : j < 1 := hj); omega
                exact ⟨b2, key r2⟩
    · intro g hg hf
      dsimp only at hg
      rw [if_pos rfl] at hg
      simp [blk] at hg
      have := hr.lt g hf
      omega) (fun g hg => by simp [blk] at hg; omega) hfx
  refine wpList_plain hg fun K hK => ?_
  unfold Oper.wp
  rw [hrun]
  have := k _ _ ⟨F, ρ', h8⟩
  rw [← ht] at this
  exact hK _ _ this
end
theorem beqF {a b : Nat} (h : a ≠ b) : Nat.beq a b = false := by rw [Bool.eq_false_iff]; exact fun hh => h (Nat.eq_of_beq_eq_true hh)
def idsS (b n : Nat) : List (List S) := (List.range n).map fun j => [.own (b + j)]
/-- A row (number 101) of own rows (numbers 1000, 1001, ..). -/
def famS (re ee sz : Nat) (L : List (List (List D))) : Obs := (101, .rowS re 1 (idsS 1000 L.length)) :: fam ee sz 1000 L
theorem idsS_len (b n : Nat) : (idsS b n).length = n := by simp [idsS]
theorem idsS_at {b n k : Nat} (h : k < n) : (idsS b n)[k]? = some [.own (b + k)] := by simp [idsS, h]
theorem idsS_kill {b n i : Nat} (h : i < b) : (idsS b n).map (fun ss => ss.map (S.kill i)) = idsS b n := by
  unfold idsS
  rw [List.map_map]
  refine List.map_congr_left fun j _ => ?_
  show [S.kill i (.own (b + j))] = _
  simp only [S.kill, beqF (show b + j ≠ i by omega)]
def vId (i : Nat) : Bool := Nat.blt i 1000 && !(Nat.beq i 101)
theorem vId_lt {i : Nat} (h : vId i = true) : i < 1000 ∧ Nat.beq 101 i = false := by
  unfold vId at h
  simp only [Bool.and_eq_true, Nat.blt_eq, Bool.not_eq_true'] at h
  refine ⟨h.1, ?_⟩
  rw [Bool.eq_false_iff]
  intro hh
  have := Nat.eq_of_beq_eq_true hh
  subst this
  simp at h
section
variable {re ee sz : Nat} {L : List (List (List D))} {i : Nat} {o : Ob} {pre : Obs}
theorem vk (h : vId i = true) : Obs.kill i (famS re ee sz L) = famS re ee sz L := by
  show (101, Ob.rowS re 1 ((idsS 1000 L.length).map fun ss => ss.map (S.kill i))) :: Obs.kill i (fam ee sz 1000 L) = _
  rw [idsS_kill (vId_lt h).1, fam_kill]; rfl
theorem vu (h : vId i = true) : Obs.upd i o (famS re ee sz L) = famS re ee sz L := by
  unfold famS Obs.upd
  dsimp only
  rw [(vId_lt h).2, fam_upd_low (vId_lt h).1]
theorem fam_del {e size id : Nat} : ∀ {b : Nat} {l : List (List (List D))}, id < b → Obs.del id (fam e size b l) = fam e size b l
  | _, [], _ => rfl
  | b, y :: l, h => by
    unfold fam Obs.del
    have : Nat.beq b id = false := by rw [Bool.eq_false_iff]; intro hh; have := Nat.eq_of_beq_eq_true hh; omega
    dsimp only
    rw [this, fam_del (by omega)]
theorem vd (h : vId i = true) : Obs.del i (famS re ee sz L) = famS re ee sz L := by
  unfold famS Obs.del
  dsimp only
  rw [(vId_lt h).2, fam_del (vId_lt h).1]
theorem vf (h : vId i = true) : Obs.fresh i (famS re ee sz L) = true := by
  unfold famS Obs.fresh
  rw [(vId_lt h).2]
  simp [fam_fresh (vId_lt h).1]
theorem kill_app : ∀ (a b : Obs), Obs.kill i (a ++ b) = Obs.kill i a ++ Obs.kill i b
  | [], _ => rfl
  | p :: a, b => by
    show (p.1, p.2.kill i) :: Obs.kill i (a ++ b) = _
    rw [kill_app a b]; rfl
theorem upd_t {p : Nat × Ob} {l : Obs} (h : Nat.beq p.1 i = true) : Obs.upd i o (p :: l) = (i, o) :: Obs.upd i o l := by
  show (match Nat.beq p.1 i with | true => (i, o) :: Obs.upd i o l | false => p :: Obs.upd i o l) = _
  rw [h]
theorem upd_f {p : Nat × Ob} {l : Obs} (h : Nat.beq p.1 i = false) : Obs.upd i o (p :: l) = p :: Obs.upd i o l := by
  show (match Nat.beq p.1 i with | true => (i, o) :: Obs.upd i o l | false => p :: Obs.upd i o l) = _
  rw [h]
theorem del_t {p : Nat × Ob} {l : Obs} (h : Nat.beq p.1 i = true) : Obs.del i (p :: l) = Obs.del i l := by
  show (match Nat.beq p.1 i with | true => Obs.del i l | false => p :: Obs.del i l) = _
  rw [h]
theorem del_f {p : Nat × Ob} {l : Obs} (h : Nat.beq p.1 i = false) : Obs.del i (p :: l) = p :: Obs.del i l := by
  show (match Nat.beq p.1 i with | true => Obs.del i l | false => p :: Obs.del i l) = _
  rw [h]
theorem upd_app : ∀ (a b : Obs), Obs.upd i o (a ++ b) = Obs.upd i o a ++ Obs.upd i o b
  | [], _ => rfl
  | p :: a, b => by
    rw [List.cons_append]
    cases hb : Nat.beq p.1 i with
    | true => rw [upd_t hb, upd_t hb, upd_app a b]; rfl
    | false => rw [upd_f hb, upd_f hb, upd_app a b]; rfl
theorem del_app : ∀ (a b : Obs), Obs.del i (a ++ b) = Obs.del i a ++ Obs.del i b
  | [], _ => rfl
  | p :: a, b => by
    rw [List.cons_append]
    cases hb : Nat.beq p.1 i with
    | true => rw [del_t hb, del_t hb, del_app a b]
    | false => rw [del_f hb, del_f hb, del_app a b]; rfl
theorem fresh_app : ∀ (a b : Obs), Obs.fresh i (a ++ b) = (Obs.fresh i a && Obs.fresh i b)
  | [], _ => by simp [Obs.fresh]
  | p :: a, b => by
    show (!(Nat.beq p.1 i) && Obs.fresh i (a ++ b)) = ((!(Nat.beq p.1 i) && Obs.fresh i a) && Obs.fresh i b)
    rw [fresh_app a b, Bool.and_assoc]
theorem fK (h : vId i = true) (hp : Obs.fresh i pre = true) : Obs.fresh i (pre ++ famS re ee sz L) = true := by rw [fresh_app, hp, vf h]; rfl
theorem kEq (h : vId i = true) (hp : Obs.kill i pre = pre) : Obs.kill i (pre ++ famS re ee sz L) = pre ++ famS re ee sz L := by rw [kill_app, hp, vk h]
theorem mem_of_eq {a b : Obs} (h : b = a) : ∀ p ∈ b, p ∈ a := fun p hp => h ▸ hp
end
section
variable {cx : Cx} {ops : Array Oper} {rest : List Oper} {e : Env} {Q : Post} {re ee sz : Nat} {L : List (List (List D))} {i : Nat} {ob : Ob} {pre : Obs} {Φ : List Fr} {c : Code}
theorem AOps.nK (h : vId i = true) (k : AOps cx ops rest e (((i, ob) :: Obs.kill i pre) ++ famS re ee sz L) Q) : AOps cx ops rest e ((i, ob) :: Obs.kill i (pre ++ famS re ee sz L)) Q := by rw [kill_app, vk h]; exact k
theorem AOps.nU (h : vId i = true) (k : AOps cx ops rest e (Obs.upd i ob pre ++ famS re ee sz L) Q) : AOps cx ops rest e (Obs.upd i ob (pre ++ famS re ee sz L)) Q := by rw [upd_app, vu h]; exact k
theorem AOps.nD (h : vId i = true) (k : AOps cx ops rest e (Obs.del i pre ++ famS re ee sz L) Q) : AOps cx ops rest e (Obs.del i (pre ++ famS re ee sz L)) Q := by rw [del_app, vd h]; exact k
end
theorem allIds_of {c : Nat → Bool} : ∀ {σ : Obs}, (∀ p ∈ σ, c p.1 = true) → Obs.allIds c σ = true
  | [], _ => rfl
  | p :: l, h => by
    unfold Obs.allIds
    rw [h p (by simp), allIds_of fun q hq => h q (List.mem_cons_of_mem _ hq)]
    rfl
theorem mem_killP_of {c : Nat → Bool} : ∀ {σ : Obs} {q : Nat × Ob}, q ∈ σ → (q.1, q.2.killP c) ∈ Obs.killP c σ
  | [], _, h => by cases h
  | x :: l, q, h => by
    unfold Obs.killP
    rcases List.mem_cons.1 h with rfl | h
    · exact .head _
    · exact .tail _ (mem_killP_of h)
theorem mem_del_of {i : Nat} : ∀ {σ : Obs} {p : Nat × Ob}, p ∈ σ → p.1 ≠ i → p ∈ Obs.del i σ
  | [], _, h, _ => by cases h
  | x :: l, p, h, hn => by
    cases hb : Nat.beq x.1 i with
    | true =>
      rw [del_t hb]
      rcases List.mem_cons.1 h with rfl | h
      · exact absurd (Nat.eq_of_beq_eq_true hb) hn
      · exact mem_del_of h hn
    | false =>
      rw [del_f hb]
      rcases List.mem_cons.1 h with rfl | h
      · exact .head _
      · exact .tail _ (mem_del_of h hn)
theorem mem_dels_of : ∀ {l σ : Obs} {p : Nat × Ob}, p ∈ σ → (∀ q ∈ l, p.1 ≠ q.1) → p ∈ Obs.dels l σ
  | [], _, _, h, _ => h
  | x :: l, σ, p, h, hn => mem_dels_of (l := l) (mem_del_of h (hn x (by simp))) fun q hq => hn q (List.mem_cons_of_mem _ hq)
theorem mem_join_l : ∀ {a b : Obs} {p : Nat × Ob}, p ∈ a → p ∈ Obs.join a b
  | x :: l, b, p, h => by
    unfold Obs.join
    rcases List.mem_cons.1 h with rfl | h
    · exact .head _
    · exact .tail _ (mem_join_l h)
theorem mem_join_r : ∀ {a b : Obs} {p : Nat × Ob}, p ∈ b → p ∈ Obs.join a b
  | [], _, _, h => h
  | x :: l, b, p, h => by
    unfold Obs.join
    exact .tail _ (mem_join_r h)
theorem killSelf (i : Nat) : S.kill i (.own i) = .d .any := by simp [S.kill]
theorem killP' {i t off : Nat} (h : t ≠ i) : S.kill i (.ptr t off) = .ptr t off := by simp only [S.kill, beqF h]
theorem killO' {i t : Nat} (h : t ≠ i) : S.kill i (.own t) = .own t := by simp only [S.kill, beqF h]
theorem mem_upd_ne {i : Nat} {o : Ob} : ∀ {σ : Obs} {p : Nat × Ob}, p ∈ σ → p.1 ≠ i → p ∈ Obs.upd i o σ
  | [], _, h, _ => by cases h
  | q :: l, p, h, hn => by
    cases hb : Nat.beq q.1 i with
    | true =>
      rw [upd_t hb]
      rcases List.mem_cons.1 h with rfl | h
      · exact absurd (Nat.eq_of_beq_eq_true hb) hn
      · exact .tail _ (mem_upd_ne h hn)
    | false =>
      rw [upd_f hb]
      rcases List.mem_cons.1 h with rfl | h
      · exact .head _
      · exact .tail _ (mem_upd_ne h hn)
theorem mem_upd_eq {i : Nat} {o x : Ob} : ∀ {σ : Obs}, (i, x) ∈ σ → (i, o) ∈ Obs.upd i o σ
  | [], h => by cases h
  | q :: l, h => by
    cases hb : Nat.beq q.1 i with
    | true => rw [upd_t hb]; exact .head _
    | false =>
      rw [upd_f hb]
      rcases List.mem_cons.1 h with rfl | h
      · simp at hb
      · exact .tail _ (mem_upd_eq h)
theorem XRun.set {cx : Cx} {ops : Array Oper} {σ : Obs} {Φ : List Fr} {l : List Oper} {e : Env} {Qe : Env → Prop} (t : Nat) {s : S} (ht : e t = s) (k : XRun cx ops σ Φ l (e.put (some t) s) Qe) : XRun cx ops σ Φ l e Qe := by
  have : e.put (some t) s = e := by
    funext u
    by_cases hu : u = t
    · subst hu; rw [Env.put_same, ht]
    · rw [Env.put_other _ _ _ _ hu]
  rw [this] at k
  exact k
theorem fam_snoc {e size : Nat} : ∀ {b : Nat} {l : List (List (List D))} {x : List (List D)}, fam e size b (l ++ [x]) = fam e size b l ++ [(b + l.length, .row e size x)]
  | b, [], x => rfl
  | b, y :: l, x => by
    have := fam_snoc (e := e) (size := size) (b := b + 1) (l := l) (x := x)
    rw [List.cons_append]
    unfold fam
    rw [this, List.length_cons, show b + 1 + l.length = b + (l.length + 1) by omega]
    rfl
theorem fam_fresh2 {e size : Nat} : ∀ {b : Nat} {l : List (List (List D))} {i : Nat}, b + l.length ≤ i → Obs.fresh i (fam e size b l) = true
  | _, [], _, _ => rfl
  | b, y :: l, i, h => by
    have h1 : Nat.beq b i = false := beqF (by simp at h; omega)
    unfold fam Obs.fresh
    rw [h1, fam_fresh2 (b := b + 1) (by simp at h; omega)]
    rfl

/-- A row of the family is written. -/
theorem upd_hi {i : Nat} {o : Ob} : ∀ {pre : Obs}, (∀ p ∈ pre, p.1 ≠ i) → Obs.upd i o pre = pre
  | [], _ => rfl
  | p :: l, h => by rw [upd_f (beqF (h p List.mem_cons_self)), upd_hi fun q hq => h q (List.mem_cons_of_mem _ hq)]
theorem famS_upd {re ee sz k : Nat} {L : List (List (List D))} {x : List (List D)} {pre : Obs} (hk : k < L.length) (hp : Obs.allIds (fun i => Nat.blt i 1000) pre = true) : Obs.upd (1000 + k) (.row ee sz x) (pre ++ famS re ee sz L) = pre ++ famS re ee sz (L.set k x) := by
  rw [upd_app, upd_hi fun p h => by have := Obs.allIds_mem hp p h; rw [Nat.blt_eq] at this; omega]
  unfold famS
  rw [upd_f (beqF (show 101 ≠ 1000 + k by omega)), fam_upd hk, List.length_set]
theorem famS_row {re ee sz : Nat} {L : List (List (List D))} {σ : Obs} (h : ∀ p ∈ famS re ee sz L, p ∈ σ) : (101, Ob.rowS re 1 (idsS 1000 L.length)) ∈ σ := h _ (.head _)
theorem famS_get {re ee sz k : Nat} {L : List (List (List D))} {x : List (List D)} {σ : Obs} (h : ∀ p ∈ famS re ee sz L, p ∈ σ) (hx : L[k]? = some x) : (1000 + k, Ob.row ee sz x) ∈ σ := h _ (.tail _ (fam_get hx))
theorem famS_ids {re ee sz : Nat} {L : List (List (List D))} {q : Nat × Ob} (h : q ∈ famS re ee sz L) : q.1 = 101 ∨ 1000 ≤ q.1 := by
  rcases List.mem_cons.1 h with rfl | h
  · exact .inl rfl
  · obtain ⟨m, x, _, rfl⟩ := fam_mem h
    exact .inr (Nat.le_add_right _ _)
theorem snap_famS {re ee sz : Nat} {L : List (List (List D))} {σ : Obs} (h : ∀ p ∈ famS re ee sz L, p ∈ σ) : Snap σ (.own 101) (.sl (L.map fun r => [.sl r])) := by
  refine .rowS (famS_row h) (by rw [idsS_len, List.length_map]) (fun i h1 h2 => ?_) fun i h1 h2 j h3 h4 => ?_
  · have e : (idsS 1000 L.length)[i] = [.own (1000 + i)] := by simp [idsS]
    rw [e, List.getElem_map]; rfl
  · have e : (idsS 1000 L.length)[i] = [.own (1000 + i)] := by simp [idsS]
    have hi : i < L.length := by simpa using h2
    have hj : j = 0 := by
      have h5 := h3
      rw [e] at h5
      have : j < 1 := h5
      omega
    subst hj
    have e1 : (idsS 1000 L.length)[i][0] = .own (1000 + i) := by simp [idsS]
    have e2 : (L.map fun r => [D.sl r])[i][0] = .sl L[i] := by simp
    rw [e1, e2]
    exact .row (famS_get h (List.getElem?_eq_getElem hi))
end Go.Proofs.YtagdgclfnbiahaaDoor

namespace Go.Proofs.YtagdgclfnbiahaaDoor
open Go.RowKit
set_option linter.unusedVariables false

/-! Types. -/
namespace TySBM
theorem bu_24 : StructT Tryd.prog 24 (fun i => (#[(0, 1), (1, 1)] : Array (Nat × Nat))[i]?) [(.int .i64 0), (.slice none 0 0)] := .of (by kernel_rfl) (by kernel_rfl) (by decide)
theorem sz_24 : ∀ w, (sizeOf 24).run Tryd.prog w = .ok 2 w := SizeT.of (by kernel_rfl)
theorem sz_42 : ∀ w, (sizeOf 42).run Tryd.prog w = .ok 1 w := SizeT.of (by kernel_rfl)
theorem zt_24 : (Tryd.prog.info? 24).bind (·.zero) = some (.agg #[(.int .i64 0), (.slice none 0 0)]) := by kernel_rfl
end TySBM
open TyXA TyXB TySBA TySBB TySBC TySBD TySBE TySBF TySBG TySBH TySBI TySBJ TySBK TyV1 TyV2 TyV3 TyV4 TyV5 TyV6 TyV7 TyV8 TySBL TySBM

set_option linter.unusedSimpArgs false
def nilI : List D := [.v (.slice none 0 0)]
def zerI (n : Nat) : List (List D) := List.replicate n [.v (.int .i64 0)]
/-- The tracks while they are being made. -/
def mixI (k n : Nat) : List (List S) := (List.range n).map fun j => if j < k then [.own (1000 + j)] else nilI.map S.d
theorem mixI_len (k n : Nat) : (mixI k n).length = n := by simp [mixI]
theorem mixI_0 (n : Nat) : (List.replicate n nilI).map (fun ds => ds.map S.d) = mixI 0 n := by
  unfold mixI
  refine List.ext_getElem (by simp) fun i h1 h2 => by simp
theorem mixI_at {k n : Nat} (h : k < n) : (mixI k n)[k]? = some (nilI.map S.d) := by simp [mixI, h]
theorem mixI_set {k n : Nat} (h : k < n) : (mixI k n).set k ((nilI.map S.d).set 0 (.own (1000 + k))) = mixI (k + 1) n := by
  refine List.ext_getElem (by simp [mixI]) fun i h1 h2 => ?_
  rw [List.getElem_set]
  simp only [mixI, List.getElem_map, List.getElem_range]
  by_cases e : k = i
  · subst e; rw [if_pos rfl, if_pos (by omega)]; rfl
  · rw [if_neg e]
    by_cases h3 : i < k
    · rw [if_pos h3, if_pos (by omega)]
    · rw [if_neg h3, if_neg (by omega)]
theorem mixI_all (n : Nat) : mixI n n = idsS 1000 n := by
  unfold mixI idsS
  exact List.map_congr_left fun j hj => if_pos (List.mem_range.1 hj)
theorem mixI_kill {k n i : Nat} (h : 1000 + k ≤ i) : (mixI k n).map (fun ss => ss.map (S.kill i)) = mixI k n := by
  unfold mixI
  rw [List.map_map]
  refine List.map_congr_left fun j _ => ?_
  show (if j < k then [S.own (1000 + j)] else nilI.map S.d).map (S.kill i) = _
  by_cases h3 : j < k
  · rw [if_pos h3]
    show [S.kill i (.own (1000 + j))] = _
    simp only [S.kill, beqF (show 1000 + j ≠ i by omega)]
  · rw [if_neg h3]; rfl
def sndS (r : Int) : List S := [.d (.v (.int .i64 r)), .own 101]
def sndZ : List S := [.d (.v (.int .i64 0)), .d (.v (.slice none 0 0))]
def blkObs (r : Int) (t n k : Nat) : Obs := [(12, .cells sndZ), (11, .cells (sndS r)), (101, .rowS 42 1 (mixI k t))] ++ fam 3 1 1000 (List.replicate k (zerI n))
theorem blk_fresh {r : Int} {t n k : Nat} : Obs.fresh (1000 + k) (blkObs r t n k) = true := by
  unfold blkObs
  rw [fresh_app, fam_fresh2 (by simp)]
  simp [Obs.fresh, beqF (show 12 ≠ 1000 + k by omega), beqF (show 11 ≠ 1000 + k by omega), beqF (show 101 ≠ 1000 + k by omega)]
theorem blk_kill {r : Int} {t n k : Nat} : Obs.kill (1000 + k) (blkObs r t n k) = blkObs r t n k := by
  unfold blkObs
  rw [kill_app, fam_kill]
  show [(12, Ob.cells (sndZ.map (S.kill (1000 + k)))), (11, Ob.cells ((sndS r).map (S.kill (1000 + k)))), (101, Ob.rowS _ 1 ((mixI k t).map fun ss => ss.map (S.kill (1000 + k))))] ++ _ = _
  rw [mixI_kill (Nat.le_refl _)]
  have h2 : (sndS r).map (S.kill (1000 + k)) = sndS r := by
    show [_, S.kill (1000 + k) (.own 101)] = _
    rw [killO' (by omega)]; rfl
  rw [h2]
  rfl
theorem blk_next {r : Int} {t n k : Nat} (h : k < t) : ∀ p ∈ blkObs r t n (k + 1), p ∈ Obs.upd 101 (.rowS 42 1 ((mixI k t).set k ((nilI.map S.d).set 0 (.own (1000 + k))))) ([(1000 + k, .row 3 1 (zerI n))] ++ blkObs r t n k) := by
  intro p hp
  rw [mixI_set h]
  unfold blkObs at hp
  rw [List.replicate_succ', fam_snoc, List.length_replicate] at hp
  rcases List.mem_append.1 hp with hp | hp
  · rcases List.mem_cons.1 hp with rfl | hp
    · exact mem_upd_ne (List.mem_append_right _ (List.mem_append_left _ (.head _))) (by show 12 ≠ 101; decide)
    · rcases List.mem_cons.1 hp with rfl | hp
      · exact mem_upd_ne (List.mem_append_right _ (List.mem_append_left _ (.tail _ (.head _)))) (by show 11 ≠ 101; decide)
      · have hp : p = _ := List.mem_singleton.1 hp
        subst hp
        exact mem_upd_eq (List.mem_append_right _ (List.mem_append_left _ (.tail _ (.tail _ (.head _)))))
  · rcases List.mem_append.1 hp with hp | hp
    · refine mem_upd_ne (List.mem_append_right _ (List.mem_append_right _ hp)) ?_
      obtain ⟨m, x, _, rfl⟩ := fam_mem hp
      show 1000 + m ≠ 101
      omega
    · have hp : p = _ := List.mem_singleton.1 hp
      subst hp
      exact mem_upd_ne (List.mem_append_left _ (.head _)) (by show 1000 + k ≠ 101; omega)
theorem blk_end {r : Int} {t n : Nat} : blkObs r t n t = [(12, .cells sndZ), (11, .cells (sndS r))] ++ famS 42 3 1 (List.replicate t (zerI n)) := by
  unfold blkObs famS
  rw [mixI_all, List.length_replicate]
  rfl

set_option maxRecDepth 100000 in
set_option maxHeartbeats 1000000 in
set_option maxRecDepth 20000 in
set_option maxHeartbeats 2000000 in
theorem c_blank (r : Int) (t n : Nat) (ht : t ≤ 1000) (hn : n ≤ 1000000) : XSCall Tryd.prog 69 [.d (.v (.int .i64 r)), .d (.v (.int .i64 (t : Int))), .d (.v (.int .i64 (n : Int)))] [] ((100, .val (sndS r)) :: famS 42 3 1 (List.replicate t (zerI n))) (fun i => Nat.ble 1000 i || Nat.blt i 102) (.own 100) := by
  have hfx : ∀ k, (!(!(Nat.ble 1000 (1000 + k) || Nat.blt (1000 + k) 102))) = true := fun k => by
    have : Nat.ble 1000 (1000 + k) = true := Nat.ble_eq_true_of_le (by omega)
    rw [this]; rfl
  refine xval_of (n := 27) (b := 6) (t := 24) (size := 2) (vid := 100) (ss' := sndS r) Tryd.func69 rfl (by kernel_rfl) rfl rfl ag_24 rfl rfl rfl ?_
  intro B w0 F0 fr ρ0
  refine .sr ?_
  refine .alloc 12 rfl rfl rfl rfl zt_24 rfl rfl rfl (.nil ?_)
  refine .sr ?_
  refine .mA ?_
  refine .mA ?_
  refine .makeI 101 t rfl rfl rfl rfl et_22 rfl rfl rfl (by omega) (by omega) rfl rfl ?_
  refine .build2 13 (s0 := .d (.v (.int .i64 r))) (s1 := .own 101) rfl rfl rfl rfl bu_24 rfl rfl rfl rfl (OneS.d rfl rfl) (OneS.own (.head _)) rfl ?_
  refine .obsEq [(13, .val (sndS r)), (101, .row 42 1 (List.replicate t nilI)), (12, .cells sndZ)] rfl ?_
  refine .alloc 11 rfl rfl rfl rfl zt_24 rfl rfl rfl ?_
  refine .eff rfl rfl (.storeVal (ss' := sndS r) rfl rfl sz_24 rfl (.head _) rfl (.tail _ (.head _)) rfl (Nat.le_refl 2)) ?_
  refine .obsEq [(11, .cells (sndS r)), (13, .val (sndS r)), (101, .row 42 1 (List.replicate t nilI)), (12, .cells sndZ)] rfl ?_
  refine .nil ?_
  refine .seq ?_
  refine .seq ?_
  refine .rowToS 101 (ee := 42) (size := 1) (els := List.replicate t nilI) (.tail _ (.tail _ (.head _))) ?_
  refine .obs (σ' := blkObs r t n 0) (fun p hp => ?_) ?_
  · rw [mixI_0]
    rcases List.mem_cons.1 hp with rfl | hp
    · exact .tail _ (.tail _ (.tail _ (.head _)))
    rcases List.mem_cons.1 hp with rfl | hp
    · exact .head _
    have hp : p = _ := List.mem_singleton.1 hp
    subst hp
    exact .tail _ (.tail _ (.head _))
  refine .region ?_
  refine .sA (.fieldAddrP rfl fo_24_1 rfl) ?_
  refine .sA (.loadP rfl sc_22 rfl (.tail _ (.head _)) rfl) ?_
  refine .sA (.weak (.lenOwn rfl et_22.ht rfl (Obs.weak_mem (p := (101, _)) (.tail _ (.tail _ (.head _)))))) ?_
  refine .mA (.nil ?_)
  refine .block ?_
  refine .loop (G := Nat) (fun k => Env.of [(16, .d (.v (.int .i64 (k : Int)))), (15, .d (.v (.int .i64 (((mixI 0 t).map fun ss => ss.map S.weak).length : Int)))), (7, .ptr 11 0), (6, .ptr 12 0), (2, .d (.v (.int .i64 (n : Int))))]) (fun k => blkObs r t n k) (fun k => k ≤ t) (fun k => t - k) 0 (Nat.zero_le _) (Sub.less ⟨(SLe.of_eq rfl), SLe.refl _, SLe.refl _, SLe.refl _, SLe.refl _, trivial⟩ (fun _ h => h)) ?_
  intro k hk
  refine .sr ?_
  refine .sA (.lss rfl rfl rfl) (.nil ?_)
  refine .seq ?_
  refine .cond rfl (fun h1 => ?_) (fun h1 => ?_)
  · replace h1 := of_decide_eq_true h1
    rw [List.length_map, mixI_len] at h1
    have hlt : k < t := by omega
    refine .skip ?_
    refine .seq ?_
    refine .block ?_
    refine .sr ?_
    refine .mA ?_
    refine .aA (.nil ?_)
    refine .drawFresh 5 [⟨23, 1000 + k, .own (1000 + k), .row 3 1 (zerI n)⟩] (FrOk.one (killSelf _) (by simp) blk_fresh blk_kill (hfx k)) (by kernel_rfl) (by kernel_rfl) (by kernel_rfl) (by kernel_rfl) ?_
    refine .set 7 (s := .ptr 11 0) (killP' (i := 1000 + k) (t := 11) (off := 0) (by omega)) ?_
    refine .set 6 (s := .ptr 12 0) (killP' (i := 1000 + k) (t := 12) (off := 0) (by omega)) ?_
    refine .step rfl rfl rfl (.fieldAddrP rfl fo_24_1 rfl) ?_ rfl ⟨.inl (killP' (i := 1000 + k) (t := 11) (by omega)), trivial⟩
    refine .step rfl rfl rfl (.loadP (s := .own 101) rfl sc_22 rfl (.tail _ (.head _)) rfl) ?_ rfl ⟨.inl (killO' (i := 1000 + k) (t := 101) (by omega)), trivial⟩
    refine .step rfl rfl rfl (.moveD rfl rfl) ?_ rfl ⟨.inl (rfl), trivial⟩
    refine .step rfl rfl rfl (.moveD rfl rfl) ?_ rfl ⟨.inl (rfl), trivial⟩
    refine .make _ (.head _) n rfl rfl rfl rfl rfl et_42 rfl rfl rfl (by omega) (by omega) rfl rfl rfl ?_ (hfx k)
    refine .nil ⟨rfl, trivial⟩ ?_
    refine .sA (.weak (.indexOwn rfl et_22 rfl rfl (Obs.weak_mem (p := (101, _)) (.tail _ (.tail _ (.tail _ (.head _))))) k rfl (by rw [List.length_map, mixI_len]; exact hlt))) ?_
    refine .eff rfl rfl (.storeRowS (s := .own (1000 + k)) rfl rfl sz_42 rfl (.tail _ (.tail _ (.tail _ (.head _)))) rfl (.own (.head _)) k 0 rfl (mixI_at hlt) (by decide)) ?_
    refine .obs (blk_next hlt) ?_
    refine .nil ?_
    refine .region ?_
    refine .sA (.add64 rfl rfl rfl (by omega) (by omega)) ?_
    refine .mA (.nil ?_)
    refine ⟨k + 1, (by omega), (by dsimp only; omega), Sub.less ⟨(SLe.of_eq rfl), SLe.refl _, SLe.refl _, SLe.refl _, SLe.refl _, trivial⟩ (fun _ h => h)⟩
  replace h1 := of_decide_eq_false h1
  rw [List.length_map, mixI_len] at h1
  have hkt : k = t := by omega
  refine .exit ?_
  refine .seq ?_
  rw [hkt, blk_end]
  refine .region ?_
  refine .loadVal 13 rfl rfl rfl rfl ag_24 rfl (.tail _ (.head _)) (Nat.le_refl 2) (fK rfl rfl) ?_
  refine .nK rfl ?_
  refine .eff rfl rfl (.storeVal (ss' := sndS r) rfl rfl sz_24 rfl (.tail _ (.head _)) rfl (.head _) rfl (Nat.le_refl 2)) ?_
  refine .nU rfl ?_
  refine .nil ?_
  refine .ret ?_
  refine ⟨⟨12, sndS r, rfl, .tail _ (.head _), rfl, vf rfl, vk rfl⟩, AllIn.of fun p hp => .tail _ (.tail _ (.tail _ hp))⟩

end Go.Proofs.YtagdgclfnbiahaaDoor

namespace Go.Proofs.YtagdgclfnbiahaaDoor
open Go.RowKit
set_option linter.unusedVariables false

/-! Types. -/
namespace TySBN
theorem fo_78_0 : fieldOff Tryd.prog 78 0 = some 0 := by kernel_rfl
theorem fo_78_1 : fieldOff Tryd.prog 78 1 = some 2 := by kernel_rfl
theorem fo_78_2 : fieldOff Tryd.prog 78 2 = some 3 := by kernel_rfl
end TySBN
open TyXA TyXB TySBA TySBB TySBC TySBD TySBE TySBF TySBG TySBH TySBI TySBJ TySBK TyV1 TyV2 TyV3 TyV4 TyV5 TyV6 TyV7 TyV8 TySBL TySBM TySBN

set_option linter.unusedSimpArgs false
abbrev rd0 : List S := [.d (.v (.int .i64 0)), .d (.v (.slice none 0 0)), .d (.v (.int .i64 0)), .d (.v (.int .i64 0)), .own 930, .d (.v (.bool false))]
abbrev rdS (s : Snd) (b : Bool) : List S := [.d (.v (.int .i64 s.rate)), .own 101, .d (.v (.int .i64 24)), .d (.v (.int .i64 (s.len : Int))), .own 930, .d (.v (.bool b))]
def trO (L : List (List (List D))) : Obs := famS 42 3 1 L
def zerT (s : Snd) : List (List (List D)) := List.replicate s.tracks.length (zerI s.len)
def chgR : Nat → Bool := fun i => Nat.ble 1000 i || Nat.blt i 102
def chgN : Nat → Bool := fun i => Nat.ble 930 i && Nat.blt i 940
def chgT : Nat → Bool := fun i => Nat.ble 1000 i || Nat.blt i 102 || chgN i
theorem fixR {i : Nat} (h : chgR i = true) : (!(chgR i)) = false := by rw [h]; rfl
def frmB (s : Snd) : List UInt8 := (formC s).data
theorem frmB_len (s : Snd) : (frmB s).length = 12 := by show (putB _ 4 ++ putB _ 2 ++ putB _ 2 ++ putB _ 4).length = 12; simp only [List.length_append, putB_len]
theorem frm_1 (s : Snd) : ((frmB s).map u8D).take (4 : Int).toNat = (putB s.rate 4).map u8D := by
  have h := mid_cut (p := []) (m := putB s.rate 4) (q := putB s.tracks.length 2 ++ putB 24 2 ++ putB s.len 4) (a := 0) (b := 4) rfl rfl
  simpa [frmB, formC, List.append_assoc] using h
theorem frm_2 (s : Snd) : (((frmB s).map u8D).drop (4 : Int).toNat).take ((6 : Int).toNat - (4 : Int).toNat) = (putB s.tracks.length 2).map u8D := by
  have h := mid_cut (p := putB s.rate 4) (m := putB s.tracks.length 2) (q := putB 24 2 ++ putB s.len 4) (a := 4) (b := 6) rfl rfl
  simpa [frmB, formC, List.append_assoc] using h
theorem frm_3 (s : Snd) : (((frmB s).map u8D).drop (6 : Int).toNat).take ((8 : Int).toNat - (6 : Int).toNat) = (putB 24 2).map u8D := by
  have h := mid_cut (p := putB s.rate 4 ++ putB s.tracks.length 2) (m := putB 24 2) (q := putB s.len 4) (a := 6) (b := 8) rfl rfl
  simpa [frmB, formC, List.append_assoc] using h
theorem frm_4 (s : Snd) : ((frmB s).map u8D).drop (8 : Int).toNat = (putB s.len 4).map u8D := by
  have h : frmB s = (putB s.rate 4 ++ putB s.tracks.length 2 ++ putB 24 2) ++ putB s.len 4 := rfl
  rw [← List.map_drop, h, List.drop_left' (by simp only [List.length_append, putB_len]; rfl)]
theorem gb_rate {s : Snd} (ok : SndOk s) : ((getB (putB s.rate 4) : Nat) : Int) = s.rate := get_back (by have := ok.rate; omega) (by have := ok.rate; show s.rate < (4294967296 : Nat); omega)
theorem gb_trk {s : Snd} (ok : SndOk s) : ((getB (putB s.tracks.length 2) : Nat) : Int) = (s.tracks.length : Int) := get_back (by omega) (by have := ok.tl; show (s.tracks.length : Int) < (65536 : Nat); omega)
theorem gb_24 : ((getB (putB 24 2) : Nat) : Int) = 24 := by decide
theorem gb_len {s : Snd} (ok : SndOk s) : ((getB (putB s.len 4) : Nat) : Int) = (s.len : Int) := get_back (by omega) (by have := ok.len; show (s.len : Int) < (4294967296 : Nat); omega)
theorem blank_ids {r : Int} {L : List (List (List D))} : Obs.allIds (fun i => Obs.allIds (fun j => !(Nat.beq i j)) [(920, Ob.cells rd0)]) ((100, .val (sndS r)) :: trO L) = true := allIds_of fun p hp => by
  show (!(Nat.beq p.1 920) && true) = true
  rw [beqF]; rfl
  rcases List.mem_cons.1 hp with rfl | hp
  · show (100 : Nat) ≠ 920; decide
  · rcases famS_ids hp with h4 | h4 <;> omega

set_option maxRecDepth 100000 in
set_option maxHeartbeats 1000000 in
set_option maxRecDepth 20000 in
set_option maxHeartbeats 4000000 in
theorem c_form1 (s : Snd) (ok : SndOk s) : XCall Tryd.prog 49 [.ptr 920 0, .d (.sl ((frmB s).map u8D))] [(920, .cells rd0)] ((920, .cells (rdS s false)) :: trO (zerT s)) chgR (.v (.bool true)) := by
  have hra := ok.rate
  have htl := ok.tl
  have hln := ok.len
  refine xcall_of (n := 62) (ds' := [.v (.bool true)]) Tryd.func49 rfl (by kernel_rfl) rfl [4] rfl rfl ?_
  intro B w0 F0 fr ρ0
  refine .sr ?_
  refine .aA (.nil ?_)
  refine .seq ?_
  refine .sr ?_
  refine .mA ?_
  refine .sA (.lenSl rfl et_28.ht rfl) ?_
  rw [List.length_map, frmB_len]
  refine .sA (.neq rfl rfl rfl) (.nil ?_)
  refine .cond rfl (fun h1 => ?_) (fun h1 => ?_)
  · replace h1 := of_decide_eq_true h1
    exact absurd rfl h1
  replace h1 := of_decide_eq_false h1
  refine .skip ?_
  refine .seq ?_
  refine .draw (by kernel_rfl) (by kernel_rfl) ?_
  refine .sA (.moveD rfl rfl) ?_
  refine .sA (.sliceH rfl et_28 rfl rfl (by decide) (by rw [List.length_map, frmB_len]; decide) (u8_one _)) ?_
  rw [frm_1]
  refine .sA (.call rfl (.cons (.rfl' rfl) .nil) (c_get (putB s.rate 4) (by rw [putB_len]; decide))) ?_
  rw [gb_rate ok]
  refine .sA (.moveD rfl rfl) ?_
  refine .sA (.sliceLH rfl et_28 rfl rfl rfl (by decide) (by decide) (by rw [List.length_map, frmB_len]; decide) (u8_one _)) ?_
  rw [frm_2]
  refine .sA (.call rfl (.cons (.rfl' rfl) .nil) (c_get (putB s.tracks.length 2) (by rw [putB_len]; decide))) ?_
  rw [gb_trk ok]
  refine .sA (.moveD rfl rfl) ?_
  refine .sA (.sliceLH rfl et_28 rfl rfl rfl (by decide) (by decide) (by rw [List.length_map, frmB_len]; decide) (u8_one _)) ?_
  rw [frm_3]
  refine .sA (.call rfl (.cons (.rfl' rfl) .nil) (c_get (putB 24 2) (by rw [putB_len]; decide))) ?_
  rw [gb_24]
  refine .sA (.moveD rfl rfl) ?_
  refine .sA (.sliceL rfl et_28 rfl rfl (by decide) (by rw [List.length_map, frmB_len]; decide) (u8_one _)) ?_
  rw [frm_4]
  refine .sA (.call rfl (.cons (.rfl' rfl) .nil) (c_get (putB s.len 4) (by rw [putB_len]; decide))) ?_
  rw [gb_len ok]
  refine .sA (.assignD rfl rfl) ?_
  refine .sA (.assignD rfl rfl) ?_
  refine .sA (.assignD rfl rfl) ?_
  refine .sA (.assignD rfl rfl) ?_
  refine .nil ?_
  refine .seq ?_
  refine .sr ?_
  refine .mA ?_
  refine .sA (.call rfl (.cons (.rfl' rfl) .nil) (c_rate _)) ?_
  refine .sA (.not rfl rfl) ?_
  refine .mA ?_
  refine .split 27 rfl (fun g2 => ?_) (fun g2 => ?_)
  · replace g2 := bnot_t g2; replace g2 := of_decide_eq_false g2
    omega
  replace g2 := bnot_f g2; replace g2 := of_decide_eq_true g2
  refine .sG (.moveD rfl rfl) ?_
  refine .sG (.lss rfl rfl rfl) ?_
  refine .sA (.pickF rfl rfl rfl) ?_
  refine .mA ?_
  refine .split 31 rfl (fun g3 => ?_) (fun g3 => ?_)
  · replace g3 := of_decide_eq_true g3
    omega
  replace g3 := of_decide_eq_false g3
  refine .sG (.moveD rfl rfl) ?_
  refine .sG (.gtr rfl rfl rfl) ?_
  refine .sA (.pickF rfl rfl rfl) ?_
  refine .mA ?_
  refine .split 35 rfl (fun g4 => ?_) (fun g4 => ?_)
  · replace g4 := of_decide_eq_true g4
    omega
  replace g4 := of_decide_eq_false g4
  refine .sG (.moveD rfl rfl) ?_
  refine .sG (.neq rfl rfl rfl) ?_
  refine .sG (.moveD rfl rfl) ?_
  refine .split 38 rfl (fun g5 => ?_) (fun g5 => ?_)
  · replace g5 := of_decide_eq_true g5
    refine .sG (.moveD rfl rfl) ?_
    refine .sG (.neq rfl rfl rfl) ?_
    refine .sG (.pickT rfl rfl rfl) ?_
    refine .sA (.pickF rfl rfl rfl) ?_
    refine .mA ?_
    refine .split 43 rfl (fun g6 => ?_) (fun g6 => ?_)
    · replace g6 := of_decide_eq_true g6
      omega
    replace g6 := of_decide_eq_false g6
    refine .sG (.moveD rfl rfl) ?_
    refine .sG (.gtr rfl rfl rfl) ?_
    refine .sA (.pickF rfl rfl rfl) (.nil ?_)
    refine .cond rfl (fun h7 => ?_) (fun h7 => ?_)
    · replace h7 := of_decide_eq_true h7
      omega
    replace h7 := of_decide_eq_false h7
    refine .skip ?_
    refine .sr ?_
    refine .sA (.moveP rfl rfl) ?_
    refine .sA (.moveP rfl rfl) ?_
    refine .sA (.moveP rfl rfl) ?_
    refine .mA ?_
    refine .mA ?_
    refine .mA ?_
    refine .callXS rfl rfl rfl (.cons (SLe.refl _) (.cons (SLe.refl _) (.cons (SLe.refl _) .nil))) (c_blank s.rate s.tracks.length s.len (by omega) (by omega)) trivial rfl blank_ids (fun i hi => fixR hi) ?_
    refine .obs (σ' := [(920, .cells rd0), (100, .val (sndS s.rate))] ++ trO (zerT s)) (fun p hp => ?_) ?_
    · rcases List.mem_cons.1 hp with rfl | hp
      · exact mem_join_r (.head _)
      exact mem_join_l hp
    refine .mA ?_
    refine .mA ?_
    refine .sA (.nilCheckP rfl rfl) ?_
    refine .sA (.fieldAddrP rfl fo_78_0 rfl) ?_
    refine .eff rfl rfl (.storeVal (ss' := sndS s.rate) rfl rfl sz_24 rfl (.head _) rfl (.tail _ (.head _)) rfl (Nat.le_of_ble_eq_true rfl)) ?_
    refine .nU rfl ?_
    refine .obsEq ([(920, .cells [.d (.v (.int .i64 s.rate)), .own 101, .d (.v (.int .i64 0)), .d (.v (.int .i64 0)), .own 930, .d (.v (.bool false))]), (100, .val (sndS s.rate))] ++ trO (zerT s)) rfl ?_
    refine .sA (.nilCheckP rfl rfl) ?_
    refine .sA (.fieldAddrP rfl fo_78_1 rfl) ?_
    refine .store rfl rfl rfl sz_3 rfl (.head _) rfl rfl rfl (Nat.le_of_ble_eq_true rfl) ?_
    refine .nU rfl ?_
    refine .sA (.nilCheckP rfl rfl) ?_
    refine .sA (.fieldAddrP rfl fo_78_2 rfl) ?_
    refine .store rfl rfl rfl sz_3 rfl (.head _) rfl rfl rfl (Nat.le_of_ble_eq_true rfl) ?_
    refine .nU rfl ?_
    refine .nil ?_
    refine .sr ?_
    refine .aA (.nil ?_)
    refine .ret ?_
    refine ⟨⟨RetDX.eq rfl rfl, trivial⟩, AllIn.of fun p hp => ?_⟩
    rcases List.mem_cons.1 hp with rfl | hp
    · exact .head _
    exact .tail _ (.tail _ hp)
  replace g5 := of_decide_eq_false g5
  exact absurd (show (24 : Int) ≠ 16 by decide) g5

end Go.Proofs.YtagdgclfnbiahaaDoor

namespace Go.Proofs.YtagdgclfnbiahaaDoor
open Go.RowKit
set_option linter.unusedVariables false

/-! Types. -/
namespace TySBO
theorem fo_78_4 : fieldOff Tryd.prog 78 4 = some 5 := by kernel_rfl
theorem sz_4 : ∀ w, (sizeOf 4).run Tryd.prog w = .ok 1 w := SizeT.of (by kernel_rfl)
end TySBO
open TyXA TyXB TySBA TySBB TySBC TySBD TySBE TySBF TySBG TySBH TySBI TySBJ TySBK TyV1 TyV2 TyV3 TyV4 TyV5 TyV6 TyV7 TyV8 TySBL TySBM TySBN TySBO

set_option linter.unusedSimpArgs false
/-- What the track j holds, when the samples before (i, k) are there. -/
def gotF (s : Snd) (i k j : Nat) : Nat → Int := fun p => if p < i ∨ (p = i ∧ j < k) then (s.tracks.getD j []).getD p 0 else 0
def gotT (s : Snd) (i k : Nat) : List (List (List D)) := (List.range s.tracks.length).map fun j => rwI (gotF s i k j) s.len
theorem gotT_len (s : Snd) (i k : Nat) : (gotT s i k).length = s.tracks.length := by simp [gotT]
theorem gotT_at {s : Snd} {i k j : Nat} (h : j < s.tracks.length) : (gotT s i k)[j]? = some (rwI (gotF s i k j) s.len) := by simp [gotT, h]
theorem gotT_0 (s : Snd) : gotT s 0 0 = zerT s := by
  unfold gotT zerT zerI
  refine List.ext_getElem (by simp) fun j h1 h2 => ?_
  rw [List.getElem_map, List.getElem_replicate, rwI_zero]
  refine rwI_congr fun p _ => ?_
  exact if_neg (by omega)
theorem gotT_next (s : Snd) (i : Nat) : gotT s i s.tracks.length = gotT s (i + 1) 0 := by
  unfold gotT
  refine List.map_congr_left fun j hj => rwI_congr fun p _ => ?_
  have hj := List.mem_range.1 hj
  unfold gotF
  by_cases h : p < i + 1
  · rw [if_pos (by omega), if_pos (by omega)]
  · rw [if_neg (by omega), if_neg (by omega)]
theorem gotT_all {s : Snd} (ok : SndOk s) : gotT s s.len 0 = s.tracks.map fun t => t.map sI := by
  unfold gotT
  refine List.ext_getElem (by simp) fun j h1 h2 => ?_
  have hj : j < s.tracks.length := by simpa using h2
  rw [List.getElem_map, List.getElem_map, List.getElem_range, rwI_lst]
  congr 1
  have hl := ok.eq _ (List.getElem_mem hj)
  refine List.ext_getElem (by simp [hl]) fun p h3 h4 => ?_
  have hp : p < s.len := by simpa using h3
  rw [List.getElem_map, List.getElem_range]
  unfold gotF
  rw [if_pos (.inl hp)]
  simp [hj, List.getElem?_eq_getElem h4]
theorem gotT_set {s : Snd} {i k : Nat} (hk : k < s.tracks.length) (hi : i < s.len) : (gotT s i k).set k ((rwI (gotF s i k k) s.len).set i (sI (s.tracks[k].getD i 0))) = gotT s i (k + 1) := by
  refine List.ext_getElem (by simp [gotT]) fun j h1 h2 => ?_
  rw [List.getElem_set]
  simp only [gotT, List.getElem_map, List.getElem_range]
  by_cases e : k = j
  · subst e
    rw [if_pos rfl]
    refine rwI_set hi fun p hp => ?_
    unfold gotF
    by_cases h : p = i
    · subst h
      rw [if_pos rfl, if_pos (by omega)]
      simp [hk]
    · rw [if_neg h]
      by_cases h5 : p < i
      · rw [if_pos (by omega), if_pos (by omega)]
      · rw [if_neg (by omega), if_neg (by omega)]
  · rw [if_neg e]
    refine rwI_congr fun p _ => ?_
    unfold gotF
    by_cases h : p < i ∨ (p = i ∧ j < k)
    · rw [if_pos h, if_pos (by omega)]
    · rw [if_neg h, if_neg (by omega)]
theorem trO_next {s : Snd} {i k : Nat} {c : List S} (hk : k < s.tracks.length) (hi : i < s.len) : Obs.upd (1000 + k) (.row 3 1 ((rwI (gotF s i k k) s.len).set i (sI (s.tracks[k].getD i 0)))) ([(920, Ob.cells c)] ++ trO (gotT s i k)) = [(920, Ob.cells c)] ++ trO (gotT s i (k + 1)) := by
  unfold trO
  rw [famS_upd (by rw [gotT_len]; exact hk) rfl, gotT_set hk hi]
/-- What is left of the bytes. -/
def restB (s : Snd) (i k : Nat) : List UInt8 := (datD s s.len).drop (3 * (s.tracks.length * i + k))
theorem flat_at {α : Type} (f : α → List UInt8) (n : Nat) (h : ∀ x, (f x).length = n) : ∀ (l : List α) (k : Nat) (hk : k < l.length), (l.flatMap f).drop (n * k) = f l[k] ++ (l.flatMap f).drop (n * (k + 1))
  | x :: l, 0, _ => by
    rw [List.flatMap_cons, Nat.mul_zero, List.drop_zero, Nat.zero_add, Nat.mul_one, List.drop_left' (h x)]; rfl
  | x :: l, k + 1, hk => by
    have ih := flat_at f n h l k (by simpa using hk)
    rw [List.flatMap_cons, Nat.mul_succ, Nat.add_comm, ← List.drop_drop, List.drop_left' (h x), ih, Nat.mul_succ n (k + 1), Nat.add_comm (n * (k + 1)) n, ← List.drop_drop, List.drop_left' (h x)]
    rfl
theorem datD_at {s : Snd} {i : Nat} (hi : i < s.len) : (datD s s.len).drop (3 * s.tracks.length * i) = rowD s i ++ (datD s s.len).drop (3 * s.tracks.length * (i + 1)) := by
  have h := flat_at (rowD s) (3 * s.tracks.length) (rowD_len s) (List.range s.len) i (by rw [List.length_range]; exact hi)
  rw [List.getElem_range] at h
  exact h
theorem rowD_at {s : Snd} {i k : Nat} (hk : k < s.tracks.length) : (rowD s i).drop (3 * k) = putB (s.tracks[k].getD i 0) 3 ++ (rowD s i).drop (3 * (k + 1)) := by
  have h := flat_at (fun t : List Int => putB (t.getD i 0) 3) 3 (fun _ => putB_len 3 _) s.tracks k hk
  exact h
theorem restB_eq {s : Snd} {i k : Nat} (hi : i < s.len) (hk : k ≤ s.tracks.length) : restB s i k = (rowD s i).drop (3 * k) ++ (datD s s.len).drop (3 * s.tracks.length * (i + 1)) := by
  unfold restB
  rw [Nat.mul_add, ← Nat.mul_assoc, ← List.drop_drop, datD_at hi, List.drop_append_of_le_length (by rw [rowD_len]; exact Nat.mul_le_mul_left 3 hk)]
theorem restB_step {s : Snd} {i k : Nat} (hi : i < s.len) (hk : k < s.tracks.length) : restB s i k = putB (s.tracks[k].getD i 0) 3 ++ restB s i (k + 1) := by
  rw [restB_eq hi (Nat.le_of_lt hk), restB_eq hi hk, rowD_at hk, List.append_assoc]
theorem restB_next (s : Snd) (i : Nat) : restB s i s.tracks.length = restB s (i + 1) 0 := by
  unfold restB
  rw [Nat.mul_succ, Nat.add_zero]
theorem rest_take {s : Snd} {i k : Nat} (hi : i < s.len) (hk : k < s.tracks.length) : ((restB s i k).map u8D).take (3 : Int).toNat = (putB (s.tracks[k].getD i 0) 3).map u8D := by
  rw [restB_step hi hk, ← List.map_take, List.take_left' (by rw [putB_len]; rfl)]
theorem rest_drop {s : Snd} {i k : Nat} (hi : i < s.len) (hk : k < s.tracks.length) : ((restB s i k).map u8D).drop (3 : Int).toNat = (restB s i (k + 1)).map u8D := by
  rw [restB_step hi hk, ← List.map_drop, List.drop_left' (by rw [putB_len]; rfl)]
theorem rest_len {s : Snd} {i k : Nat} (hi : i < s.len) (hk : k < s.tracks.length) : 3 ≤ (restB s i k).length := by rw [restB_step hi hk, List.length_append, putB_len]; omega
theorem smp_rng {s : Snd} (ok : SndOk s) {i k : Nat} (hi : i < s.len) (hk : k < s.tracks.length) : -8388608 ≤ s.tracks[k].getD i 0 ∧ s.tracks[k].getD i 0 ≤ 8388607 := by
  have hl := ok.eq _ (List.getElem_mem hk)
  have h := ok.smp _ (List.getElem_mem hk) _ (List.getElem_mem (show i < s.tracks[k].length by omega))
  rwa [List.getD_eq_getElem?_getD, List.getElem?_eq_getElem (show i < s.tracks[k].length by omega)]
theorem smp_T {n : Int} (h : -8388608 ≤ n ∧ n ≤ 8388607) (hg : (8388608 : Int) ≤ ((getB (putB n 3) : Nat) : Int)) : ((getB (putB n 3) : Nat) : Int) - 16777216 = n := by
  have := smp_back h
  rwa [if_pos hg] at this
theorem smp_F {n : Int} (h : -8388608 ≤ n ∧ n ≤ 8388607) (hg : ¬ (8388608 : Int) ≤ ((getB (putB n 3) : Nat) : Int)) : ((getB (putB n 3) : Nat) : Int) = n := by
  have := smp_back h
  rwa [if_neg hg] at this
theorem shl_0 {n : Int} (h : -8388608 ≤ n ∧ n ≤ 8388607) : IntKind.i64.wrap (n * 2 ^ ((24 : Int) - 24).toNat) = n := by
  rw [show (2 : Int) ^ ((24 : Int) - 24).toNat = 1 from rfl, Int.mul_one, w64 (by omega) (by omega)]
theorem getB_3 (n : Int) : getB (putB n 3) < 16777216 := by have := getB_lt (putB n 3); rw [putB_len] at this; exact this
theorem wk_len {s : Snd} {L : List (List (List D))} (h : L.length = s.tracks.length) : ((idsS 1000 L.length).map fun ss => ss.map S.weak).length = s.tracks.length := by rw [List.length_map, idsS_len, h]

set_option maxRecDepth 100000 in
set_option maxHeartbeats 1000000 in
set_option maxRecDepth 20000 in
set_option maxHeartbeats 4000000 in
theorem c_data1 (s : Snd) (ok : SndOk s) : XCall Tryd.prog 51 [.ptr 920 0, .d (.sl ((datD s s.len).map u8D))] ((920, .cells (rdS s false)) :: trO (zerT s)) ((920, .cells (rdS s true)) :: trO (s.tracks.map fun t => t.map sI)) chgR (.v (.bool true)) := by
  have htl := ok.tl
  have hln := ok.len
  have hdl := datD_len s s.len
  have hdm := dat_le ok (Nat.le_refl s.len)
  have hm1 : 3 * s.tracks.length ≤ 48 := by omega
  have HM : 3 * (s.tracks.length : Int) * (s.len : Int) = ((datD s s.len).length : Int) := by rw [hdl, Int.natCast_mul, Int.natCast_mul]; rfl
  refine xcall_of (n := 85) (ds' := [.v (.bool true)]) Tryd.func51 rfl (by kernel_rfl) rfl [4] rfl rfl ?_
  intro B w0 F0 fr ρ0
  refine .sr ?_
  refine .aA (.nil ?_)
  refine .sr ?_
  refine .sA (.moveP rfl rfl) ?_
  refine .sA (.nilCheckP rfl rfl) ?_
  refine .sA (.fieldAddrP rfl fo_78_1 rfl) ?_
  refine .sA (.loadP rfl sc_3 rfl (.head _) rfl) ?_
  refine .sA (.quo64 rfl rfl rfl (by omega) (by omega) (by omega)) ?_
  rw [show (24 : Int) / 8 = 3 from rfl]
  refine .aA (.nil ?_)
  refine .seq ?_
  refine .seq ?_
  refine .draw (by kernel_rfl) (by kernel_rfl) ?_
  refine .sA (.moveD rfl rfl) ?_
  refine .sA (.lenSl rfl et_28.ht rfl) ?_
  rw [List.length_map]
  refine .sA (.moveD rfl rfl) ?_
  refine .sA (.moveP rfl rfl) ?_
  refine .sA (.nilCheckP rfl rfl) ?_
  refine .sA (.fieldAddrP rfl fo_78_0 rfl) ?_
  refine .sA (.fieldAddrP rfl fo_24_1 rfl) ?_
  refine .sA (.loadP rfl sc_22 rfl (.head _) rfl) ?_
  refine .sA (.weak (.lenOwn rfl et_22.ht rfl (Obs.weak_mem (p := (101, _)) (.tail _ (.head _))))) ?_
  rw [wk_len (s := s) (L := zerT s) (by simp [gotT, zerT])]
  refine .sA (.mul64 rfl rfl rfl (by omega) (by omega)) ?_
  refine .sA (.moveP rfl rfl) ?_
  refine .sA (.nilCheckP rfl rfl) ?_
  refine .sA (.fieldAddrP rfl fo_78_2 rfl) ?_
  refine .sA (.loadP rfl sc_3 rfl (.head _) rfl) ?_
  refine .sA (.mul64 rfl rfl rfl (by rw [HM]; omega) (by rw [HM]; omega)) ?_
  rw [HM]
  refine .sA (.neq rfl rfl rfl) ?_
  refine .nil ?_
  refine .cond rfl (fun h1 => ?_) (fun h1 => ?_)
  · replace h1 := of_decide_eq_true h1
    exact absurd rfl h1
  replace h1 := of_decide_eq_false h1
  refine .skip ?_
  refine .seq ?_
  refine .sr ?_
  refine .sA (.moveP rfl rfl) ?_
  refine .sA (.nilCheckP rfl rfl) ?_
  refine .sA (.fieldAddrP rfl fo_78_2 rfl) ?_
  refine .sA (.loadP rfl sc_3 rfl (.head _) rfl) ?_
  refine .mA (.nil ?_)
  refine .block ?_
  refine .loop (G := Nat) (fun i => Env.of [(35, .d (.v (.int .i64 (i : Int)))), (1, .d (.sl ((restB s i 0).map u8D))), (34, .d (.v (.int .i64 (s.len : Int)))), (5, .d (.v (.int .i64 3))), (0, .ptr 920 0)]) (fun i => [(920, .cells (rdS s false))] ++ trO (gotT s i 0)) (fun i => i ≤ s.len) (fun i => s.len - i) 0 (Nat.zero_le _) (Sub.less ⟨(SLe.of_eq rfl), SLe.refl _, SLe.refl _, SLe.refl _, SLe.refl _, trivial⟩ (by rw [gotT_0]; exact fun _ h => h)) ?_
  intro i hi
  refine .sr ?_
  refine .sA (.lss rfl rfl rfl) (.nil ?_)
  refine .seq ?_
  refine .cond rfl (fun h2 => ?_) (fun h2 => ?_)
  · replace h2 := of_decide_eq_true h2
    have hil : i < s.len := by omega
    refine .skip ?_
    refine .seq ?_
    refine .block ?_
    refine .sr ?_
    refine .mA ?_
    refine .aA (.nil ?_)
    refine .sr ?_
    refine .sA (.moveP rfl rfl) ?_
    refine .sA (.nilCheckP rfl rfl) ?_
    refine .sA (.fieldAddrP rfl fo_78_0 rfl) ?_
    refine .sA (.fieldAddrP rfl fo_24_1 rfl) ?_
    refine .sA (.loadP rfl sc_22 rfl (.head _) rfl) ?_
    refine .sA (.weak (.lenOwn rfl et_22.ht rfl (Obs.weak_mem (p := (101, _)) (.tail _ (.head _))))) ?_
    rw [wk_len (s := s) (L := gotT s i 0) (by simp [gotT, zerT])]
    refine .mA (.nil ?_)
    refine .block ?_
    refine .loop (G := Nat) (fun k => Env.of [(44, .d (.v (.int .i64 (k : Int)))), (42, .own 101), (43, .d (.v (.int .i64 (s.tracks.length : Int)))), (6, .d (.v (.int .i64 (i : Int)))), (35, .d (.v (.int .i64 (i : Int)))), (1, .d (.sl ((restB s i k).map u8D))), (34, .d (.v (.int .i64 (s.len : Int)))), (5, .d (.v (.int .i64 3))), (0, .ptr 920 0)]) (fun k => [(920, .cells (rdS s false))] ++ trO (gotT s i k)) (fun k => k ≤ s.tracks.length) (fun k => s.tracks.length - k) 0 (Nat.zero_le _) (Sub.less ⟨(SLe.of_eq rfl), SLe.refl _, SLe.refl _, SLe.refl _, SLe.refl _, SLe.refl _, SLe.refl _, SLe.refl _, SLe.refl _, trivial⟩ (fun _ h => h)) ?_
    intro k hk
    refine .sr ?_
    refine .sA (.lss rfl rfl rfl) (.nil ?_)
    refine .seq ?_
    refine .cond rfl (fun h3 => ?_) (fun h3 => ?_)
    · replace h3 := of_decide_eq_true h3
      have hlt : k < s.tracks.length := by omega
      have hx := smp_rng ok hil hlt
      have hg3 := getB_3 (s.tracks[k].getD i 0)
      refine .skip ?_
      refine .seq ?_
      refine .block ?_
      refine .sr ?_
      refine .sA (.weak (.indexOwn rfl et_22 rfl rfl (Obs.weak_mem (p := (101, _)) (.tail _ (.head _))) k rfl (by rw [List.length_map, idsS_len, gotT_len]; exact hlt))) ?_
      refine .sA (.loadRowS (s := .own (1000 + k)) rfl sc_42 rfl (.tail _ (.head _)) k 0 rfl (idsS_at (by rw [gotT_len]; exact hlt)) rfl) ?_
      refine .sA (.assignO rfl rfl) (.nil ?_)
      refine .sr ?_
      refine .mA ?_
      refine .mA ?_
      refine .sA (.sliceH rfl et_28 rfl rfl (by decide) (by have := rest_len hil hlt; rw [List.length_map]; omega) (u8_one _)) ?_
      rw [rest_take hil hlt]
      refine .sA (.call rfl (.cons (.rfl' rfl) .nil) (c_get (putB (s.tracks[k].getD i 0) 3) (by rw [putB_len]; decide))) ?_
      refine .aA (.nil ?_)
      refine .seq ?_
      refine .sr ?_
      refine .mA ?_
      refine .sA (.moveP rfl rfl) ?_
      refine .sA (.nilCheckP rfl rfl) ?_
      refine .sA (.fieldAddrP rfl fo_78_1 rfl) ?_
      refine .sA (.loadP rfl sc_3 rfl (.head _) rfl) ?_
      refine .sA (.sub64 rfl rfl rfl (by omega) (by omega)) ?_
      refine .sA (.shlG rfl rfl rfl (by decide) (by decide)) ?_
      rw [show IntKind.i64.wrap (1 * 2 ^ ((24 : Int) - 1).toNat) = 8388608 from by decide]
      refine .sA (.geq rfl rfl rfl) (.nil ?_)
      refine .cond rfl (fun h4 => ?_) (fun h4 => ?_)
      · replace h4 := of_decide_eq_true h4
        have hge : (8388608 : Int) ≤ ((getB (putB (s.tracks[k].getD i 0) 3) : Nat) : Int) := by omega
        refine .region ?_
        refine .mA ?_
        refine .sA (.moveP rfl rfl) ?_
        refine .sA (.nilCheckP rfl rfl) ?_
        refine .sA (.fieldAddrP rfl fo_78_1 rfl) ?_
        refine .sA (.loadP rfl sc_3 rfl (.head _) rfl) ?_
        refine .sA (.shlG rfl rfl rfl (by decide) (by decide)) ?_
        rw [show IntKind.i64.wrap (1 * 2 ^ (24 : Int).toNat) = 16777216 from by decide]
        refine .sA (.sub64 rfl rfl rfl (by omega) (by omega)) ?_
        rw [smp_T hx hge]
        refine .aA (.nil ?_)
        refine .drawG (fun k => (Nat.beq k 13) || (Nat.beq k 6 || Nat.beq k 12)) (fun k => Nat.beq k 13) (fun k h => Bool.or_eq_true_iff.2 (.inl h)) (by kernel_rfl) (by kernel_rfl) (by kernel_rfl) ?_
        refine .step rfl rfl rfl (fun _ => AOp.moveO rfl rfl) ?_
        refine .step rfl rfl rfl (fun _ => AOp.moveD rfl rfl) ?_
        refine .step rfl rfl rfl (fun _ => AOp.moveD rfl rfl) ?_
        refine .step rfl rfl rfl (fun _ => AOp.moveP rfl rfl) ?_
        refine .step rfl rfl rfl (fun _ => AOp.nilCheckP rfl rfl) ?_
        refine .step rfl rfl rfl (fun _ => AOp.fieldAddrP rfl fo_78_1 rfl) ?_
        refine .stepS rfl rfl rfl rfl (.loadP rfl sc_3 rfl (.head _) rfl) ?_
        refine .step rfl rfl rfl (fun _ => AOp.sub64 rfl rfl rfl (by omega) (by omega)) ?_
        refine .step rfl rfl rfl (fun _ => AOp.shlG rfl rfl rfl (by decide) (by decide)) ?_
        rw [shl_0 hx]
        refine .step rfl rfl rfl (fun _ => AOp.moveD rfl rfl) ?_
        refine .step rfl rfl rfl (fun _ => AOp.moveD rfl rfl) ?_
        refine .step rfl rfl rfl (fun _ => AOp.sliceL rfl et_28 rfl rfl (by decide) (by have := rest_len hil hlt; rw [List.length_map]; omega) (u8_one _)) ?_
        rw [rest_drop hil hlt]
        refine .stepS rfl rfl rfl rfl (.indexOwn rfl et_42 rfl rfl (famS_get (fun p hp => .tail _ hp) (gotT_at hlt)) i rfl (by rw [rwI_len]; exact hil)) ?_
        refine .eff rfl rfl rfl (.storeRow rfl rfl sz_3 rfl (famS_get (fun p hp => .tail _ hp) (gotT_at hlt)) rfl rfl rfl i 0 rfl (rwI_at hil) (Nat.le_of_ble_eq_true rfl)) ?_
        refine .step rfl rfl rfl (fun _ => AOp.assignD rfl rfl) ?_
        refine .nil ?_
        refine .region ?_
        refine .sA (.add64 rfl rfl rfl (by omega) (by omega)) ?_
        refine .mA (.nil ?_)
        refine ⟨k + 1, (by omega), (by dsimp only; omega), Sub.less ⟨(SLe.of_eq rfl), SLe.refl _, SLe.refl _, SLe.refl _, SLe.refl _, SLe.refl _, SLe.refl _, SLe.refl _, SLe.refl _, trivial⟩ (by dsimp only; exact mem_of_eq (trO_next hlt hil).symm)⟩
      replace h4 := of_decide_eq_false h4
      have hge : ¬ (8388608 : Int) ≤ ((getB (putB (s.tracks[k].getD i 0) 3) : Nat) : Int) := by omega
      rw [smp_F hx hge]
      refine .skip ?_
      refine .drawG (fun k => (Nat.beq k 13) || (Nat.beq k 6 || Nat.beq k 12)) (fun k => Nat.beq k 13) (fun k h => Bool.or_eq_true_iff.2 (.inl h)) (by kernel_rfl) (by kernel_rfl) (by kernel_rfl) ?_
      refine .step rfl rfl rfl (fun _ => AOp.moveO rfl rfl) ?_
      refine .step rfl rfl rfl (fun _ => AOp.moveD rfl rfl) ?_
      refine .step rfl rfl rfl (fun _ => AOp.moveD rfl rfl) ?_
      refine .step rfl rfl rfl (fun _ => AOp.moveP rfl rfl) ?_
      refine .step rfl rfl rfl (fun _ => AOp.nilCheckP rfl rfl) ?_
      refine .step rfl rfl rfl (fun _ => AOp.fieldAddrP rfl fo_78_1 rfl) ?_
      refine .stepS rfl rfl rfl rfl (.loadP rfl sc_3 rfl (.head _) rfl) ?_
      refine .step rfl rfl rfl (fun _ => AOp.sub64 rfl rfl rfl (by omega) (by omega)) ?_
      refine .step rfl rfl rfl (fun _ => AOp.shlG rfl rfl rfl (by decide) (by decide)) ?_
      rw [shl_0 hx]
      refine .step rfl rfl rfl (fun _ => AOp.moveD rfl rfl) ?_
      refine .step rfl rfl rfl (fun _ => AOp.moveD rfl rfl) ?_
      refine .step rfl rfl rfl (fun _ => AOp.sliceL rfl et_28 rfl rfl (by decide) (by have := rest_len hil hlt; rw [List.length_map]; omega) (u8_one _)) ?_
      rw [rest_drop hil hlt]
      refine .stepS rfl rfl rfl rfl (.indexOwn rfl et_42 rfl rfl (famS_get (fun p hp => .tail _ hp) (gotT_at hlt)) i rfl (by rw [rwI_len]; exact hil)) ?_
      refine .eff rfl rfl rfl (.storeRow rfl rfl sz_3 rfl (famS_get (fun p hp => .tail _ hp) (gotT_at hlt)) rfl rfl rfl i 0 rfl (rwI_at hil) (Nat.le_of_ble_eq_true rfl)) ?_
      refine .step rfl rfl rfl (fun _ => AOp.assignD rfl rfl) ?_
      refine .nil ?_
      refine .region ?_
      refine .sA (.add64 rfl rfl rfl (by omega) (by omega)) ?_
      refine .mA (.nil ?_)
      refine ⟨k + 1, (by omega), (by dsimp only; omega), Sub.less ⟨(SLe.of_eq rfl), SLe.refl _, SLe.refl _, SLe.refl _, SLe.refl _, SLe.refl _, SLe.refl _, SLe.refl _, SLe.refl _, trivial⟩ (by dsimp only; exact mem_of_eq (trO_next hlt hil).symm)⟩
    replace h3 := of_decide_eq_false h3
    obtain rfl : k = s.tracks.length := by omega
    refine .exit ?_
    refine .region ?_
    refine .sA (.add64 rfl rfl rfl (by omega) (by omega)) ?_
    refine .mA (.nil ?_)
    refine ⟨i + 1, (by omega), (by dsimp only; omega), Sub.less ⟨(SLe.of_eq rfl), (SLe.of_eq (by rw [← restB_next]; rfl)), SLe.refl _, SLe.refl _, SLe.refl _, trivial⟩ (by dsimp only; rw [← gotT_next]; exact fun _ h => h)⟩
  replace h2 := of_decide_eq_false h2
  obtain rfl : i = s.len := by omega
  refine .exit ?_
  refine .seq ?_
  skip
  refine .region ?_
  refine .sA (.moveP rfl rfl) ?_
  refine .sA (.nilCheckP rfl rfl) ?_
  refine .sA (.fieldAddrP rfl fo_78_4 rfl) ?_
  refine .store rfl rfl rfl sz_4 rfl (.head _) rfl rfl rfl (Nat.le_of_ble_eq_true rfl) ?_
  refine .nU rfl ?_
  refine .nil ?_
  refine .sr ?_
  refine .aA (.nil ?_)
  refine .ret ?_
  refine ⟨⟨RetDX.eq rfl rfl, trivial⟩, ?_⟩
  rw [gotT_all ok]
  exact AllIn.of fun p hp => hp

end Go.Proofs.YtagdgclfnbiahaaDoor

namespace Go.Proofs
open Go.Shelf
def Tryd.l145_ren : Go.Shelf.Ren := ⟨fun | 145 => 50 | 220 => 70 | 219 => 85 | 217 => 90 | 225 => 91 | 224 => 92 | 267 => 93 | 266 => 96 | 314 => 97 | n => n, fun | 9 => 9 | 4 => 4 | 59 => 103 | 3 => 3 | 5 => 5 | 46 => 93 | 146 => 146 | 51 => 49 | n => n, fun | 1 => 0 | n => n⟩
theorem Tryd.l145 : Go.Proofs.Lays.n145 Tryd.prog Tryd.l145_ren := {
  mixed := by kernel_rfl
  f145 := Tryd.func50.trans (congrArg some (by kernel_rfl))
  f217 := Tryd.func90.trans (congrArg some (by kernel_rfl))
  f219 := Tryd.func85.trans (congrArg some (by kernel_rfl))
  f220 := Tryd.func70.trans (congrArg some (by kernel_rfl))
  f224 := Tryd.func92.trans (congrArg some (by kernel_rfl))
  f225 := Tryd.func91.trans (congrArg some (by kernel_rfl))
  f266 := Tryd.func96.trans (congrArg some (by kernel_rfl))
  f267 := Tryd.func93.trans (congrArg some (by kernel_rfl))
  f314 := Tryd.func97.trans (congrArg some (by kernel_rfl))
  t3 := Tryd.underlying3
  a3 := Tryd.isAgg3
  z3 := Tryd.sizeOf3
  v3 := Tryd.zeroValue3
  t4 := Tryd.underlying4
  a4 := Tryd.isAgg4
  z4 := Tryd.sizeOf4
  v4 := Tryd.zeroValue4
  t5 := Tryd.underlying5
  a5 := Tryd.isAgg5
  z5 := Tryd.sizeOf5
  v5 := Tryd.zeroValue5
  t9 := Tryd.underlying9
  a9 := Tryd.isAgg9
  z9 := Tryd.sizeOf9
  v9 := Tryd.zeroValue9
  t46 := Tryd.underlying93
  a46 := Tryd.isAgg93
  z46 := Tryd.sizeOf93
  v46 := Tryd.zeroValue93
  t51 := Tryd.underlying49
  a51 := Tryd.isAgg49
  z51 := Tryd.sizeOf49
  v51 := Tryd.zeroValue49
  t59 := Tryd.underlying103
  a59 := Tryd.isAgg103
  z59 := Tryd.sizeOf103
  v59 := Tryd.zeroValue103
  t146 := Tryd.underlying146
  a146 := Tryd.isAgg146
  z146 := Tryd.sizeOf146
  v146 := Tryd.zeroValue146
  g1 := by kernel_rfl }
end Go.Proofs

namespace Go.Proofs.YtagdgclfnbiahaaDoor
open Go.RowKit Go.Shelf
set_option linter.unusedVariables false
set_option linter.unusedSimpArgs false
def strL (l : List UInt8) : ByteArray := ⟨l.toArray⟩
/-- Cut at the first c. -/
def ct (c : UInt8) : List UInt8 → Option (List UInt8 × List UInt8)
  | [] => none
  | b :: l => if b = c then some ([], l) else (ct c l).map fun p => (b :: p.1, p.2)
theorem ct_cons (c b : UInt8) (l : List UInt8) : ct c (b :: l) = if b = c then some ([], l) else (ct c l).map fun p => (b :: p.1, p.2) := rfl
theorem ct_some {c : UInt8} : ∀ {l : List UInt8} {p : List UInt8 × List UInt8}, ct c l = some p → l = p.1 ++ c :: p.2
  | [], p, h => by simp [ct] at h
  | b :: l, p, h => by
    unfold ct at h
    by_cases hb : b = c
    · rw [if_pos hb] at h
      cases h
      rw [hb]; rfl
    · rw [if_neg hb] at h
      obtain ⟨q, hq, rfl⟩ := Option.map_eq_some_iff.1 h
      rw [ct_some hq]; rfl
theorem index_ct (c : UInt8) : ∀ l, Lib.index l [c] = match ct c l with | none => -1 | some p => (p.1.length : Int)
  | [] => rfl
  | b :: l => by
    have ih := index_ct c l
    unfold Lib.index ct
    by_cases h : b = c
    · subst h
      rw [if_pos (by simp [List.isPrefixOf]), if_pos rfl]; rfl
    · rw [if_neg (by simp [List.isPrefixOf, Ne.symm h]), if_neg h, ih]
      cases ct c l with
      | none => rfl
      | some p =>
        show (if ((p.1.length : Int) == -1) = true then (-1 : Int) else (p.1.length : Int) + 1) = ((p.1.length + 1 : Nat) : Int)
        rw [if_neg (by simp)]
        omega
theorem cut_ct (c : UInt8) (l : List UInt8) : Lib.cut l [c] = match ct c l with | none => (l, [], false) | some p => (p.1, p.2, true) := by
  unfold Lib.cut
  rw [index_ct]
  cases h : ct c l with
  | none => rfl
  | some p =>
    have h2 := ct_some h
    simp only
    rw [if_pos (by omega), Int.toNat_natCast]
    congr 1
    · rw [h2, List.take_left]
    · congr 1
      rw [h2]
      show List.drop (p.1.length + 1) (p.1 ++ c :: p.2) = p.2
      rw [List.drop_append]
      simp
/-- The library's variable holds some number. -/
def MaxT (w : World) : Prop := ∃ m, w.cell? ⟨Tryd.l145_ren.g 1, 0, none⟩ = some (.int .i64 m)
theorem maxT_stays : Stays MaxT := fun w w' k ⟨m, hm⟩ => by
  refine ⟨m, ?_⟩
  have hlt := World.block_lt_of_cell? _ _ hm
  dsimp only at hlt
  rw [World.cell?_of_block (k.block _ hlt (fun h => by have h2 : w.heap.size ≤ Tryd.l145_ren.g 1 := h; omega))]
  exact hm
theorem below_drewN (w : World) (n : Nat) : Below w.heap.size w (w.drewN n) := ⟨rfl, rfl, rfl, Nat.le_refl _, fun _ _ => rfl⟩
theorem c_cutA (s : ByteArray) (c : UInt8) (hs : s.size < 4294967281) : ACallT Tryd.prog MaxT 50 [.v (.string s), .v (.string ⟨#[c]⟩)]
  (.tup [.v (.string (strL (Lib.cut s.data.toList [c]).1)), .v (.string (strL (Lib.cut s.data.toList [c]).2.1)), .v (.bool (Lib.cut s.data.toList [c]).2.2)]) :=
 ⟨.of Tryd.func50 (by kernel_rfl) rfl, fun F w vs hT hF hv => by
  rw [repL_v (us := [.string s, .string ⟨#[c]⟩]) hv]
  obtain ⟨m, hm⟩ := hT
  have h := Any.strings_Cut Tryd.l145 s ⟨#[c]⟩ m w hs hm
  change Calls Tryd.prog 50 #[.string s, .string ⟨#[c]⟩] w _ at h
  refine h.mono fun e w' ⟨h1, n, h2⟩ => ?_
  subst h2
  exact ⟨_, F, h1, .tup [_, _, _] [_, _, _] rfl (fun i h1 h2 => by
   match i, h1 with
   | 0, _ => exact .v _
   | 1, _ => exact .v _
   | 2, _ => exact .v _), Ext.of_below hF (below_drewN w n)⟩⟩
/-- What is so stays so while the block is what it was. -/
def StaysAt (g : Nat) (T : World → Prop) : Prop := (∀ w, T w → g < w.heap.size) ∧ ∀ w w', w'.heap[g]? = w.heap[g]? → T w → T w'
/-- T is so where cx begins, and its block is none that cx may write. -/
structure TC (g : Nat) (T : World → Prop) (cx : Cx) : Prop where
  at_ : StaysAt g T
  so : T cx.w0
  fr : ¬ cx.fr g
theorem TC.now {g : Nat} {T : World → Prop} {cx : Cx} (h : TC g T cx) {w : World} (k : Kept cx.fr cx.w0 w) : T w := h.at_.2 _ _ (k.block g (h.at_.1 _ h.so) h.fr) h.so
theorem TC.of {g : Nat} {T : World → Prop} {P : Program} {n B : Nat} {w0 : World} {F0 : Nat → Prop} {fx : Nat → Bool} {ρ0 : Nat → Value} (h : StaysAt g T) (hT : T w0) : TC g T ⟨P, n, B, w0, F0, fun b => w0.heap.size ≤ b, fx, ρ0⟩ := ⟨h, hT, fun k => by have := h.1 _ hT; omega⟩
theorem AOps.callTC {cx : Cx} {ops : Array Oper} {o : Oper} {rest : List Oper} {e : Env} {σ : Obs} {Q : Post} {g : Nat} {T : World → Prop} {f : FuncId} {xs : List Operand} {ts : Array TypeId} {ds : List D} {d : D} (hg : GW ops o e true) (hd : DstOk cx.N o)
    (ho : o.op = .call { callee := .value (.func f), args := xs.toArray, argTypes := ts }) (hT : TC g T cx) (ha : ArgsOk e xs ds) (h : ACallT cx.P T f ds d)
    (k : AOps cx ops rest (e.put o.dst (.d d)) σ Q) : AOps cx ops (o :: rest) e σ Q := by
  intro a w ⟨F, ρ, hr⟩
  have hw := hg.wanted (fun t _ => hr.env t)
  have h1 : RepL F w (xs.map a.eval) ds := ha.rep (ρ := ρ) fun t _ => hr.env t
  have h2 := h.2 F w _ (hT.now hr.below) hr.lt h1
  have h3 := h.1 (xs.map a.eval).toArray w
  have hx : (execOp a.eval o).run cx.P w = .ok (.enter f (xs.map a.eval).toArray) w := by
    unfold execOp
    simp only [ho, resolve, Deferred.ofValue, Act.eval, invoke, Sem.run_bind, Sem.run_pure, Result.andThen_ok]
    simpa using h3
  unfold wpList
  rw [if_pos hw]
  refine .inl ?_
  unfold Oper.wp
  rw [hx]
  refine h2.mono fun _ w' ⟨v, F', he, hv, hE⟩ => ?_
  subst he
  exact k _ _ ⟨F', ρ, hr.put hE (.d hv) hd⟩
/-- Such a call, where T is so and its block is none of the caller's. -/
def XCallT (P : Program) (g : Nat) (T : World → Prop) (f : FuncId) (ss : List S) (σ σ' : Obs) (chg : Nat → Bool) (d : D) : Prop := Enters P f ∧
  ∀ (F : Nat → Prop) (ρ : Nat → Value) (B : Nat) (w : World) (vs : List Value), T w → ¬ ownB σ ρ g → (∀ b, F b → b < w.heap.size) → B ≤ w.heap.size → ObsOk B F ρ w σ → RepSL F ρ w vs ss →
    Calls P f vs.toArray w fun e w' => ∃ v F' ρ', e = .returned v ∧ Rep F' w' v d ∧ XEnd B F ρ w σ F' ρ' w' σ' chg
theorem xcallT_of {g : Nat} {T : World → Prop} {P : Program} {f : FuncId} {fn : Func} {c : Code} {n : Nat} {ss : List S} {σ σ' : Obs} {chg : Nat → Bool} {ds' : List D} (hf : P.funcs[f]? = some fn) (hb : fn.body = some c) (hn : (fn.name == "runtime.NumGoroutine") = false) (hN : fn.ntmps = n)
    (ts : List Nat) (hr : fn.results = (ts.map ResultVar.tmp).toArray) (hle' : Nat.ble ss.length n = true)
    (hs : StaysAt g T) (h : ∀ B w0 F0 fr ρ0, TC g T ⟨P, n, B, w0, F0, fr, fun i => !(chg i), ρ0⟩ → AWP ⟨P, n, B, w0, F0, fr, fun i => !(chg i), ρ0⟩ c (Env.argsS 0 ss) σ (RetX ts ds' σ')) : XCallT P g T f ss σ σ' chg (retOf ds') := by
  have hle : ss.length ≤ n := Nat.le_of_ble_eq_true hle'
  refine ⟨Enters.of hf hn (by rw [hb]; rfl), fun F ρ B w vs hT hgo hF hB hσ hv => ?_⟩
  refine calls_of_wp hf hb ?_
  have hR : R ⟨P, n, B, w, F, (fun b => w.heap.size ≤ b ∨ ownB σ ρ b), fun i => !(chg i), ρ⟩ (Env.argsS 0 ss) σ { tmps := vs.toArray ++ Array.replicate (fn.ntmps - vs.toArray.size) undef, defers := [] } w := by
    refine ⟨F, ρ, ?_, rfl, hF, fun b hb => hb, fun b hb => .inl hb, Kept.refl _ _, hB, fun t => ?_, hσ, fun b hb => .inl hb, fun p hp g hg => .inr ⟨p, hp, hg⟩, fun i _ => rfl⟩
    · simp [hN, hv.1]; omega
    · by_cases ht : t < ss.length
      · have := Env.argsS_get ss 0 t ht
        rw [Nat.zero_add] at this
        rw [this]
        have hvt : t < vs.length := by rw [hv.1]; exact ht
        have : (vs.toArray ++ Array.replicate (fn.ntmps - vs.toArray.size) undef).getD t undef = vs[t] := by
          rw [Array.getD_eq_getD_getElem?, Array.getElem?_append_left (by simpa using hvt)]
          simp [hvt]
        rw [this]
        exact hv.2 t hvt ht
      · have := Env.argsS_out ss 0 t (by omega)
        rw [Nat.zero_add] at this
        rw [this]
        exact .d (.any _)
  refine wp_mono (h _ _ _ _ _ ⟨hs, hT, fun k => k.elim (fun k => by have := hs.1 _ hT; omega) hgo⟩ _ _ hR) ?_
  rintro ex a w' ⟨e', σe, hq, F', ρ', hr'⟩
  have hres : (results fn a.tmps).run P w' = .ok (match ts.map fun t => a.tmps.getD t undef with | [x] => x | l => .tuple l.toArray) w' := by
    have key : ∀ (ts : List Nat), (List.mapM (fun r => match r with | .tmp t => pure (a.tmps.getD t undef) | .cell b t => do loadVar t (← asAddr (a.tmps.getD b undef))) (ts.map ResultVar.tmp) : Sem (List Value)).run P w' = .ok (ts.map fun t => a.tmps.getD t undef) w' := by
      intro ts
      induction ts with
      | nil => rfl
      | cons t ts ih =>
        rw [List.map_cons, List.mapM_cons, Sem.run_bind]
        simp only [Sem.run_pure, Result.andThen_ok, Sem.run_bind, ih, List.map_cons]
    unfold results
    rw [hr, Sem.run_bind]
    have h2 : (Array.mapM (fun r => match r with | ResultVar.tmp t => pure (a.tmps.getD t undef) | ResultVar.cell b t => do loadVar t (← asAddr (a.tmps.getD b undef))) (ts.map ResultVar.tmp).toArray : Sem (Array Value)).run P w' = .ok (ts.map fun t => a.tmps.getD t undef).toArray w' := by
      rw [List.mapM_toArray, Sem.run_map, key]
      rfl
    have h3 := h2
    refine (congrArg (fun r => Result.andThen r _) h3).trans ?_
    simp only [Result.andThen_ok]
    rcases ts with _ | ⟨t, _ | ⟨t2, ts⟩⟩ <;> rfl
  have hends : RetLX e' σe σ' ts ds' ∧ AllIn σe σ' → bodyPost P fn (fun e w' => ∃ v F' ρ', e = .returned v ∧ Rep F' w' v (retOf ds') ∧ XEnd B F ρ w σ F' ρ' w' σ' chg) .ret a w' := by
    rintro ⟨hq, hin⟩
    have hl := hq.rep hr'
    have hin := hin.mem
    refine ⟨hr'.defers, _, hres, _, endFX F' ρ' σe σ', ρ', rfl, ?_, ?_⟩
    · generalize (ts.map fun t => a.tmps.getD t undef) = vs' at hl
      obtain ⟨h1, h2⟩ := hl
      rcases ds' with _ | ⟨d, _ | ⟨d2, ds'⟩⟩
      · have : vs' = [] := List.eq_nil_of_length_eq_zero h1
        subst this
        exact .tup [] [] rfl (fun i h1 => absurd h1 (by simp))
      · rcases vs' with _ | ⟨x, _ | ⟨y, vs'⟩⟩ <;> simp at h1
        exact h2 0 (by simp) (by simp)
      · rcases vs' with _ | ⟨x, _ | ⟨y, vs'⟩⟩
        · simp at h1
        · simp at h1
        · exact .tup _ _ h1 h2
    · have hlt : ∀ b, endFX F' ρ' σe σ' b → b < w'.heap.size := by
        rintro b (hb | ⟨p, hp, _, hb⟩)
        · exact hr'.lt b hb
        · exact ((hr'.obs.ok p hp).blk_lt hb).2
      refine ⟨fun b hb => .inl (hr'.base b hb), ?_, hlt, hr'.below, ⟨fun p hp => ?_, fun p hp q hq => hr'.obs.apart p (hin p hp) q (hin q hq), fun p hp q hq => hr'.obs.uniq p (hin p hp) q (hin q hq)⟩, fun p hp => hr'.kown p (hin p hp), fun i hi => hr'.fixed i (by show (!(chg i)) = true; rw [hi]; rfl)⟩
      · rintro b (hb | ⟨p, hp, _, hb⟩)
        · exact hr'.new b hb
        · exact .inr (hr'.kown p hp b hb)
      · refine (hr'.obs.ok p (hin p hp)).more hr'.lt (fun b hb => .inl hb) ?_
        rintro g hg (hf | ⟨q, hq, hne, hb⟩)
        · exact (hr'.obs.ok p (hin p hp)).nF hg hf
        · exact hr'.obs.apart p (hin p hp) q hq (hne p hp) g hg hb
  cases ex with
  | ret => exact hends hq
  | normal => exact hends hq
  | exit id => exact hq.elim
  | goto l => exact hq.elim
  | panic c => exact hq.elim
  | outgrown => exact hq.elim

section
variable {cx : Cx} {ops : Array Oper} {o : Oper} {rest : List Oper} {e : Env} {σ : Obs} {Q : Post}
theorem AOps.callXT {g : Nat} {T : World → Prop} {f : FuncId} {xs : List Operand} {ts : Array TypeId} {ss : List S} {σc σ' : Obs} {chg : Nat → Bool} {d : D} (hg : o.guard = none) (hd : DstOk cx.N o)
    (ho : o.op = .call { callee := .value (.func f), args := xs.toArray, argTypes := ts }) (hT : TC g T cx) (ha : ArgsS e xs ss) (h : XCallT cx.P g T f ss σc σ' chg d) (hin : AllIn σ σc)
    (h1 : Obs.allIds (fun i => !(chg i)) (Obs.dels σc σ) = true) (h2 : Obs.allIds (fun i => Obs.allIds (fun j => !(Nat.beq i j)) (Obs.dels σc σ)) σ' = true) (h3 : ∀ i, chg i = true → cx.fixp i = false)
    (k : AOps cx ops rest ((e.killP chg).put o.dst (.d d)) (Obs.join σ' (Obs.killP chg (Obs.dels σc σ))) Q) : AOps cx ops (o :: rest) e σ Q := by
  intro a w ⟨F, ρ, hr⟩
  have h4 := h.2 F ρ cx.B w _ (hT.now hr.below) (fun ⟨p, hp, hb⟩ => hT.fr (hr.kown p (hin.mem p hp) g hb)) hr.lt hr.hB (hr.obs.sub hin.mem) (ArgsS.rep hr.env ha)
  have h5 := h.1 (xs.map a.eval).toArray w
  have hx : (execOp a.eval o).run cx.P w = .ok (.enter f (xs.map a.eval).toArray) w := by
    unfold execOp
    simp only [ho, resolve, Deferred.ofValue, Act.eval, invoke, Sem.run_bind, Sem.run_pure, Result.andThen_ok]
    simpa using h5
  refine wpList_plain hg fun K hK => ?_
  unfold Oper.wp
  rw [hx]
  refine h4.mono fun _ w' ⟨v, F', ρ', he, hv, hE⟩ => ?_
  subst he
  exact hK _ _ (k _ _ ⟨F', ρ', (hr.after hin.mem hE h1 h2 h3).put (Ext.refl hE.lt) (.d hv) hd⟩)
end
theorem maxT_at : StaysAt (Tryd.l145_ren.g 1) MaxT := by
  refine ⟨fun w ⟨m, hm⟩ => ?_, fun w w' k ⟨m, hm⟩ => ⟨m, ?_⟩⟩
  · exact World.block_lt_of_cell? _ _ hm
  · rw [World.cell?_of_block k]; exact hm
abbrev gMax : Nat := Tryd.l145_ren.g 1
/-- Cut at the only c there. -/
theorem ct_at {c : UInt8} : ∀ {a b : List UInt8}, (∀ x ∈ a, x ≠ c) → ct c (a ++ c :: b) = some (a, b)
  | [], b, _ => by rw [List.nil_append, ct_cons, if_pos rfl]
  | x :: a, b, h => by rw [List.cons_append, ct_cons, if_neg (h x List.mem_cons_self), ct_at fun y hy => h y (List.mem_cons_of_mem _ hy)]; rfl
/-- Such a call beside objects that it leaves alone. -/
theorem XCallT.frame {P : Program} {g : Nat} {T : World → Prop} {f : FuncId} {ss : List S} {σc σ' : Obs} {chg : Nat → Bool} {d : D} (h : XCallT P g T f ss σc σ' chg d) (σ τ : Obs) (chg2 : Nat → Bool) (hle : ∀ i, chg i = true → chg2 i = true) (hin : ∀ p ∈ σc, p ∈ σ)
    (h1 : Obs.allIds (fun i => !(chg i)) (Obs.dels σc σ) = true) (h2 : Obs.allIds (fun i => Obs.allIds (fun j => !(Nat.beq i j)) (Obs.dels σc σ)) σ' = true) (hτ : ∀ p ∈ τ, p ∈ Obs.join σ' (Obs.killP chg (Obs.dels σc σ))) : XCallT P g T f ss σ τ chg2 d :=
  ⟨h.1, fun F ρ B w vs hT ho hF hB hσ hv => (h.2 F ρ B w vs hT (fun ⟨p, hp, hb⟩ => ho ⟨p, hin p hp, hb⟩) hF hB (hσ.sub hin) hv).mono fun _ w' ⟨v, F', ρ', he, hv', hE⟩ => ⟨v, F', ρ', he, hv', by
    have hr : R0 ⟨P, 0, B, w, F, fun b => w.heap.size ≤ b ∨ ownB σ ρ b, fun i => !(chg2 i), ρ⟩ F ρ (fun _ => .d .any) σ { tmps := #[], defers := [] } w := ⟨rfl, rfl, hF, fun b hb => hb, fun b hb => .inl hb, Kept.refl _ _, hB, fun t => .d (.any _), hσ, fun b hb => .inl hb, fun p hp g hg => .inr ⟨p, hp, hg⟩, fun i _ => rfl⟩
    have h3 := hr.after hin hE h1 h2 (fun i hi => by show (!(chg2 i)) = false; rw [hle i hi]; rfl)
    exact ⟨hE.up, h3.new, h3.lt, h3.below, h3.obs.sub hτ, fun p hp => h3.kown p (hτ p hp), fun i hi => h3.fixed i (by show (!(chg2 i)) = true; rw [hi]; rfl)⟩⟩⟩
theorem XCall.toT {P : Program} {g : Nat} {T : World → Prop} {f : FuncId} {ss : List S} {σ σ' : Obs} {chg : Nat → Bool} {d : D} (h : XCall P f ss σ σ' chg d) : XCallT P g T f ss σ σ' chg d := ⟨h.1, fun F ρ B w vs _ _ => h.2 F ρ B w vs⟩
end Go.Proofs.YtagdgclfnbiahaaDoor

namespace Go.Proofs.YtagdgclfnbiahaaDoor
open Go.RowKit
set_option linter.unusedVariables false

/-- append(own, x...): the row has a new name, the old header stays what it was. -/
theorem AOps.appendN {cx : Cx} {ops : Array Oper} {o : Oper} {rest : List Oper} {e : Env} {σ : Obs} {Q : Post} {s x : Operand} {t ee size bytes id dst : Nat} {z : Value} {els els2 : List (List D)} (id2 : Nat) (hg : o.guard = none)
    (ho : o.op = .call { callee := .builtin .append, args := #[s, x], argTypes := #[t, t] }) (hd : o.dst = some dst) (hdn' : Nat.blt dst cx.N = true) (T : ElemTy cx.P t ee size bytes z) (hs : e.ev s = .own id) (hm : (id, Ob.row ee size els) ∈ σ)
    (hx : e.ev x = .d (.sl els2)) (hsz : ∀ y ∈ els2, y.length = size) (hb : (els.length + els2.length) * bytes ≤ 140737488355328) (hn : els.length + els2.length ≤ 9223372036854775807)
    (hid : Obs.fresh id2 σ = true) (k : AOps cx ops rest ((e.kill id2).put (some dst) (.own id2)) ((id2, .row ee size (els ++ els2)) :: Obs.kill id2 (Obs.del id σ)) Q) (hfx : cx.free id2 = true := by rfl) : AOps cx ops (o :: rest) e σ Q := by
  intro a w ⟨F, ρ, hr⟩
  have hdn : dst < cx.N := by simpa [Nat.blt_eq] using hdn'
  have h1 := ev_rep (e := e) (x := s) (a := a) (fun t _ => hr.env t)
  have h2 := ev_rep (e := e) (x := x) (a := a) (fun t _ => hr.env t)
  rw [hs] at h1
  rw [hx] at h2
  obtain ⟨xs, hown, hlen, hrep, hnF⟩ := hr.obs.ok _ hm
  dsimp only at hown hnF
  have hv : a.eval s = ρ id := by generalize a.eval s = v at h1; cases h1; rfl
  -- the source, as a slice of cells
  obtain ⟨ys, hsl, hys⟩ : ∃ ys : Nat → Nat → Value, Sl w size (a.eval x) els2.length (flat ys els2.length size) ∧ ∀ i (h : i < els2.length) j (h' : j < els2[i].length), (ys i j).oneCell' = true ∧ Rep F w (ys i j) els2[i][j] := by
    rcases rep_sl_sl (repS_d h2) with ⟨h3, h4⟩ | ⟨ad, cap, size', vs, h3, hc, hm', hF', hs', hcell, hone, hrep'⟩
    · subst h4
      exact ⟨fun _ _ => undef, by rw [h3]; exact Sl.nil _ _, fun i hi => by simp at hi⟩
    · refine ⟨vs, ⟨flat_length _ _ _, .inr ⟨ad, cap, h3, hc, hm', ?_⟩⟩, fun i hi j hj => ?_⟩
      · intro q hq
        rw [flat_length] at hq
        have hs0 : 0 < size := T.hs
        have e1 : q = (q / size) * size + q % size := by rw [Nat.mul_comm]; exact (Nat.div_add_mod q size).symm
        have hlt1 : q / size < els2.length := Nat.div_lt_of_lt_mul (by rw [Nat.mul_comm]; exact hq)
        have hlt2 : q % size < size := Nat.mod_lt _ hs0
        have hss : size' = size := by rw [← hs' (q / size) hlt1]; exact hsz _ (List.getElem_mem hlt1)
        subst hss
        have h5 := hcell (q / size') (q % size') hlt1 hlt2
        rw [← e1] at h5
        rw [h5]
        have h6 := flatten_get vs size' els2.length (q / size') (q % size') hlt1 hlt2
        rw [← e1] at h6
        have h7 : (flat vs els2.length size')[q]? = some (vs (q / size') (q % size')) := h6
        rw [List.getElem?_eq_getElem (by rw [flat_length]; exact hq)] at h7
        rw [Option.some.inj h7]
      · have hss : size' = size := by rw [← hs' i hi]; exact hsz _ (List.getElem_mem hi)
        exact ⟨hone i j hi (by rw [← hs' i hi]; exact hj), hrep' i hi j hj⟩
  refine wpList_cat2 (B := cx.B) T s x hg ho hown hv rfl hsl ?_ hb hn hr.hB ?_
  · intro u hu
    obtain ⟨q, hq, rfl⟩ := List.getElem_of_mem hu
    rw [flat_length] at hq
    have hs0 : 0 < size := T.hs
    have e1 : q = (q / size) * size + q % size := by rw [Nat.mul_comm]; exact (Nat.div_add_mod q size).symm
    have hlt1 : q / size < els2.length := Nat.div_lt_of_lt_mul (by rw [Nat.mul_comm]; exact hq)
    have hlt2 : q % size < size := Nat.mod_lt _ hs0
    have h6 := flatten_get ys size els2.length (q / size) (q % size) hlt1 hlt2
    rw [← e1] at h6
    have h7 : (flat ys els2.length size)[q]? = some (ys (q / size) (q % size)) := h6
    rw [List.getElem?_eq_getElem (by rw [flat_length]; exact hq)] at h7
    rw [Option.some.inj h7]
    exact (hys _ hlt1 _ (by rw [hsz _ (List.getElem_mem hlt1)]; exact hlt2)).1
  · intro v' w' hown' hgr hat
    rw [hd]
    refine k _ _ ⟨F, fun j => if j = id2 then v' else ρ j, ?_⟩
    have hnewb : ∀ g, blk v' = some g → (ρ id).ownBlock = some g ∨ w.heap.size ≤ g := by
      intro g hg
      have hg' : v'.ownBlock = some g := by
        rcases hown'.2 with ⟨h3, _⟩ | ⟨g', cap, cur, h3, _⟩
        · rw [h3] at hg; simp [blk] at hg
        · rw [h3] at hg ⊢; simpa [Value.ownBlock, blk] using hg
      rcases hat with h3 | ⟨g2, h3, h4⟩
      · exact .inl (by rw [← h3]; exact hg')
      · rw [h3] at hg'
        exact .inr (by have := Option.some.inj hg'; omega)
    have hob' : ∀ g, (ρ id).ownBlock = some g → blk (ρ id) = some g := by
      intro g hg
      rcases hown.2 with ⟨h3, _⟩ | ⟨g', cap, cur, h3, _⟩
      · rw [h3] at hg; simp [Value.ownBlock] at hg
      · rw [h3] at hg ⊢; simpa [Value.ownBlock, blk] using hg
    have hturn : Turn w w' (ρ id).ownBlock := ⟨hgr.os, hgr.tape, hgr.output, hgr.size, hgr.block⟩
    have hsub : ∀ p ∈ Obs.del id σ, p ∈ σ := fun p hp => (Obs.mem_del hp).1
    have hr2 : R0 cx F ρ e (Obs.del id σ) a w := ⟨hr.size, hr.defers, hr.lt, hr.base, hr.new, hr.below, hr.hB, hr.env, hr.obs.sub hsub, hr.up, fun p hp => hr.kown p (hsub p hp), hr.fixed⟩
    have h9 := hr2.turn (ρ' := fun j => if j = id2 then v' else ρ j) (id := id2) (ob := .row ee size (els ++ els2)) (row := (ρ id).ownBlock) (w' := w') (F' := F) (fun j hj => by simp [hj]) hturn hfx
      (fun g hg => ⟨hr.kown _ hm g (hob' g hg), hnF g (hob' g hg), fun p hp hpi => fun he => hr.obs.apart p (Obs.mem_del hp).1 _ hm (Obs.mem_del hp).2 g he (hob' g hg)⟩) (fun b hb => hb) (fun b hb => .inl hb)
      (fun b hb => Nat.lt_of_lt_of_le (hr.lt b hb) hgr.size)
      (by
        refine ⟨fun i j => if i < els.length then xs i j else ys (i - els.length) j, ?_, fun i hi => ?_, fun i hi j hj => ?_, fun g hg hf => ?_⟩
        · dsimp only; rw [if_pos rfl, List.length_append]
          have h3 := flat_append xs ys els.length els2.length size
          unfold flat at h3
          rw [← h3]
          exact hown'
        · by_cases hi' : i < els.length
          · rw [List.getElem_append_left hi']; exact hlen i hi'
          · rw [List.getElem_append_right (by omega)]
            exact hsz _ (List.getElem_mem _)
        · have keep : ∀ {u : Value} {d : D}, Rep F w u d → Rep F w' u d := fun h => h.mono (fun b hb => hb) fun b hb => hgr.block b (hr.lt b hb) (fun he => hnF b (hob' b he.symm) hb)
          by_cases hi' : i < els.length
          · simp only [if_pos hi', List.getElem_append_left hi'] at hj ⊢
            exact ⟨(hrep i hi' j hj).1, keep (hrep i hi' j hj).2⟩
          · simp only [if_neg hi', List.getElem_append_right (show els.length ≤ i by omega)] at hj ⊢
            have := hys (i - els.length) (by simp at hi; omega) j hj
            exact ⟨this.1, keep this.2⟩
        · dsimp only at hg; rw [if_pos rfl] at hg
          rcases hnewb g hg with h3 | h3
          · exact hnF g (hob' g h3) hf
          · have := hr.lt g hf; omega)
      (fun g hg => by
        rw [if_pos rfl] at hg
        exact hnewb g hg)
      ((id2, .row ee size (els ++ els2)) :: Obs.kill id2 (Obs.del id σ)) (fun p hp => by
        cases hp with
        | head => exact .inl rfl
        | tail _ hp =>
          obtain ⟨q, hq, rfl⟩ := Obs.mem_kill hp
          exact .inr ⟨q, hq, Obs.fresh_spec hid q (Obs.mem_del hq).1, rfl⟩)
    have h10 := h9.put (o := ⟨some dst, .ready 0, 0, "", #[], none⟩) (v := v') (s := .own id2) (Ext.refl h9.lt) (by
      have := RepS.own (F := F) (ρ := fun j => if j = id2 then v' else ρ j) (w := w') id2
      simpa using this) (by simpa [DstOk, Nat.blt_eq] using hdn)
    exact h10
/-- Such an append in a drawn region. -/
theorem GE.appendN {cx : Cx} {ops : Array Oper} {Φ : List Fc} {o : Oper} {e : Env} {σ : Obs} {s x : Operand} {t ee size bytes id dst : Nat} {z : Value} {els els2 : List (List D)} {σ' : Obs} (id2 : Nat) {sl : List Nat} (hΦ : ⟨id2, sl⟩ ∈ Φ) (hsl : ∀ t, t ≠ dst → sl.contains t = false) (hg : o.guard = none)
    (ho : o.op = .call { callee := .builtin .append, args := #[s, x], argTypes := #[t, t] }) (hd : o.dst = some dst) (hdn' : Nat.blt dst cx.N = true) (T : ElemTy cx.P t ee size bytes z) (hs : e.ev s = .own id) (hm : (id, Ob.row ee size els) ∈ σ)
    (hx : e.ev x = .d (.sl els2)) (hsz : ∀ y ∈ els2, y.length = size) (hb : (els.length + els2.length) * bytes ≤ 140737488355328) (hn : els.length + els2.length ≤ 9223372036854775807) (hid : Obs.fresh id2 σ = true) (hσ : (id2, .row ee size (els ++ els2)) :: Obs.kill id2 (Obs.del id σ) = σ') (hfx : cx.free id2 = true := by rfl) :
    GE cx ops Φ o e σ [(dst, .own id2)] σ' := fun e0 h1 h2 h3 => by
  have e1 : e0.ev s = e.ev s := ev_same fun t hxt => h1 t (looks_op (by rw [ho, ← hxt]; simp [Op.operands, Call.operands]))
  have e2 : e0.ev x = e.ev x := ev_same fun t hxt => h1 t (looks_op (by rw [ho, ← hxt]; simp [Op.operands, Call.operands]))
  have hp : (e0.kill id2).put (some dst) (.own id2) = Env.puts e0 [(dst, .own id2)] := by
    funext t
    show _ = (e0.put (some dst) (.own id2)) t
    by_cases h4 : t = dst
    · subst h4; rw [Env.put_same, Env.put_same]
    · rw [Env.put_other _ _ _ _ h4, Env.put_other _ _ _ _ h4]; exact h3 _ hΦ t (hsl t h4)
  exact AOps.appendN id2 hg ho hd hdn' T (e1.trans hs) hm (e2.trans hx) hsz hb hn hid (.nil ⟨hp, hσ⟩) hfx
end Go.Proofs.YtagdgclfnbiahaaDoor

namespace Go.Proofs.YtagdgclfnbiahaaDoor
open Go.RowKit
set_option linter.unusedVariables false

/-! Types. -/
namespace TySBP
theorem bu_54 : StructT Tryd.prog 54 (fun i => (#[(0, 1), (1, 1)] : Array (Nat × Nat))[i]?) [(.string ⟨#[]⟩), (.string ⟨#[]⟩)] := .of (by kernel_rfl) (by kernel_rfl) (by decide)
theorem fo_78_3 : fieldOff Tryd.prog 78 3 = some 4 := by kernel_rfl
theorem sc_25 : Scal Tryd.prog 25 := .of (by kernel_rfl)
theorem sc_4 : Scal Tryd.prog 4 := .of (by kernel_rfl)
theorem sz_25 : ∀ w, (sizeOf 25).run Tryd.prog w = .ok 1 w := SizeT.of (by kernel_rfl)
end TySBP
open TyXA TyXB TySBA TySBB TySBC TySBD TySBE TySBF TySBG TySBH TySBI TySBJ TySBK TyV1 TyV2 TyV3 TyV4 TyV5 TyV6 TyV7 TyV8 TySBL TySBM TySBN TySBO TySBP

set_option linter.unusedSimpArgs false
theorem strL_list (l : List UInt8) : (strL l).data.toList = l := rfl
theorem strL_self (s : ByteArray) : strL s.data.toList = s := by unfold strL; rw [Array.toArray_toList]
theorem name_no0 {l : List UInt8} (h : isName l = true) : ∀ x ∈ l, x ≠ 0 := fun x hx he => by
  unfold isName at h
  rw [Bool.and_eq_true] at h
  have := List.all_eq_true.1 h.2 x hx
  rw [he] at this
  exact absurd this (by decide)
def notB (n : Nt) : List UInt8 := (noteC n).data
theorem cut_nt {n : Nt} (h : isName n.name.data.toList = true) : Lib.cut (strL (notB n)).data.toList [0] = (n.name.data.toList, n.text.data.toList, true) := by
  have e : (strL (notB n)).data.toList = n.name.data.toList ++ 0 :: n.text.data.toList := by
    rw [strL_list]
    show n.name.data.toList ++ [0] ++ n.text.data.toList = _
    rw [List.append_assoc]; rfl
  rw [e, cut_ct, ct_at (name_no0 h)]
theorem notB_len (n : Nt) : (notB n).length = n.name.size + 1 + n.text.size := by
  show (n.name.data.toList ++ [0] ++ n.text.data.toList).length = _
  rw [List.length_append, List.length_append, Array.length_toList, Array.length_toList]; rfl
theorem strL_size (l : List UInt8) : (strL l).size = l.length := by show l.toArray.size = _; simp
theorem cutV_1 {n : Nt} (h : isName n.name.data.toList = true) : strL (Lib.cut (strL (notB n)).data.toList [0]).1 = n.name := by rw [cut_nt h]; exact strL_self _
theorem cutV_2 {n : Nt} (h : isName n.name.data.toList = true) : strL (Lib.cut (strL (notB n)).data.toList [0]).2.1 = n.text := by rw [cut_nt h]; exact strL_self _
theorem cutV_3 {n : Nt} (h : isName n.name.data.toList = true) : (Lib.cut (strL (notB n)).data.toList [0]).2.2 = true := by rw [cut_nt h]
set_option maxRecDepth 100000 in
set_option maxHeartbeats 1000000 in
set_option maxRecDepth 20000 in
set_option maxHeartbeats 4000000 in
theorem c_take0 (s : Snd) (ok : SndOk s) : XCall Tryd.prog 31 [.ptr 920 0, .d (.agg (formC s).ds)] [(920, .cells rd0)] ((920, .cells (rdS s false)) :: trO (zerT s)) chgR (.v (.bool true)) := by
  refine xcall_of (n := 107) (ds' := [.v (.bool true)]) Tryd.func31 rfl (by kernel_rfl) rfl [4] rfl rfl ?_
  intro B w0 F0 fr ρ0
  refine .sr ?_
  refine .sA (.box rfl rfl rfl) ?_
  refine .aA (.nil ?_)
  refine .seq ?_
  refine .block ?_
  refine .sr ?_
  refine .sA (.moveP rfl rfl) ?_
  refine .sA (.nilCheckP rfl rfl) ?_
  refine .sA (.fieldAddrP rfl fo_78_4 rfl) ?_
  refine .sA (.loadP rfl sc_4 rfl (.head _) rfl) ?_
  refine .aA (.nil ?_)
  refine .cond rfl (fun h1 => ?_) (fun h1 => ?_)
  · skip
    exact absurd h1 (by decide)
  refine .sr ?_
  refine .sA (.fieldAddr rfl fo_63_0 rfl) ?_
  refine .sA (.load rfl sc_9 rfl) ?_
  refine .sA (.seql rfl rfl rfl) ?_
  refine .mA ?_
  refine .split 20 rfl (fun g2 => ?_) (fun g2 => ?_)
  · replace g2 := of_decide_eq_true g2
    refine .sG (.moveP rfl rfl) ?_
    refine .sG (.nilCheckP rfl rfl) ?_
    refine .sG (.fieldAddrP rfl fo_78_1 rfl) ?_
    refine .sG (.loadP rfl sc_3 rfl (.head _) rfl) ?_
    refine .sG (.eql rfl rfl rfl) ?_
    refine .sA (.pickT rfl rfl rfl) ?_
    refine .aA (.nil ?_)
    refine .cond rfl (fun h3 => ?_) (fun h3 => ?_)
    · replace h3 := of_decide_eq_true h3
      refine .sr ?_
      refine .sA (.moveP rfl rfl) ?_
      refine .sA (.fieldAddr rfl fo_63_1 rfl) ?_
      refine .sA (.load rfl sc_28 rfl) ?_
      refine .callX rfl rfl rfl (.cons (SLe.refl _) (.cons (SLe.refl _) .nil)) (c_form1 s ok) ⟨.head _, trivial⟩ rfl (allIds_of fun p _ => rfl) (fun i hi => fixR hi) ?_
      refine .obs (σ' := [(920, .cells (rdS s false))] ++ trO (zerT s)) (fun p hp => mem_join_l hp) ?_
      refine .aA (.nil ?_)
      refine .ret ?_
      refine ⟨⟨RetDX.eq rfl rfl, trivial⟩, AllIn.of fun p hp => hp⟩
    replace h3 := of_decide_eq_false h3
    exact absurd rfl h3
  replace g2 := of_decide_eq_false g2
  exact absurd rfl g2

set_option maxRecDepth 100000 in
set_option maxHeartbeats 1000000 in
set_option maxRecDepth 20000 in
set_option maxHeartbeats 4000000 in
theorem c_takeD (s : Snd) (ok : SndOk s) : XCall Tryd.prog 31 [.ptr 920 0, .d (.agg (dataC s).ds)] ((920, .cells (rdS s false)) :: trO (zerT s)) ((920, .cells (rdS s true)) :: trO (s.tracks.map fun t => t.map sI)) chgR (.v (.bool true)) := by
  refine xcall_of (n := 107) (ds' := [.v (.bool true)]) Tryd.func31 rfl (by kernel_rfl) rfl [4] rfl rfl ?_
  intro B w0 F0 fr ρ0
  refine .sr ?_
  refine .sA (.box rfl rfl rfl) ?_
  refine .aA (.nil ?_)
  refine .seq ?_
  refine .block ?_
  refine .sr ?_
  refine .sA (.moveP rfl rfl) ?_
  refine .sA (.nilCheckP rfl rfl) ?_
  refine .sA (.fieldAddrP rfl fo_78_4 rfl) ?_
  refine .sA (.loadP rfl sc_4 rfl (.head _) rfl) ?_
  refine .aA (.nil ?_)
  refine .cond rfl (fun h1 => ?_) (fun h1 => ?_)
  · skip
    exact absurd h1 (by decide)
  refine .sr ?_
  refine .sA (.fieldAddr rfl fo_63_0 rfl) ?_
  refine .sA (.load rfl sc_9 rfl) ?_
  refine .sA (.seql rfl rfl rfl) ?_
  refine .mA ?_
  refine .split 20 rfl (fun g2 => ?_) (fun g2 => ?_)
  · replace g2 := of_decide_eq_true g2
    exact absurd (show dataS = formS from g2) (by decide)
  replace g2 := of_decide_eq_false g2
  refine .pA ?_
  refine .pA ?_
  refine .pA ?_
  refine .pA ?_
  refine .pA ?_
  refine .sA (.pickF rfl rfl rfl) ?_
  refine .aA (.nil ?_)
  refine .cond rfl (fun h => nomatch h) (fun _ => ?_)
  refine .sr ?_
  refine .sA (.fieldAddr rfl fo_63_0 rfl) ?_
  refine .sA (.load rfl sc_9 rfl) ?_
  refine .sA (.seql rfl rfl rfl) ?_
  refine .mA ?_
  refine .split 35 rfl (fun g3 => ?_) (fun g3 => ?_)
  · replace g3 := of_decide_eq_true g3
    exact absurd (show dataS = noteS from g3) (by decide)
  replace g3 := of_decide_eq_false g3
  refine .pA ?_
  refine .pA ?_
  refine .pA ?_
  refine .pA ?_
  refine .pA ?_
  refine .sA (.pickF rfl rfl rfl) ?_
  refine .aA (.nil ?_)
  refine .cond rfl (fun h => nomatch h) (fun _ => ?_)
  refine .sr ?_
  refine .sA (.fieldAddr rfl fo_63_0 rfl) ?_
  refine .sA (.load rfl sc_9 rfl) ?_
  refine .sA (.seql rfl rfl rfl) ?_
  refine .mA ?_
  refine .split 96 rfl (fun g4 => ?_) (fun g4 => ?_)
  · replace g4 := of_decide_eq_true g4
    refine .sG (.moveP rfl rfl) ?_
    refine .sG (.nilCheckP rfl rfl) ?_
    refine .sG (.fieldAddrP rfl fo_78_1 rfl) ?_
    refine .sG (.loadP rfl sc_3 rfl (.head _) rfl) ?_
    refine .sG (.gtr rfl rfl rfl) ?_
    refine .sA (.pickT rfl rfl rfl) ?_
    refine .aA (.nil ?_)
    refine .cond rfl (fun h5 => ?_) (fun h5 => ?_)
    · replace h5 := of_decide_eq_true h5
      refine .sr ?_
      refine .sA (.moveP rfl rfl) ?_
      refine .sA (.fieldAddr rfl fo_63_1 rfl) ?_
      refine .sA (.load rfl sc_28 rfl) ?_
      refine .callX rfl rfl rfl (.cons (SLe.refl _) (.cons (SLe.refl _) .nil)) (c_data1 s ok) (AllIn.of fun p hp => hp) (allIds_of fun p hp => absurd rfl ((Obs.mem_dels hp).2 p (Obs.mem_dels hp).1)) (allIds_of fun p _ => allIds_of fun q hq => absurd rfl ((Obs.mem_dels hq).2 q (Obs.mem_dels hq).1)) (fun i hi => fixR hi) ?_
      refine .obs (σ' := [(920, .cells (rdS s true))] ++ trO (s.tracks.map fun t => t.map sI)) (fun p hp => mem_join_l hp) ?_
      refine .aA (.nil ?_)
      refine .ret ?_
      refine ⟨⟨RetDX.eq rfl rfl, trivial⟩, AllIn.of fun p hp => hp⟩
    replace h5 := of_decide_eq_false h5
    exact absurd h5 (by decide)
  replace g4 := of_decide_eq_false g4
  exact absurd rfl g4

set_option maxRecDepth 100000 in
set_option maxHeartbeats 1000000 in
set_option maxRecDepth 20000 in
set_option maxHeartbeats 4000000 in
theorem c_takeN (s : Snd) (ok : SndOk s) (l : List Nt) (n : Nt) (hl : l.length < 50) (hn0 : ntF n = 0) (hnm : isName n.name.data.toList = true) (hns : n.name.size ≤ 40 ∧ n.text.size ≤ 200) (hne : ∀ m ∈ l, m.name ≠ n.name) : XCallT Tryd.prog gMax MaxT 31 [.ptr 920 0, .d (.agg (noteC n).ds)] [(920, .cells (rdS s false)), (930, .row 54 2 (l.map Nt.ds))] [(930, .row 54 2 ((l ++ [n]).map Nt.ds)), (920, .cells (rdS s false))] chgN (.v (.bool true)) := by
  refine xcallT_of (n := 107) (ds' := [.v (.bool true)]) Tryd.func31 rfl (by kernel_rfl) rfl [4] rfl rfl maxT_at ?_
  intro B w0 F0 fr ρ0 hT
  refine .sr ?_
  refine .sA (.box rfl rfl rfl) ?_
  refine .aA (.nil ?_)
  refine .seq ?_
  refine .block ?_
  refine .sr ?_
  refine .sA (.moveP rfl rfl) ?_
  refine .sA (.nilCheckP rfl rfl) ?_
  refine .sA (.fieldAddrP rfl fo_78_4 rfl) ?_
  refine .sA (.loadP rfl sc_4 rfl (.head _) rfl) ?_
  refine .aA (.nil ?_)
  refine .cond rfl (fun h1 => ?_) (fun h1 => ?_)
  · skip
    exact absurd h1 (by decide)
  refine .sr ?_
  refine .sA (.fieldAddr rfl fo_63_0 rfl) ?_
  refine .sA (.load rfl sc_9 rfl) ?_
  refine .sA (.seql rfl rfl rfl) ?_
  refine .mA ?_
  refine .split 20 rfl (fun g2 => ?_) (fun g2 => ?_)
  · replace g2 := of_decide_eq_true g2
    exact absurd (show noteS = formS from g2) (by decide)
  replace g2 := of_decide_eq_false g2
  refine .pA ?_
  refine .pA ?_
  refine .pA ?_
  refine .pA ?_
  refine .pA ?_
  refine .sA (.pickF rfl rfl rfl) ?_
  refine .aA (.nil ?_)
  refine .cond rfl (fun h => nomatch h) (fun _ => ?_)
  refine .sr ?_
  refine .sA (.fieldAddr rfl fo_63_0 rfl) ?_
  refine .sA (.load rfl sc_9 rfl) ?_
  refine .sA (.seql rfl rfl rfl) ?_
  refine .mA ?_
  refine .split 35 rfl (fun g3 => ?_) (fun g3 => ?_)
  · replace g3 := of_decide_eq_true g3
    refine .sG (.moveP rfl rfl) ?_
    refine .sG (.nilCheckP rfl rfl) ?_
    refine .sG (.fieldAddrP rfl fo_78_1 rfl) ?_
    refine .sG (.loadP rfl sc_3 rfl (.head _) rfl) ?_
    refine .sG (.gtr rfl rfl rfl) ?_
    refine .sA (.pickT rfl rfl rfl) ?_
    refine .aA (.nil ?_)
    refine .cond rfl (fun h4 => ?_) (fun h4 => ?_)
    · replace h4 := of_decide_eq_true h4
      refine .sr ?_
      refine .sA (.fieldAddr rfl fo_63_1 rfl) ?_
      refine .sA (.load rfl sc_28 rfl) ?_
      refine .sA (.bytesStr rfl et_28.ht Tryd.underlying5 st_9 rfl) ?_
      rw [show (⟨((noteC n).data).toArray⟩ : ByteArray) = strL (notB n) from rfl]
      -- wants the world
      refine .callTC rfl rfl rfl hT (.cons (.rfl' rfl) (.cons (.rfl' rfl) .nil)) (c_cutA (strL (notB n)) 0 (by rw [strL_size, notB_len]; omega)) ?_
      rw [cutV_1 hnm, cutV_2 hnm, cutV_3 hnm]
      refine .mA ?_
      refine .sA (.extract rfl rfl rfl) ?_
      refine .sA (.extract rfl rfl rfl) ?_
      refine .sA (.extract rfl rfl rfl) ?_
      refine .aA ?_
      refine .aA ?_
      refine .aA (.nil ?_)
      refine .sr ?_
      refine .mA ?_
      refine .mA ?_
      refine .sA (.build rfl bu_54 (.cons rfl rfl (.cons rfl rfl .nil)) rfl) ?_
      refine .alloc 931 rfl rfl rfl rfl zt_54 rfl rfl rfl ?_
      refine .store rfl rfl rfl sz_54 rfl (.head _) rfl rfl rfl (Nat.le_of_ble_eq_true rfl) ?_
      refine .freezeCells 8 (ds := n.ds) rfl (.head _) (.nil ?_)
      refine .seq ?_
      refine .sr ?_
      refine .mA ?_
      refine .sA (.not rfl rfl) ?_
      refine .mA ?_
      refine .split 55 rfl (fun g5 => ?_) (fun g5 => ?_)
      · replace g5 := bnot_t g5
        exact absurd g5 (by decide)
      replace g5 := bnot_f g5
      refine .sG (.loadAgg rfl ag_54 rfl rfl) ?_
      refine .sG (.call rfl (.cons (.rfl' rfl) .nil) (c_chkN n (by omega) (by omega))) ?_
      rw [hn0]
      refine .sG (.neq rfl rfl rfl) ?_
      refine .sA (.pickF rfl rfl rfl) ?_
      refine .mA ?_
      refine .split 60 rfl (fun g6 => ?_) (fun g6 => ?_)
      · replace g6 := of_decide_eq_true g6
        exact absurd rfl g6
      replace g6 := of_decide_eq_false g6
      refine .sG (.moveP rfl rfl) ?_
      refine .sG (.nilCheckP rfl rfl) ?_
      refine .sG (.fieldAddrP rfl fo_78_3 rfl) ?_
      refine .sG (.loadP rfl sc_25 rfl (.head _) rfl) ?_
      refine .sG (.lenOwn rfl et_25.ht rfl (.tail _ (.head _))) ?_
      refine .sG (.eql rfl rfl rfl) ?_
      refine .sA (.pickF rfl rfl rfl) (.nil ?_)
      refine .cond rfl (fun h7 => ?_) (fun h7 => ?_)
      · replace h7 := of_decide_eq_true h7
        rw [List.length_map] at h7; omega
      replace h7 := of_decide_eq_false h7
      refine .skip ?_
      refine .seq ?_
      refine .sr ?_
      refine .sA (.moveP rfl rfl) ?_
      refine .sA (.nilCheckP rfl rfl) ?_
      refine .sA (.fieldAddrP rfl fo_78_3 rfl) ?_
      refine .sA (.loadP rfl sc_25 rfl (.head _) rfl) ?_
      refine .sA (.lenOwn rfl et_25.ht rfl (.tail _ (.head _))) ?_
      refine .mA (.nil ?_)
      refine .block ?_
      refine .loop (G := Nat) (fun k => Env.of [(73, .d (.v (.int .i64 (k : Int)))), (71, .own 930), (72, .d (.v (.int .i64 ((l.map Nt.ds).length : Int)))), (5, .d (.v (.string n.name))), (8, .d (.fp n.ds)), (0, .ptr 920 0)]) (fun k => [(930, .row 54 2 (l.map Nt.ds)), (920, .cells (rdS s false))]) (fun k => k ≤ l.length) (fun k => l.length - k) 0 (Nat.zero_le _) (Sub.less ⟨(SLe.of_eq rfl), SLe.refl _, SLe.refl _, SLe.refl _, SLe.refl _, SLe.refl _, trivial⟩ (fun p hp => by rcases List.mem_cons.1 hp with rfl | hp; exact (.tail _ (.head _)); rw [List.mem_singleton.1 hp]; exact (.head _))) ?_
      intro k hk
      refine .sr ?_
      refine .sA (.lss rfl rfl rfl) (.nil ?_)
      refine .seq ?_
      refine .cond rfl (fun h8 => ?_) (fun h8 => ?_)
      · replace h8 := of_decide_eq_true h8
        rw [List.length_map] at h8
        have hlt : k < l.length := by omega
        refine .skip ?_
        refine .seq ?_
        refine .block ?_
        refine .sr ?_
        refine .sA (.indexOwn rfl et_25 rfl rfl (.head _) k rfl (by rw [List.length_map]; exact hlt)) ?_
        refine .sA (.loadRowAgg rfl ag_54 rfl (.head _) k rfl (at_lst hlt)) ?_
        refine .alloc 932 rfl rfl rfl rfl zt_54 rfl rfl rfl ?_
        refine .store rfl rfl rfl sz_54 rfl (.head _) rfl rfl rfl (Nat.le_of_ble_eq_true rfl) ?_
        refine .freezeCells 10 (ds := l[k].ds) rfl (.head _) (.nil ?_)
        refine .sr ?_
        refine .sA (.fieldAddr rfl fo_54_0 rfl) ?_
        refine .sA (.load rfl sc_9 rfl) ?_
        refine .mA ?_
        refine .sA (.seql rfl rfl rfl) (.nil ?_)
        refine .cond rfl (fun h9 => ?_) (fun h9 => ?_)
        · replace h9 := of_decide_eq_true h9
          exact absurd h9 (hne _ (List.getElem_mem hlt))
        replace h9 := of_decide_eq_false h9
        refine .skip ?_
        refine .region ?_
        refine .sA (.add64 rfl rfl rfl (by omega) (by omega)) ?_
        refine .mA (.nil ?_)
        refine ⟨k + 1, (by omega), (by dsimp only; omega), Sub.less ⟨(SLe.of_eq rfl), SLe.refl _, SLe.refl _, SLe.refl _, SLe.refl _, SLe.refl _, trivial⟩ (fun p hp => by rcases List.mem_cons.1 hp with rfl | hp; exact (.head _); rw [List.mem_singleton.1 hp]; exact (.tail _ (.head _)))⟩
      replace h8 := of_decide_eq_false h8
      rw [List.length_map] at h8
      refine .exit ?_
      refine .seq ?_
      refine .drawLTail 8 [⟨933, [89]⟩] [(7, [89])] (fun τ => (920, Ob.cells (rdS s false)) ∈ τ) (by kernel_rfl) (by kernel_rfl) (by kernel_rfl) (by kernel_rfl) ?_
      skip
      refine .step rfl rfl rfl (.tail _ (.head _)) (fun τ hτ => AOp.moveP rfl rfl) ?_
      refine .step rfl rfl rfl (.tail _ (.head _)) (fun τ hτ => AOp.moveP rfl rfl) ?_
      refine .step rfl rfl rfl (.tail _ (.head _)) (fun τ hτ => AOp.nilCheckP rfl rfl) ?_
      refine .step rfl rfl rfl (.tail _ (.head _)) (fun τ hτ => AOp.fieldAddrP rfl fo_78_3 rfl) ?_
      refine .step rfl rfl rfl (.tail _ (.head _)) (fun τ hτ => AOp.loadP (s := .own 930) rfl sc_25 rfl hτ rfl) ?_
      refine .step rfl rfl rfl (.tail _ (.head _)) (fun τ hτ => AOp.loadAgg rfl ag_54 rfl rfl) ?_
      refine .step rfl rfl rfl (.tail _ (.head _)) (fun τ hτ => AOp.buildSlice rfl et_25 (.cons rfl rfl rfl .nil) rfl (by decide)) ?_
      refine .eff rfl rfl (.tail _ (.head _)) (.tail _ (.head _)) (GE.appendN 933 (.head _) (fun t h1 => by simp [h1]) rfl rfl rfl rfl et_25 rfl (.head _) rfl (fun y hy => by obtain rfl := List.mem_singleton.1 hy; rfl) (by simp; omega) (by simp; omega) rfl rfl) ?_ (fun p hp f hf => .inl (by obtain rfl := List.mem_singleton.1 hp; obtain rfl := List.mem_singleton.1 hf; rfl))
      refine .nil ?_
      refine .sA (.nilCheckP rfl rfl) ?_
      refine .sA (.fieldAddrP rfl fo_78_3 rfl) ?_
      refine .eff rfl rfl (.storeC rfl rfl sz_25 rfl (.tail _ (.head _)) rfl (.inl (OneS.own (.head _))) (Nat.le_of_ble_eq_true rfl)) (.nil ?_)
      refine .seq ?_
      refine .obsEq [(933, .row 54 2 ((l ++ [n]).map Nt.ds)), (920, .cells [.d (.v (.int .i64 s.rate)), .own 101, .d (.v (.int .i64 24)), .d (.v (.int .i64 (s.len : Int))), .own 933, .d (.v (.bool false))])] (by rw [List.map_append]; rfl) ?_
      refine .rename 933 930 [(930, .row 54 2 ((l ++ [n]).map Nt.ds)), (920, .cells (rdS s false))] (by decide) rfl (fun p hp => ?_) ?_
      · rcases List.mem_cons.1 hp with rfl | hp
        · exact .inl ⟨_, .head _, rfl, rfl⟩
        obtain rfl := List.mem_singleton.1 hp
        exact .inr ⟨_, .tail _ (.head _), Nat.ne_of_beq_eq_false rfl, Nat.ne_of_beq_eq_false rfl, rfl⟩
      refine .region ?_
      refine .aA (.nil ?_)
      refine .ret ?_
      refine ⟨⟨RetDX.eq rfl rfl, trivial⟩, AllIn.of fun p hp => hp⟩
    replace h4 := of_decide_eq_false h4
    exact absurd h4 (by decide)
  replace g3 := of_decide_eq_false g3
  exact absurd rfl g3

end Go.Proofs.YtagdgclfnbiahaaDoor
