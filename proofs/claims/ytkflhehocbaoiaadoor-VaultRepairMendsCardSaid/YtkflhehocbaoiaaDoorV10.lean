/- Walks over abstract values. Printed by tools/gen.py. No statement of the seat. -/
import Derived.Test.YtkflhehocbaoiaaDoorV9
namespace Go.Proofs.YtkflhehocbaoiaaDoor
open Go.RowKit
set_option linter.unusedVariables false

/-! Types. -/
namespace TyV10
theorem ag_25 : AggT Tryd.prog 25 4 := .of (by kernel_rfl)
theorem et_22 : ElemTy Tryd.prog 22 5 1 1 (.int .u8 0) := ⟨by kernel_rfl, by kernel_rfl, by kernel_rfl, by decide⟩
theorem et_33 : ElemTy Tryd.prog 33 22 1 24 (.slice none 0 0) := ⟨by kernel_rfl, by kernel_rfl, by kernel_rfl, by decide⟩
theorem et_34 : ElemTy Tryd.prog 34 3 1 8 (.int .i64 0) := ⟨by kernel_rfl, by kernel_rfl, by kernel_rfl, by decide⟩
theorem sc_22 : Scal Tryd.prog 22 := .of (by kernel_rfl)
theorem sc_3 : Scal Tryd.prog 3 := .of (by kernel_rfl)
theorem sz_25 : ∀ w, (sizeOf 25).run Tryd.prog w = .ok 4 w := SizeT.of (by kernel_rfl)
theorem zt_25 : (Tryd.prog.info? 25).bind (·.zero) = some (.agg #[(.string ⟨#[]⟩), (.int .i64 0), (.int .i64 0), (.slice none 0 0)]) := by kernel_rfl
end TyV10
open TyV10


theorem repB_len_eq {n b : Nat} {sums : List Nat} {cs : List (List UInt8)} {i : Nat} (hi : i * b < n) : (repB n b sums cs i).length = min b (n - i * b) := by
  unfold repB
  split
  · rename_i c hc
    have h := List.find?_some hc
    simp only [rightB, Bool.and_eq_true, decide_eq_true_eq] at h
    have h1 := h.1
    rw [min_nat n b i (by omega)] at h1
    omega
  · simp
theorem nblk_hi {n b k : Nat} (hb : 1 ≤ b) (hk : k < nblk n b) : k * b < n := (nblk_lt n b k hb).2 hk
theorem nblk_cover (n b : Nat) (hb : 1 ≤ b) : n ≤ nblk n b * b := by
  have := nblk_lt n b (nblk n b) hb
  omega
theorem outOf_length {n b : Nat} {sums : List Nat} {cs : List (List UInt8)} (hb : 1 ≤ b) : ∀ k, k ≤ nblk n b → (outOf n b sums cs k).length = min (k * b) n
  | 0, _ => by simp [outOf]
  | k + 1, h => by
    have h1 := nblk_hi (n := n) (b := b) (k := k) hb (by omega)
    rw [outOf_succ, List.length_append, outOf_length hb k (by omega), repB_len_eq h1, Nat.add_mul]
    omega
theorem chunk_out {n b : Nat} {sums : List Nat} {cs : List (List UInt8)} (hb : 1 ≤ b) : ∀ K, K ≤ nblk n b → ∀ i, i < K → chunk (outOf n b sums cs K) b i = repB n b sums cs i
  | 0, _, i, hi => by omega
  | K + 1, h, i, hi => by
    have h1 := nblk_hi (n := n) (b := b) (k := K) hb (by omega)
    have hl := outOf_length (n := n) (b := b) (sums := sums) (cs := cs) hb K (by omega)
    rw [outOf_succ]
    by_cases hik : i < K
    · rw [← chunk_out hb K (by omega) i hik]
      have h2 : i * b + b ≤ K * b := by rw [← Nat.succ_mul]; exact Nat.mul_le_mul_right _ hik
      unfold chunk
      rw [List.drop_append_of_le_length (by omega), List.take_append_of_le_length (by rw [List.length_drop]; omega)]
    · have : i = K := by omega
      subst this
      unfold chunk
      rw [List.drop_append, List.drop_eq_nil_of_le (by omega), List.nil_append, hl, show i * b - min (i * b) n = 0 by omega, List.drop_zero, List.take_of_length_le]
      rw [repB_len_eq h1]; omega
theorem mends {m : Man} {cs : List (List UInt8)} (h : (repRes m cs).2.2 = 0) : damRes m (repRes m cs).1 = ((repRes m cs).2.1, 0) ∧ ∀ c ∈ cs, (damRes m c).2 = 0 ∧ ∀ i ∈ (repRes m cs).2.1, i ∈ (damRes m c).1 := by
  have h0 : manFault m = 0 := by
    by_cases hc : manFault m = 0
    · exact hc
    · unfold repRes at h; rw [if_pos hc] at h; exact h
  have h1 : ¬ (cs.length : Int) = 0 := fun hc => by unfold repRes at h; rw [if_neg (by simpa using h0), if_pos hc] at h; simp at h
  have h2 : ¬ 20 < (cs.length : Int) := fun hc => by unfold repRes at h; rw [if_neg (by simpa using h0), if_neg h1, if_pos hc] at h; simp at h
  have h3 : anyLarge cs = false := by
    cases ha : anyLarge cs with
    | false => rfl
    | true => unfold repRes at h; rw [if_neg (by simpa using h0), if_neg h1, if_neg h2, if_pos ha] at h; simp at h
  obtain ⟨n, b, hm, hb1, hb2, hn, hl, hl2⟩ := man_good h0
  obtain ⟨item, sz, bk, sums⟩ := m
  simp only [Man.mk.injEq, true_and, and_true] at hm
  obtain ⟨rfl, rfl⟩ := hm
  dsimp only at hl hl2
  rw [repRes_good item n b sums cs h0 h1 h2 h3]
  dsimp only
  have hlen : (outOf n b sums cs sums.length).length = n := by
    rw [outOf_length hb1 _ (by omega), hl2]
    have := nblk_cover n b hb1
    omega
  refine ⟨?_, fun c hc => ?_⟩
  · rw [damRes_good item n b sums _ h0 (by omega), if_neg (by omega), List.append_nil]
    congr 1
    unfold badOf wrongOf
    apply List.filter_congr
    intro i hi
    have hi' : i < sums.length := by simpa using hi
    have hin := nblk_hi (n := n) (b := b) (k := i) hb1 (by omega)
    have hch := chunk_out (n := n) (b := b) (sums := sums) (cs := cs) hb1 sums.length (by omega) i hi'
    have ht : (outOf n b sums cs sums.length).take n = outOf n b sums cs sums.length := List.take_of_length_le (by omega)
    unfold rightB
    rw [ht, hch, min_nat n b i (by omega), repB_len_eq hin]
    simp
  · have hcl : ¬ 40000 < (c.length : Int) := fun hh => by
      have : anyLarge cs = true := by unfold anyLarge; rw [List.any_eq_true]; exact ⟨c, hc, decide_eq_true hh⟩
      rw [this] at h3; simp at h3
    rw [damRes_good item n b sums c h0 hcl]
    refine ⟨rfl, fun i hi => ?_⟩
    unfold wrongOf at hi
    rw [List.mem_filter] at hi
    obtain ⟨hi1, hi2⟩ := hi
    apply List.mem_append_left
    unfold badOf
    rw [List.mem_filter]
    refine ⟨hi1, ?_⟩
    cases hr : rightB n b sums (c.take n) i with
    | false => rfl
    | true =>
      exfalso
      cases hf : cs.find? (fun c => rightB n b sums (c.take n) i) with
      | none =>
        rw [List.find?_eq_none] at hf
        exact hf c hc hr
      | some c' =>
        have hs' : rightB n b sums (c'.take n) i = true := by have := List.find?_some hf; simpa using this
        have h5 := right_fnv hs'
        have h6 : repB n b sums cs i = chunk (c'.take n) b i := by unfold repB; rw [hf]
        rw [h6, h5] at hi2
        simp at hi2
theorem repRes_fault {m : Man} {cs : List (List UInt8)} (h : (repRes m cs).2.2 ≠ 0) : (repRes m cs).1 = [] ∧ (repRes m cs).2.1 = [] := by
  unfold repRes at h ⊢
  repeat' split
  all_goals first | exact ⟨rfl, rfl⟩ | (exfalso; simp_all)
theorem makeRes_item (item : ByteArray) (bs : List UInt8) (block : Int) (hs : item.size ≤ 9223372036854775807) : (makeRes item bs block).1.item.size ≤ 9223372036854775807 := by
  unfold makeRes
  repeat' split
  all_goals first | exact hs | (show (0 : Nat) ≤ _; omega)
def idxI (l : List Nat) (x : Nat) : Int := if x ∈ l then (l.idxOf x : Int) else -1
theorem at_nat {l : List Nat} {k : Nat} (h : k < l.length) : (l.map natD)[k]? = some (natD l[k]) := at_map h
theorem idxI_yes {l : List Nat} {x k : Nat} (hk : k < l.length) (h : ∀ c ∈ l.take k, decide (x = c) = false) (h2 : x = l[k]) : idxI l x = k := by
  have hm : x ∈ l := by rw [h2]; exact List.getElem_mem hk
  unfold idxI
  rw [if_pos hm]
  have h3 : l.idxOf x = k := by
    have e : l = l.take k ++ l[k] :: l.drop (k + 1) := by rw [← List.drop_eq_getElem_cons hk, List.take_append_drop]
    have hn : x ∉ l.take k := fun hx => by have := h x hx; simp at this
    have h4 : (l.take k ++ l[k] :: l.drop (k + 1)).idxOf x = k := by
      rw [List.idxOf_append, if_neg hn, ← h2]
      simp
      omega
    rw [← e] at h4
    exact h4
  rw [h3]
theorem idxI_no {l : List Nat} {x : Nat} (h : ∀ c ∈ l.take l.length, decide (x = c) = false) : idxI l x = -1 := by
  unfold idxI
  rw [if_neg]
  intro hx
  have := h x (by rw [List.take_length]; exact hx)
  simp at this


set_option maxRecDepth 100000 in
set_option maxHeartbeats 1000000 in
theorem c_indexInt (l : List Nat) (x : Nat) : ACall Tryd.prog 34 [.sl (l.map natD), .v (.int .i64 (x : Int))] (.v (.int .i64 (idxI l x))) := by
  refine acall_of (n := 19) (ds' := [.v (.int .i64 (idxI l x))]) Tryd.func34 rfl (by kernel_rfl) rfl [4] rfl rfl ?_
  intro B w0 F0
  refine AWP.bound 0 rfl (fun hbd0 => ?_)
  rw [List.length_map] at hbd0
  refine AWP.seq ?_
  refine AWP.region ?_
  refine AOps.step rfl rfl rfl (AOp.assignD rfl rfl) ?_
  refine AOps.nil ?_
  refine AWP.seq ?_
  refine AWP.seq ?_
  refine AWP.region ?_
  refine AOps.step rfl rfl rfl (AOp.moveD rfl rfl) ?_
  refine AOps.step rfl rfl rfl (AOp.lenSl rfl et_34.ht rfl) ?_
  refine AOps.step rfl rfl rfl (AOp.moveD rfl rfl) ?_
  refine AOps.nil ?_
  refine AWP.block ?_
  refine AWP.loop (G := Nat) (fun k => Env.of [(8, .d (.v (.int .i64 (k : Int)))), (6, .d (.sl (l.map natD))), (7, .d (.v (.int .i64 ((l.map natD).length : Int)))), (0, .d (.sl (l.map natD))), (1, .d (.v (.int .i64 (x : Int))))]) (fun k => []) (fun k => k ≤ l.length ∧ ∀ c ∈ l.take k, decide (x = c) = false) (fun k => l.length - k) 0 ⟨Nat.zero_le _, fun c h => by simp at h⟩ (Sub.less ⟨(SLe.of_eq rfl), SLe.refl _, SLe.refl _, SLe.refl _, SLe.refl _, trivial⟩ (fun _ h => h)) ?_
  intro k hk
  refine AWP.seq ?_
  refine AWP.region ?_
  refine AOps.step rfl rfl rfl (AOp.lss rfl rfl rfl) ?_
  refine AOps.nil ?_
  refine AWP.seq ?_
  refine AWP.cond rfl (fun h1 => ?_) (fun h1 => ?_)
  · replace h1 := of_decide_eq_true h1
    rw [List.length_map] at h1
    have hlt : k < l.length := by omega
    refine AWP.skip ?_
    refine AWP.seq ?_
    refine AWP.block ?_
    refine AWP.seq ?_
    refine AWP.region ?_
    refine AOps.step rfl rfl rfl (AOp.moveD rfl rfl) ?_
    refine AOps.step rfl rfl rfl (AOp.assignD rfl rfl) ?_
    refine AOps.nil ?_
    refine AWP.seq ?_
    refine AWP.region ?_
    refine AOps.step rfl rfl rfl (AOp.moveD rfl rfl) ?_
    refine AOps.step rfl rfl rfl (AOp.moveD rfl rfl) ?_
    refine AOps.step rfl rfl rfl (AOp.moveD rfl rfl) ?_
    refine AOps.step rfl rfl rfl (AOp.indexAddr rfl et_34 rfl rfl k rfl (at_nat hlt) rfl) ?_
    refine AOps.step rfl rfl rfl (AOp.load rfl sc_3 rfl) ?_
    refine AOps.step rfl rfl rfl (AOp.eql rfl rfl rfl) ?_
    refine AOps.nil ?_
    refine AWP.cond rfl (fun h2 => ?_) (fun h2 => ?_)
    · replace h2 := of_decide_eq_true h2
      rw [idxI_yes hlt hk.2 (by omega)]
      refine AWP.seq ?_
      refine AWP.region ?_
      refine AOps.step rfl rfl rfl (AOp.moveD rfl rfl) ?_
      refine AOps.step rfl rfl rfl (AOp.assignD rfl rfl) ?_
      refine AOps.nil ?_
      refine AWP.ret ?_
      refine ⟨RetD.eq rfl ?_, trivial⟩
      all_goals (rfl)
    · replace h2 := of_decide_eq_false h2
      have hT := take_false (p := fun c => decide (x = c)) hlt hk.2 (decide_eq_false (by omega))
      refine AWP.skip ?_
      refine AWP.region ?_
      refine AOps.step rfl rfl rfl (AOp.add64 rfl rfl rfl (by omega) (by omega)) ?_
      refine AOps.step rfl rfl rfl (AOp.moveD rfl rfl) ?_
      refine AOps.nil ?_
      refine ⟨k + 1, ⟨by omega, hT⟩, (by dsimp only; omega), Sub.less ⟨(SLe.of_eq rfl), SLe.refl _, SLe.refl _, SLe.refl _, SLe.refl _, trivial⟩ (fun _ h => h)⟩
  · replace h1 := of_decide_eq_false h1
    rw [List.length_map] at h1
    rw [idxI_no (fun c hc => hk.2 c (by rw [show k = l.length by omega]; exact hc))]
    refine AWP.exit ?_
    refine AWP.seq ?_
    refine AWP.region ?_
    refine AOps.step rfl rfl rfl (AOp.assignD rfl rfl) ?_
    refine AOps.nil ?_
    refine AWP.ret ?_
    refine ⟨RetD.eq rfl ?_, trivial⟩
    all_goals (rfl)

set_option maxRecDepth 100000 in
set_option maxHeartbeats 1000000 in
theorem c_containsInt (l : List Nat) (x : Nat) : ACall Tryd.prog 19 [.sl (l.map natD), .v (.int .i64 (x : Int))] (.v (.bool (decide (x ∈ l)))) := by
  refine acall_of (n := 9) (ds' := [.v (.bool (decide (x ∈ l)))]) Tryd.func19 rfl (by kernel_rfl) rfl [4] rfl rfl ?_
  intro B w0 F0
  refine AWP.seq ?_
  refine AWP.region ?_
  refine AOps.step rfl rfl rfl (AOp.assignD rfl rfl) ?_
  refine AOps.nil ?_
  refine AWP.seq ?_
  refine AWP.region ?_
  refine AOps.step rfl rfl rfl (AOp.moveD rfl rfl) ?_
  refine AOps.step rfl rfl rfl (AOp.moveD rfl rfl) ?_
  refine AOps.step rfl rfl rfl (AOp.call rfl (.cons (ArgOk.rfl' rfl) (.cons (ArgOk.rfl' rfl) .nil)) (c_indexInt _ _)) ?_
  refine AOps.step rfl rfl rfl (AOp.geq rfl rfl rfl) ?_
  refine AOps.step rfl rfl rfl (AOp.assignD rfl rfl) ?_
  refine AOps.nil ?_
  refine AWP.ret ?_
  refine ⟨RetD.eq rfl ?_, trivial⟩
  all_goals (unfold idxI; by_cases h : x ∈ l <;> simp [h])

set_option maxRecDepth 100000 in
set_option maxHeartbeats 1000000 in
theorem c_awake  : ACall Tryd.prog 18 [] (.v (.bool true)) := by
  refine acall_of (n := 3) (ds' := [.v (.bool true)]) Tryd.func18 rfl (by kernel_rfl) rfl [0] rfl rfl ?_
  intro B w0 F0
  refine AWP.seq ?_
  refine AWP.region ?_
  refine AOps.step rfl rfl rfl (AOp.assignD rfl rfl) ?_
  refine AOps.nil ?_
  refine AWP.seq ?_
  refine AWP.region ?_
  refine AOps.step rfl rfl rfl (AOp.call rfl (.cons (ArgOk.nil rfl) .nil) (c_pSum [])) ?_
  refine AOps.step rfl rfl rfl (AOp.eql rfl rfl rfl) ?_
  refine AOps.step rfl rfl rfl (AOp.assignD rfl rfl) ?_
  refine AOps.nil ?_
  refine AWP.ret ?_
  refine ⟨RetD.eq rfl ?_, trivial⟩
  all_goals (simp [fnv, fseed])

set_option maxRecDepth 100000 in
set_option maxHeartbeats 1000000 in
theorem c_makeFault (item : ByteArray) (bs : List UInt8) (block : Int) (hs : item.size ≤ 9223372036854775807) : ACall Tryd.prog 17 [.v (.string item), .sl (bs.map u8D), .v (.int .i64 block)] (.v (.int .i64 (makeRes item bs block).2)) := by
  refine acall_of (n := 17) (ds' := [.v (.int .i64 (makeRes item bs block).2)]) Tryd.func17 rfl (by kernel_rfl) rfl [6] rfl rfl ?_
  intro B w0 F0
  refine AWP.seq ?_
  refine AWP.region ?_
  refine AOps.step rfl rfl rfl (AOp.assignD rfl rfl) ?_
  refine AOps.nil ?_
  refine AWP.seq ?_
  refine AWP.region ?_
  refine AOps.step rfl rfl rfl (AOp.moveD rfl rfl) ?_
  refine AOps.step rfl rfl rfl (AOp.moveD rfl rfl) ?_
  refine AOps.step rfl rfl rfl (AOp.moveD rfl rfl) ?_
  refine AOps.step rfl rfl rfl (AOp.call rfl (.cons (ArgOk.rfl' rfl) (.cons (ArgOk.rfl' rfl) (.cons (ArgOk.rfl' rfl) .nil))) (c_rMake item bs block hs)) ?_
  refine AOps.step rfl rfl rfl (AOp.moveD rfl rfl) ?_
  refine AOps.step rfl rfl rfl (AOp.extract rfl rfl rfl) ?_
  refine AOps.step rfl rfl rfl (AOp.extract rfl rfl rfl) ?_
  refine AOps.alloc 101 rfl rfl rfl rfl zt_25 rfl rfl rfl ?_
  refine AOps.store rfl rfl rfl sz_25 rfl (.head _) rfl rfl rfl (Nat.le_of_ble_eq_true rfl) ?_
  refine AOps.step rfl rfl rfl (AOp.assignD rfl rfl) ?_
  refine AOps.nil ?_
  refine AWP.seq ?_
  refine AWP.region ?_
  refine AOps.step rfl rfl rfl (AOp.moveD rfl rfl) ?_
  refine AOps.step rfl rfl rfl (AOp.assignD rfl rfl) ?_
  refine AOps.nil ?_
  refine AWP.ret ?_
  refine ⟨RetD.eq rfl ?_, trivial⟩
  all_goals (rfl)

set_option maxRecDepth 100000 in
set_option maxHeartbeats 1000000 in
theorem lawMends (item : ByteArray) (bs : List UInt8) (block : Int) (cs : List (List UInt8)) (hs : item.size ≤ 9223372036854775807) : ACall Tryd.prog 5 [.v (.string item), .sl (bs.map u8D), .v (.int .i64 block), .sl (cs.map (slD u8D))] (.v (.bool true)) := by
  refine acall_of (n := 96) (ds' := [.v (.bool true)]) Tryd.func5 rfl (by kernel_rfl) rfl [8] rfl rfl ?_
  intro B w0 F0
  refine AWP.bound 3 rfl (fun hbd3 => ?_)
  rw [List.length_map] at hbd3
  refine AWP.seq ?_
  refine AWP.region ?_
  refine AOps.step rfl rfl rfl (AOp.assignD rfl rfl) ?_
  refine AOps.nil ?_
  refine AWP.seq ?_
  refine AWP.region ?_
  refine AOps.step rfl rfl rfl (AOp.moveD rfl rfl) ?_
  refine AOps.step rfl rfl rfl (AOp.moveD rfl rfl) ?_
  refine AOps.step rfl rfl rfl (AOp.moveD rfl rfl) ?_
  refine AOps.step rfl rfl rfl (AOp.call rfl (.cons (ArgOk.rfl' rfl) (.cons (ArgOk.rfl' rfl) (.cons (ArgOk.rfl' rfl) .nil))) (c_pMake item bs block hs)) ?_
  refine AOps.step rfl rfl rfl (AOp.moveD rfl rfl) ?_
  refine AOps.step rfl rfl rfl (AOp.extract rfl rfl rfl) ?_
  refine AOps.step rfl rfl rfl (AOp.extract rfl rfl rfl) ?_
  refine AOps.alloc 101 rfl rfl rfl rfl zt_25 rfl rfl rfl ?_
  refine AOps.store rfl rfl rfl sz_25 rfl (.head _) rfl rfl rfl (Nat.le_of_ble_eq_true rfl) ?_
  refine AOps.step rfl rfl rfl (AOp.assignD rfl rfl) ?_
  refine AOps.nil ?_
  refine AWP.seq ?_
  refine AWP.seq ?_
  refine AWP.region ?_
  refine AOps.step rfl rfl rfl (AOp.moveD rfl rfl) ?_
  refine AOps.step rfl rfl rfl (AOp.neq rfl rfl rfl) ?_
  refine AOps.nil ?_
  refine AWP.cond rfl (fun h1 => ?_) (fun h1 => ?_)
  · replace h1 := of_decide_eq_true h1
    refine AWP.seq ?_
    refine AWP.region ?_
    refine AOps.step rfl rfl rfl (AOp.moveD rfl rfl) ?_
    refine AOps.step rfl rfl rfl (AOp.moveD rfl rfl) ?_
    refine AOps.step rfl rfl rfl (AOp.moveD rfl rfl) ?_
    refine AOps.step rfl rfl rfl (AOp.moveD rfl rfl) ?_
    refine AOps.step rfl rfl rfl (AOp.call rfl (.cons (ArgOk.rfl' rfl) (.cons (ArgOk.rfl' rfl) (.cons (ArgOk.rfl' rfl) .nil))) (c_makeFault item bs block hs)) ?_
    refine AOps.step rfl rfl rfl (AOp.eql rfl rfl rfl) ?_
    refine AOps.step rfl rfl rfl (AOp.assignD rfl rfl) ?_
    refine AOps.nil ?_
    refine AWP.ret ?_
    refine ⟨RetD.eq rfl ?_, trivial⟩
    all_goals (first | rfl | simp)
  · replace h1 := of_decide_eq_false h1
    have hm := makeRes_item item bs block hs
    generalize (makeRes item bs block).1 = m at *
    refine AWP.skip ?_
    refine AWP.seq ?_
    refine AWP.region ?_
    refine AOps.step rfl rfl rfl (AOp.loadPU rfl ag_25 rfl (.head _) rfl rfl) ?_
    refine AOps.step rfl rfl rfl (AOp.moveD rfl rfl) ?_
    refine AOps.step rfl rfl rfl (AOp.call rfl (.cons (ArgOk.rfl' rfl) (.cons (ArgOk.rfl' rfl) .nil)) (c_pRep m cs hm)) ?_
    refine AOps.step rfl rfl rfl (AOp.moveD rfl rfl) ?_
    refine AOps.step rfl rfl rfl (AOp.extract rfl rfl rfl) ?_
    refine AOps.step rfl rfl rfl (AOp.extract rfl rfl rfl) ?_
    refine AOps.step rfl rfl rfl (AOp.extract rfl rfl rfl) ?_
    refine AOps.step rfl rfl rfl (AOp.assignD rfl rfl) ?_
    refine AOps.step rfl rfl rfl (AOp.assignD rfl rfl) ?_
    refine AOps.step rfl rfl rfl (AOp.assignD rfl rfl) ?_
    refine AOps.nil ?_
    refine AWP.seq ?_
    refine AWP.seq ?_
    refine AWP.region ?_
    refine AOps.step rfl rfl rfl (AOp.moveD rfl rfl) ?_
    refine AOps.step rfl rfl rfl (AOp.neq rfl rfl rfl) ?_
    refine AOps.nil ?_
    refine AWP.cond rfl (fun h2 => ?_) (fun h2 => ?_)
    · replace h2 := of_decide_eq_true h2
      obtain ⟨he1, he2⟩ := repRes_fault h2
      rw [he1, he2]
      refine AWP.seq ?_
      refine AWP.region ?_
      refine AOps.step rfl rfl rfl (AOp.moveD rfl rfl) ?_
      refine AOps.step rfl rfl rfl (AOp.lenSl rfl et_22.ht rfl) ?_
      refine AOps.step rfl rfl rfl (AOp.eql rfl rfl rfl) ?_
      refine AOps.step rfl rfl rfl (AOp.moveD rfl rfl) ?_
      refine AOps.split 47 rfl (fun g3 => ?_) (fun g3 => ?_)
      · replace g3 := of_decide_eq_true g3
        refine AOps.step ⟨47, rfl, .inl ⟨_, rfl, rfl⟩⟩ rfl rfl (AOp.moveD rfl rfl) ?_
        refine AOps.step ⟨47, rfl, .inl ⟨_, rfl, rfl⟩⟩ rfl rfl (AOp.lenSl rfl et_34.ht rfl) ?_
        refine AOps.step ⟨47, rfl, .inl ⟨_, rfl, rfl⟩⟩ rfl rfl (AOp.eql rfl rfl rfl) ?_
        refine AOps.step rfl rfl rfl (AOp.pickT rfl rfl rfl) ?_
        refine AOps.step rfl rfl rfl (AOp.assignD rfl rfl) ?_
        refine AOps.nil ?_
        refine AWP.ret ?_
        refine ⟨RetD.eq rfl ?_, trivial⟩
        all_goals (first | rfl | simp)
      · replace g3 := of_decide_eq_false g3
        exact absurd rfl g3
    · replace h2 := of_decide_eq_false h2
      obtain ⟨HD, HC⟩ := mends (Decidable.not_not.1 h2)
      generalize (repRes m cs).1 = out at *
      generalize (repRes m cs).2.1 = bad at *
      refine AWP.skip ?_
      refine AWP.seq ?_
      refine AWP.region ?_
      refine AOps.step rfl rfl rfl (AOp.loadPU rfl ag_25 rfl (.head _) rfl rfl) ?_
      refine AOps.step rfl rfl rfl (AOp.moveD rfl rfl) ?_
      refine AOps.step rfl rfl rfl (AOp.call rfl (.cons (ArgOk.rfl' rfl) (.cons (ArgOk.rfl' rfl) .nil)) (by have := c_pDam m out hm; rw [HD] at this; exact this)) ?_
      refine AOps.step rfl rfl rfl (AOp.moveD rfl rfl) ?_
      refine AOps.step rfl rfl rfl (AOp.extract rfl rfl rfl) ?_
      refine AOps.step rfl rfl rfl (AOp.extract rfl rfl rfl) ?_
      refine AOps.step rfl rfl rfl (AOp.assignD rfl rfl) ?_
      refine AOps.step rfl rfl rfl (AOp.assignD rfl rfl) ?_
      refine AOps.nil ?_
      refine AWP.seq ?_
      refine AWP.seq ?_
      refine AWP.region ?_
      refine AOps.step rfl rfl rfl (AOp.moveD rfl rfl) ?_
      refine AOps.step rfl rfl rfl (AOp.neq rfl rfl rfl) ?_
      refine AOps.step rfl rfl rfl (AOp.moveD rfl rfl) ?_
      refine AOps.split 60 rfl (fun g4 => ?_) (fun g4 => ?_)
      · replace g4 := of_decide_eq_true g4
        exact absurd rfl g4
      · replace g4 := of_decide_eq_false g4
        refine AOps.step ⟨60, rfl, .inl ⟨_, rfl, rfl⟩⟩ rfl rfl (AOp.moveD rfl rfl) ?_
        refine AOps.step ⟨60, rfl, .inl ⟨_, rfl, rfl⟩⟩ rfl rfl (AOp.moveD rfl rfl) ?_
        refine AOps.step ⟨60, rfl, .inl ⟨_, rfl, rfl⟩⟩ rfl rfl (AOp.call rfl (.cons (ArgOk.rfl' rfl) (.cons (ArgOk.rfl' rfl) .nil)) (c_eqInt _ (natD_int _))) ?_
        refine AOps.step ⟨60, rfl, .inl ⟨_, rfl, rfl⟩⟩ rfl rfl (AOp.not rfl rfl) ?_
        refine AOps.step rfl rfl rfl (AOp.pickF rfl rfl rfl) ?_
        refine AOps.step rfl rfl rfl (AOp.moveD rfl rfl) ?_
        refine AOps.step ⟨66, rfl, .inl ⟨_, rfl, rfl⟩⟩ rfl rfl (AOp.call rfl .nil (c_awake)) ?_
        refine AOps.step ⟨66, rfl, .inl ⟨_, rfl, rfl⟩⟩ rfl rfl (AOp.not rfl rfl) ?_
        refine AOps.step rfl rfl rfl (AOp.pickF rfl rfl rfl) ?_
        refine AOps.nil ?_
        refine AWP.cond rfl (fun h => nomatch h) (fun _ => ?_)
        refine AWP.skip ?_
        refine AWP.seq ?_
        refine AWP.seq ?_
        refine AWP.bound 12 rfl (fun hbd12 => ?_)
        rw [List.length_map] at hbd12
        refine AWP.region ?_
        refine AOps.step rfl rfl rfl (AOp.moveD rfl rfl) ?_
        refine AOps.step rfl rfl rfl (AOp.lenSl rfl et_33.ht rfl) ?_
        refine AOps.step rfl rfl rfl (AOp.moveD rfl rfl) ?_
        refine AOps.nil ?_
        refine AWP.block ?_
        refine AWP.loop (G := Nat) (fun k => Env.of [(72, .d (.v (.int .i64 (k : Int)))), (70, .d (.sl (cs.map (slD u8D)))), (71, .d (.v (.int .i64 ((cs.map (slD u8D)).length : Int)))), (12, .d (.sl (bad.map natD))), (9, .ptr 101 0)]) (fun k => [(101, .cells (m.ds.map S.d))]) (fun k => k ≤ cs.length) (fun k => cs.length - k) 0 (Nat.zero_le _) (Sub.less ⟨(SLe.of_eq rfl), SLe.refl _, SLe.refl _, SLe.refl _, SLe.refl _, trivial⟩ (fun _ h => h)) ?_
        intro k hk
        refine AWP.seq ?_
        refine AWP.region ?_
        refine AOps.step rfl rfl rfl (AOp.lss rfl rfl rfl) ?_
        refine AOps.nil ?_
        refine AWP.seq ?_
        refine AWP.cond rfl (fun h5 => ?_) (fun h5 => ?_)
        · replace h5 := of_decide_eq_true h5
          rw [List.length_map] at h5
          have hlt : k < cs.length := by omega
          obtain ⟨hc1, hc2⟩ := HC _ (List.getElem_mem hlt)
          refine AWP.skip ?_
          refine AWP.seq ?_
          refine AWP.block ?_
          refine AWP.seq ?_
          refine AWP.region ?_
          refine AOps.step rfl rfl rfl (AOp.indexAddr rfl et_33 rfl rfl k rfl (at_map hlt) rfl) ?_
          refine AOps.step rfl rfl rfl (AOp.load rfl sc_22 rfl) ?_
          refine AOps.step rfl rfl rfl (AOp.assignD rfl rfl) ?_
          refine AOps.nil ?_
          refine AWP.seq ?_
          refine AWP.region ?_
          refine AOps.step rfl rfl rfl (AOp.loadPU rfl ag_25 rfl (.head _) rfl rfl) ?_
          refine AOps.step rfl rfl rfl (AOp.moveD rfl rfl) ?_
          refine AOps.step rfl rfl rfl (AOp.call rfl (.cons (ArgOk.rfl' rfl) (.cons (ArgOk.rfl' rfl) .nil)) (c_pDam m cs[k] hm)) ?_
          refine AOps.step rfl rfl rfl (AOp.moveD rfl rfl) ?_
          refine AOps.step rfl rfl rfl (AOp.extract rfl rfl rfl) ?_
          refine AOps.step rfl rfl rfl (AOp.extract rfl rfl rfl) ?_
          refine AOps.step rfl rfl rfl (AOp.assignD rfl rfl) ?_
          refine AOps.step rfl rfl rfl (AOp.assignD rfl rfl) ?_
          refine AOps.nil ?_
          refine AWP.seq ?_
          refine AWP.seq ?_
          refine AWP.region ?_
          refine AOps.step rfl rfl rfl (AOp.moveD rfl rfl) ?_
          refine AOps.step rfl rfl rfl (AOp.neq rfl rfl rfl) ?_
          refine AOps.nil ?_
          refine AWP.cond rfl (fun h6 => ?_) (fun h6 => ?_)
          · replace h6 := of_decide_eq_true h6
            exact absurd hc1 h6
          · replace h6 := of_decide_eq_false h6
            refine AWP.skip ?_
            refine AWP.seq ?_
            refine AWP.region ?_
            refine AOps.step rfl rfl rfl (AOp.moveD rfl rfl) ?_
            refine AOps.step rfl rfl rfl (AOp.lenSl rfl et_34.ht rfl) ?_
            refine AOps.step rfl rfl rfl (AOp.moveD rfl rfl) ?_
            refine AOps.nil ?_
            refine AWP.block ?_
            refine AWP.loop (G := Nat) (fun q => Env.of [(86, .d (.v (.int .i64 (q : Int)))), (84, .d (.sl (bad.map natD))), (85, .d (.v (.int .i64 ((bad.map natD).length : Int)))), (16, .d (.sl ((damRes m cs[k]).1.map natD))), (70, .d (.sl (cs.map (slD u8D)))), (71, .d (.v (.int .i64 ((cs.map (slD u8D)).length : Int)))), (72, .d (.v (.int .i64 (k : Int)))), (12, .d (.sl (bad.map natD))), (9, .ptr 101 0)]) (fun q => [(101, .cells (m.ds.map S.d))]) (fun q => q ≤ bad.length) (fun q => bad.length - q) 0 (Nat.zero_le _) (Sub.less ⟨(SLe.of_eq rfl), SLe.refl _, SLe.refl _, SLe.refl _, SLe.refl _, SLe.refl _, SLe.refl _, SLe.refl _, SLe.refl _, trivial⟩ (fun _ h => h)) ?_
            intro q hq
            refine AWP.seq ?_
            refine AWP.region ?_
            refine AOps.step rfl rfl rfl (AOp.lss rfl rfl rfl) ?_
            refine AOps.nil ?_
            refine AWP.seq ?_
            refine AWP.cond rfl (fun h7 => ?_) (fun h7 => ?_)
            · replace h7 := of_decide_eq_true h7
              rw [List.length_map] at h7
              have hlt2 : q < bad.length := by omega
              have hq2 := hc2 _ (List.getElem_mem hlt2)
              refine AWP.skip ?_
              refine AWP.seq ?_
              refine AWP.block ?_
              refine AWP.seq ?_
              refine AWP.region ?_
              refine AOps.step rfl rfl rfl (AOp.indexAddr rfl et_34 rfl rfl q rfl (at_nat hlt2) rfl) ?_
              refine AOps.step rfl rfl rfl (AOp.load rfl sc_3 rfl) ?_
              refine AOps.step rfl rfl rfl (AOp.assignD rfl rfl) ?_
              refine AOps.nil ?_
              refine AWP.seq ?_
              refine AWP.region ?_
              refine AOps.step rfl rfl rfl (AOp.moveD rfl rfl) ?_
              refine AOps.step rfl rfl rfl (AOp.moveD rfl rfl) ?_
              refine AOps.step rfl rfl rfl (AOp.call rfl (.cons (ArgOk.rfl' rfl) (.cons (ArgOk.rfl' rfl) .nil)) (c_containsInt (damRes m cs[k]).1 bad[q])) ?_
              refine AOps.step rfl rfl rfl (AOp.not rfl rfl) ?_
              refine AOps.nil ?_
              refine AWP.cond rfl (fun h8 => ?_) (fun h8 => ?_)
              · replace h8 := bnot_t h8; replace h8 := of_decide_eq_false h8
                exact absurd hq2 h8
              · replace h8 := bnot_f h8; replace h8 := of_decide_eq_true h8
                refine AWP.skip ?_
                refine AWP.region ?_
                refine AOps.step rfl rfl rfl (AOp.add64 rfl rfl rfl (by omega) (by omega)) ?_
                refine AOps.step rfl rfl rfl (AOp.moveD rfl rfl) ?_
                refine AOps.nil ?_
                refine ⟨q + 1, (by omega), (by dsimp only; omega), Sub.less ⟨(SLe.of_eq rfl), SLe.refl _, SLe.refl _, SLe.refl _, SLe.refl _, SLe.refl _, SLe.refl _, SLe.refl _, SLe.refl _, trivial⟩ (fun _ h => h)⟩
            · replace h7 := of_decide_eq_false h7
              refine AWP.exit ?_
              refine AWP.region ?_
              refine AOps.step rfl rfl rfl (AOp.add64 rfl rfl rfl (by omega) (by omega)) ?_
              refine AOps.step rfl rfl rfl (AOp.moveD rfl rfl) ?_
              refine AOps.nil ?_
              refine ⟨k + 1, (by omega), (by dsimp only; omega), Sub.less ⟨(SLe.of_eq rfl), SLe.refl _, SLe.refl _, SLe.refl _, SLe.refl _, trivial⟩ (fun _ h => h)⟩
        · replace h5 := of_decide_eq_false h5
          refine AWP.exit ?_
          refine AWP.seq ?_
          refine AWP.region ?_
          refine AOps.step rfl rfl rfl (AOp.assignD rfl rfl) ?_
          refine AOps.nil ?_
          refine AWP.ret ?_
          refine ⟨RetD.eq rfl ?_, trivial⟩
          all_goals (first | rfl | simp)

end Go.Proofs.YtkflhehocbaoiaaDoor
