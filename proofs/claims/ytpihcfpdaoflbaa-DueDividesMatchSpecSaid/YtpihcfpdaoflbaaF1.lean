/- Walks over abstract values. Printed by tools/gen.py. No statement of the seat. -/
import Derived.Test.YtpihcfpdaoflbaaF0
namespace Go.Proofs.Ytpihcfpdaoflbaa
open Go.RowKit
set_option linter.unusedVariables false

/-! Types. -/
namespace TyF1
theorem et_22 : ElemTy Try.prog 22 3 1 8 (.int .i64 0) := ⟨by kernel_rfl, by kernel_rfl, by kernel_rfl, by decide⟩
theorem sc_3 : Scal Try.prog 3 := .of (by kernel_rfl)
theorem sz_3 : ∀ w, (sizeOf 3).run Try.prog w = .ok 1 w := SizeT.of (by kernel_rfl)
end TyF1
open TyF1


/-- An element with its first place. -/
def fds {N0 : Nat} (p : Fin N0 × Nat) : List D := [.v (.int .i64 (p.1.val : Int))]
/-- Two elements change places. -/
def sw {α : Type} (l : List α) (i j : Nat) : List α := match l[i]?, l[j]? with
  | some x, some y => (l.set i y).set j x
  | _, _ => l
theorem sw_len {α : Type} (l : List α) (i j : Nat) : (sw l i j).length = l.length := by unfold sw; split <;> simp
theorem sw_at {α : Type} {l : List α} {i j : Nat} (hi : i < l.length) (hj : j < l.length) : sw l i j = (l.set i l[j]).set j l[i] := by
  unfold sw; rw [List.getElem?_eq_getElem hi, List.getElem?_eq_getElem hj]
def swapTo {α : Type} (l : List α) (a b : Nat) : Nat → List α
  | 0 => l
  | k + 1 => sw (swapTo l a b k) (a + k) (b + k)
theorem swapTo_len {α : Type} (l : List α) (a b : Nat) : ∀ k, (swapTo l a b k).length = l.length
  | 0 => rfl
  | k + 1 => by unfold swapTo; rw [sw_len, swapTo_len l a b k]
theorem whole_el {size : Nat} {ds x : List D} (h : ds.length = size) : ds.take 0 ++ x ++ ds.drop (0 + size) = x := by
  rw [List.take_zero, List.nil_append, Nat.zero_add, List.drop_eq_nil_of_le (by omega), List.append_nil]
theorem row_swap {α : Type} {enc : α → List D} {size : Nat} (hs : ∀ x, (enc x).length = size) {cur : List α} {i j : Nat} (hi : i < cur.length) (hj : j < cur.length) {els1 : List (List D)} {d2 : List D}
    (h1 : els1 = (cur.map enc).set i ((enc cur[i]).take 0 ++ enc cur[j] ++ (enc cur[i]).drop (0 + size))) (h2 : els1[j]? = some d2) :
    els1.set j (d2.take 0 ++ enc cur[i] ++ d2.drop (0 + size)) = (sw cur i j).map enc := by
  rw [whole_el (hs _)] at h1
  have hd : d2.length = size := by
    rw [h1, List.getElem?_set] at h2
    by_cases hij : i = j
    · rw [if_pos hij, if_pos (by rw [List.length_map]; exact hi)] at h2
      rw [← Option.some.inj h2]; exact hs _
    · rw [if_neg hij, List.getElem?_map, List.getElem?_eq_getElem hj] at h2
      rw [← Option.some.inj h2]; exact hs _
  rw [whole_el hd, h1, sw_at hi hj, List.map_set, List.map_set]


set_option maxRecDepth 100000 in
set_option maxHeartbeats 1000000 in
theorem c_swapRange {N0 : Nat} (l : List (Fin N0 × Nat)) (a b n : Nat) (c : D) (ha : a + n ≤ l.length) (hb : b + n ≤ l.length) (hl : l.length ≤ 4611686018427387904) : RCall Try.prog 28 3 1 (l.map fds) ((swapTo l a b n).map fds) [.v (.int .i64 a), .v (.int .i64 b), .v (.int .i64 n), c] (.tup []) := by
  refine RCall.of1 (chg := fun i => Nat.ble 1000 i) (xcall_of (n := 38) (ds' := []) Try.func28 rfl (by kernel_rfl) rfl [] rfl rfl ?_) rfl
  intro B w0 F0 fr ρ0
  refine AWP.seq ?_
  refine AWP.region ?_
  refine AOps.step rfl rfl rfl (AOp.assignD rfl rfl) ?_
  refine AOps.nil ?_
  refine AWP.block ?_
  refine AWP.loop (G := Nat) (fun k => Env.of [(10, .d (.v (.int .i64 (k : Int)))), (0, .own 1), (1, .d (.v (.int .i64 a))), (2, .d (.v (.int .i64 b))), (3, .d (.v (.int .i64 n)))]) (fun k => [(1, .row 3 1 ((swapTo l a b k).map fds))]) (fun k => k ≤ n) (fun k => n - k) 0 (Nat.zero_le _) (Sub.less ⟨(SLe.of_eq rfl), SLe.refl _, SLe.refl _, SLe.refl _, SLe.refl _, trivial⟩ (row_same rfl)) ?_
  intro k hk
  refine AWP.seq ?_
  refine AWP.seq ?_
  refine AWP.region ?_
  refine AOps.step rfl rfl rfl (AOp.moveD rfl rfl) ?_
  refine AOps.step rfl rfl rfl (AOp.moveD rfl rfl) ?_
  refine AOps.step rfl rfl rfl (AOp.lss rfl rfl rfl) ?_
  refine AOps.nil ?_
  refine AWP.cond rfl (fun h1 => ?_) (fun h1 => ?_)
  · replace h1 := of_decide_eq_true h1
    have hlt : k < n := by omega
    refine AWP.skip ?_
    refine AWP.seq ?_
    refine AWP.block ?_
    refine AWP.drawG (fun k => (Nat.beq k 21 || Nat.beq k 23) || (Nat.beq k 12 || Nat.beq k 13 || Nat.beq k 18 || Nat.beq k 19 || Nat.beq k 20 || Nat.beq k 22)) (fun k => Nat.beq k 21 || Nat.beq k 23) (fun k h => Bool.or_eq_true_iff.2 (.inl h)) (by kernel_rfl) (by kernel_rfl) (by kernel_rfl) ?_
    refine GRun.step rfl rfl rfl (fun _ => AOp.moveO rfl rfl) ?_
    refine GRun.step rfl rfl rfl (fun _ => AOp.moveD rfl rfl) ?_
    refine GRun.step rfl rfl rfl (fun _ => AOp.moveD rfl rfl) ?_
    refine GRun.step rfl rfl rfl (fun _ => AOp.add64 rfl rfl rfl (by omega) (by omega)) ?_
    refine GRun.step rfl rfl rfl (fun _ => AOp.moveO rfl rfl) ?_
    refine GRun.step rfl rfl rfl (fun _ => AOp.moveD rfl rfl) ?_
    refine GRun.step rfl rfl rfl (fun _ => AOp.moveD rfl rfl) ?_
    refine GRun.step rfl rfl rfl (fun _ => AOp.add64 rfl rfl rfl (by omega) (by omega)) ?_
    refine GRun.step rfl rfl rfl (fun _ => AOp.moveO rfl rfl) ?_
    refine GRun.step rfl rfl rfl (fun _ => AOp.moveD rfl rfl) ?_
    refine GRun.step rfl rfl rfl (fun _ => AOp.moveD rfl rfl) ?_
    refine GRun.step rfl rfl rfl (fun _ => AOp.add64 rfl rfl rfl (by omega) (by omega)) ?_
    refine GRun.stepS rfl rfl rfl rfl (AOp.indexOwn rfl et_22 rfl rfl (.head _) (b + k) (by omega) (by rw [List.length_map, swapTo_len]; omega)) ?_
    refine GRun.stepS rfl rfl rfl rfl (AOp.loadRow rfl sc_3 rfl (.head _) (b + k) 0 rfl (at_list (by rw [swapTo_len]; omega)) rfl) ?_
    refine GRun.step rfl rfl rfl (fun _ => AOp.moveO rfl rfl) ?_
    refine GRun.step rfl rfl rfl (fun _ => AOp.moveD rfl rfl) ?_
    refine GRun.step rfl rfl rfl (fun _ => AOp.moveD rfl rfl) ?_
    refine GRun.step rfl rfl rfl (fun _ => AOp.add64 rfl rfl rfl (by omega) (by omega)) ?_
    refine GRun.stepS rfl rfl rfl rfl (AOp.indexOwn rfl et_22 rfl rfl (.head _) (a + k) (by omega) (by rw [List.length_map, swapTo_len]; omega)) ?_
    refine GRun.stepS rfl rfl rfl rfl (AOp.loadRow rfl sc_3 rfl (.head _) (a + k) 0 rfl (at_list (by rw [swapTo_len]; omega)) rfl) ?_
    refine GRun.stepS rfl rfl rfl rfl (AOp.indexOwn rfl et_22 rfl rfl (.head _) (a + k) (by omega) (by rw [List.length_map, swapTo_len]; omega)) ?_
    refine GRun.eff rfl rfl rfl (EOp.storeRow rfl rfl sz_3 rfl (.head _) rfl rfl rfl (a + k) 0 rfl (at_list (by rw [swapTo_len]; omega)) (Nat.le_of_ble_eq_true rfl)) ?_
    refine GRun.stepS rfl rfl rfl rfl (AOp.indexOwn rfl et_22 rfl rfl (.head _) (b + k) (by omega) (by rw [List.length_set, List.length_map, swapTo_len]; omega)) ?_
    refine GRun.eff rfl rfl rfl (EOp.storeRow rfl rfl sz_3 rfl (.head _) rfl rfl rfl (b + k) 0 rfl (List.getElem?_eq_getElem (by rw [List.length_set, List.length_map, swapTo_len]; omega)) (Nat.le_of_ble_eq_true rfl)) ?_
    refine GRun.nil ?_
    refine AWP.region ?_
    refine AOps.step rfl rfl rfl (AOp.moveD rfl rfl) ?_
    refine AOps.step rfl rfl rfl (AOp.add64 rfl rfl rfl (by omega) (by omega)) ?_
    refine AOps.step rfl rfl rfl (AOp.assignD rfl rfl) ?_
    refine AOps.nil ?_
    refine ⟨k + 1, (by omega), (by dsimp only; omega), Sub.less ⟨(SLe.of_eq rfl), SLe.refl _, SLe.refl _, SLe.refl _, SLe.refl _, trivial⟩ (row_same (row_swap (enc := fds) (size := 1) (cur := swapTo l a b k) (i := a + k) (j := b + k) (fun _ => rfl) (by rw [swapTo_len]; omega) (by rw [swapTo_len]; omega) rfl (List.getElem?_eq_getElem (by rw [List.length_set, List.length_map, swapTo_len]; omega))))⟩
  · replace h1 := of_decide_eq_false h1
    have hkn : k = n := by omega
    refine AWP.exit ?_
    refine ⟨trivial, ⟨mem_row_eq (.head _) ?_, trivial⟩⟩
    all_goals (rw [hkn])

end Go.Proofs.Ytpihcfpdaoflbaa
