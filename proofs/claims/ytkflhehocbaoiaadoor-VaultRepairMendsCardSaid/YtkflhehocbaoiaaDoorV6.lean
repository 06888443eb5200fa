/- Walks over abstract values. Printed by tools/gen.py. No statement of the seat. -/
import Derived.Test.YtkflhehocbaoiaaDoorB2
import Derived.Test.YtkflhehocbaoiaaDoorV5
namespace Go.Proofs.YtkflhehocbaoiaaDoor
open Go.RowKit
set_option linter.unusedVariables false

/-! Types. -/
namespace TyV6
theorem ag_75 : AggT Tryd.prog 75 256 := .of (by kernel_rfl)
theorem ar_75 : ArrT Tryd.prog 75 3 256 1 := .of (by kernel_rfl) (by kernel_rfl)
theorem cv_3_5 : convB Tryd.prog 3 5 .u8 = true := by kernel_rfl
theorem et_22 : ElemTy Tryd.prog 22 5 1 1 (.int .u8 0) := ⟨by kernel_rfl, by kernel_rfl, by kernel_rfl, by decide⟩
theorem et_33 : ElemTy Tryd.prog 33 22 1 24 (.slice none 0 0) := ⟨by kernel_rfl, by kernel_rfl, by kernel_rfl, by decide⟩
theorem sc_22 : Scal Tryd.prog 22 := .of (by kernel_rfl)
theorem sc_3 : Scal Tryd.prog 3 := .of (by kernel_rfl)
theorem sc_5 : Scal Tryd.prog 5 := .of (by kernel_rfl)
theorem sz_3 : ∀ w, (sizeOf 3).run Tryd.prog w = .ok 1 w := SizeT.of (by kernel_rfl)
theorem zt_75 : (Tryd.prog.info? 75).bind (·.zero) = some (.agg #[(.int .i64 0), (.int .i64 0), (.int .i64 0), (.int .i64 0), (.int .i64 0), (.int .i64 0), (.int .i64 0), (.int .i64 0), (.int .i64 0), (.int .i64 0), (.int .i64 0), (.int .i64 0), (.int .i64 0), (.int .i64 0), (.int .i64 0), (.int .i64 0), (.int .i64 0), (.int .i64 0), (.int .i64 0), (.int .i64 0), (.int .i64 0), (.int .i64 0), (.int .i64 0), (.int .i64 0), (.int .i64 0), (.int .i64 0), (.int .i64 0), (.int .i64 0), (.int .i64 0), (.int .i64 0), (.int .i64 0), (.int .i64 0), (.int .i64 0), (.int .i64 0), (.int .i64 0), (.int .i64 0), (.int .i64 0), (.int .i64 0), (.int .i64 0), (.int .i64 0), (.int .i64 0), (.int .i64 0), (.int .i64 0), (.int .i64 0), (.int .i64 0), (.int .i64 0), (.int .i64 0), (.int .i64 0), (.int .i64 0), (.int .i64 0), (.int .i64 0), (.int .i64 0), (.int .i64 0), (.int .i64 0), (.int .i64 0), (.int .i64 0), (.int .i64 0), (.int .i64 0), (.int .i64 0), (.int .i64 0), (.int .i64 0), (.int .i64 0), (.int .i64 0), (.int .i64 0), (.int .i64 0), (.int .i64 0), (.int .i64 0), (.int .i64 0), (.int .i64 0), (.int .i64 0), (.int .i64 0), (.int .i64 0), (.int .i64 0), (.int .i64 0), (.int .i64 0), (.int .i64 0), (.int .i64 0), (.int .i64 0), (.int .i64 0), (.int .i64 0), (.int .i64 0), (.int .i64 0), (.int .i64 0), (.int .i64 0), (.int .i64 0), (.int .i64 0), (.int .i64 0), (.int .i64 0), (.int .i64 0), (.int .i64 0), (.int .i64 0), (.int .i64 0), (.int .i64 0), (.int .i64 0), (.int .i64 0), (.int .i64 0), (.int .i64 0), (.int .i64 0), (.int .i64 0), (.int .i64 0), (.int .i64 0), (.int .i64 0), (.int .i64 0), (.int .i64 0), (.int .i64 0), (.int .i64 0), (.int .i64 0), (.int .i64 0), (.int .i64 0), (.int .i64 0), (.int .i64 0), (.int .i64 0), (.int .i64 0), (.int .i64 0), (.int .i64 0), (.int .i64 0), (.int .i64 0), (.int .i64 0), (.int .i64 0), (.int .i64 0), (.int .i64 0), (.int .i64 0), (.int .i64 0), (.int .i64 0), (.int .i64 0), (.int .i64 0), (.int .i64 0), (.int .i64 0), (.int .i64 0), (.int .i64 0), (.int .i64 0), (.int .i64 0), (.int .i64 0), (.int .i64 0), (.int .i64 0), (.int .i64 0), (.int .i64 0), (.int .i64 0), (.int .i64 0), (.int .i64 0), (.int .i64 0), (.int .i64 0), (.int .i64 0), (.int .i64 0), (.int .i64 0), (.int .i64 0), (.int .i64 0), (.int .i64 0), (.int .i64 0), (.int .i64 0), (.int .i64 0), (.int .i64 0), (.int .i64 0), (.int .i64 0), (.int .i64 0), (.int .i64 0), (.int .i64 0), (.int .i64 0), (.int .i64 0), (.int .i64 0), (.int .i64 0), (.int .i64 0), (.int .i64 0), (.int .i64 0), (.int .i64 0), (.int .i64 0), (.int .i64 0), (.int .i64 0), (.int .i64 0), (.int .i64 0), (.int .i64 0), (.int .i64 0), (.int .i64 0), (.int .i64 0), (.int .i64 0), (.int .i64 0), (.int .i64 0), (.int .i64 0), (.int .i64 0), (.int .i64 0), (.int .i64 0), (.int .i64 0), (.int .i64 0), (.int .i64 0), (.int .i64 0), (.int .i64 0), (.int .i64 0), (.int .i64 0), (.int .i64 0), (.int .i64 0), (.int .i64 0), (.int .i64 0), (.int .i64 0), (.int .i64 0), (.int .i64 0), (.int .i64 0), (.int .i64 0), (.int .i64 0), (.int .i64 0), (.int .i64 0), (.int .i64 0), (.int .i64 0), (.int .i64 0), (.int .i64 0), (.int .i64 0), (.int .i64 0), (.int .i64 0), (.int .i64 0), (.int .i64 0), (.int .i64 0), (.int .i64 0), (.int .i64 0), (.int .i64 0), (.int .i64 0), (.int .i64 0), (.int .i64 0), (.int .i64 0), (.int .i64 0), (.int .i64 0), (.int .i64 0), (.int .i64 0), (.int .i64 0), (.int .i64 0), (.int .i64 0), (.int .i64 0), (.int .i64 0), (.int .i64 0), (.int .i64 0), (.int .i64 0), (.int .i64 0), (.int .i64 0), (.int .i64 0), (.int .i64 0), (.int .i64 0), (.int .i64 0), (.int .i64 0), (.int .i64 0), (.int .i64 0), (.int .i64 0), (.int .i64 0), (.int .i64 0), (.int .i64 0), (.int .i64 0), (.int .i64 0), (.int .i64 0), (.int .i64 0), (.int .i64 0), (.int .i64 0), (.int .i64 0), (.int .i64 0), (.int .i64 0), (.int .i64 0), (.int .i64 0), (.int .i64 0), (.int .i64 0), (.int .i64 0)]) := by kernel_rfl
end TyV6
open TyV6


/-- How many of the first k copies have the byte v at p. -/
def cntK (cs : List (List UInt8)) (p k v : Nat) : Nat := ((cs.take k).filter fun c => decide (c[p]?.map UInt8.toNat = some v)).length
theorem cntK_le (cs : List (List UInt8)) (p k v : Nat) : cntK cs p k v ≤ k := by
  unfold cntK
  exact Nat.le_trans (List.length_filter_le _ _) (by simp; omega)
theorem cntK_succ (cs : List (List UInt8)) (p k v : Nat) (hk : k < cs.length) : cntK cs p (k + 1) v = cntK cs p k v + if cs[k][p]?.map UInt8.toNat = some v then 1 else 0 := by
  unfold cntK
  rw [List.take_succ_eq_append_getElem hk, List.filter_append, List.length_append]
  simp only [List.filter_cons, List.filter_nil]
  by_cases h : cs[k][p]?.map UInt8.toNat = some v
  · rw [if_pos (decide_eq_true h), if_pos h]; rfl
  · rw [if_neg (by rw [decide_eq_true_eq]; exact h), if_neg h]; rfl
def bestR (f : Nat → Nat) : Nat → Nat
  | 0 => 0
  | k + 1 => if f (bestR f k) < f k then k else bestR f k
theorem bestR_lt (f : Nat → Nat) : ∀ k, bestR f k ≤ k ∧ (0 < k → bestR f k < k)
  | 0 => ⟨Nat.le_refl _, fun h => by omega⟩
  | k + 1 => by
    have := bestR_lt f k
    simp only [bestR]
    split <;> exact ⟨by omega, fun _ => by omega⟩
def mostR (f : Nat → Nat) (k : Nat) : Nat := if k = 0 then 0 else f (bestR f k)
/-- One round of the search, as the program does it. -/
theorem best_yes (f : Nat → Nat) (k : Nat) (h : mostR f k < f k) : bestR f (k + 1) = k ∧ mostR f (k + 1) = f k := by
  have h1 : bestR f (k + 1) = k := by
    simp only [bestR]
    by_cases hk : k = 0
    · subst hk; simp [bestR]
    · rw [mostR, if_neg hk] at h; rw [if_pos h]
  exact ⟨h1, by rw [mostR, if_neg (by omega), h1]⟩
theorem best_no (f : Nat → Nat) (k : Nat) (h : ¬ mostR f k < f k) : bestR f (k + 1) = bestR f k ∧ mostR f (k + 1) = mostR f k := by
  have h1 : bestR f (k + 1) = bestR f k := by
    simp only [bestR]
    by_cases hk : k = 0
    · subst hk; simp [bestR]
    · rw [mostR, if_neg hk] at h; rw [if_neg h]
  refine ⟨h1, ?_⟩
  unfold mostR
  rw [if_neg (by omega), h1]
  by_cases hk : k = 0
  · subst hk
    simp [mostR, bestR] at h ⊢
    exact h
  · rw [if_neg hk]
def voteB (cs : List (List UInt8)) (p : Nat) : UInt8 := UInt8.ofNat (bestR (cntK cs p cs.length) 256)
theorem voteB_nat (cs : List (List UInt8)) (p : Nat) : IntKind.u8.wrap ((bestR (cntK cs p cs.length) 256 : Nat) : Int) = ((voteB cs p).toNat : Int) := by
  have h := (bestR_lt (cntK cs p cs.length) 256).2 (by omega)
  unfold voteB
  rw [UInt8.toNat_ofNat', Nat.mod_eq_of_lt (by omega)]
  have : ∀ n : Int, IntKind.u8.wrap n = n % 256 := fun n => by simp [IntKind.wrap, IntKind.signed, IntKind.bits]
  rw [this]
  omega
theorem range_upd {α : Type} (n k : Nat) (f : Nat → α) (x : α) (h : k < n) : ((List.range n).map f).take k ++ [x] ++ ((List.range n).map f).drop (k + 1) = (List.range n).map fun i => if i = k then x else f i := by
  apply List.ext_getElem?
  intro i
  by_cases h1 : i < k
  · rw [List.append_assoc, List.getElem?_append_left (by simp; omega), List.getElem?_take, if_pos h1]
    simp [show i < n by omega, show i ≠ k by omega]
  · by_cases h2 : i = k
    · subst h2
      rw [List.append_assoc, List.getElem?_append_right (by simp; omega)]
      simp [h, Nat.min_eq_left (Nat.le_of_lt h)]
    · rw [List.getElem?_append_right (by simp; omega)]
      simp only [List.length_append, List.length_take, List.length_map, List.length_range, Nat.min_eq_left (Nat.le_of_lt h), List.length_singleton, List.getElem?_drop]
      rw [show k + 1 + (i - (k + 1)) = i by omega]
      by_cases h3 : i < n
      · simp [h3, h2]
      · simp [h3]
theorem range_set {α : Type} (n k : Nat) (f : Nat → α) (x : α) : ((List.range n).map f).set k x = (List.range n).map fun i => if i = k then x else f i := by
  apply List.ext_getElem?
  intro i
  rw [List.getElem?_set]
  by_cases h2 : k = i
  · subst h2
    by_cases h : k < n <;> simp [h]
  · rw [if_neg h2, List.getElem?_map, List.getElem?_map]
    by_cases h : i < n
    · simp only [List.getElem?_range h, Option.map_some, if_neg (Ne.symm h2)]
    · rw [List.getElem?_eq_none (by simp; omega)]; rfl
def cntS (f : Nat → Nat) : List S := (List.range 256).map fun v => S.d (.v (.int .i64 ((f v : Nat) : Int)))
theorem cntS_at (f : Nat → Nat) (k : Nat) (h : k < 256) : (cntS f)[0 + k * 1]? = some (S.d (.v (.int .i64 ((f k : Nat) : Int)))) := by
  rw [Nat.zero_add, Nat.mul_one]; simp [cntS, h]
theorem cntS_upd (cs : List (List UInt8)) (p k : Nat) (hk : k < cs.length) (c : UInt8) (hc : cs[k][p]? = some c) :
    (cntS (cntK cs p k)).take (0 + c.toNat * 1) ++ (D.v (.int .i64 (((cntK cs p k c.toNat : Nat) : Int) + 1))).parts.map S.d ++ (cntS (cntK cs p k)).drop (0 + c.toNat * 1 + 1) = cntS (cntK cs p (k + 1)) := by
  rw [Nat.zero_add, Nat.mul_one]
  show (cntS _).take _ ++ [S.d (D.v (.int .i64 (((cntK cs p k c.toNat : Nat) : Int) + 1)))] ++ _ = _
  unfold cntS
  rw [range_upd _ _ _ _ c.toNat_lt]
  apply List.map_congr_left
  intro v _
  rw [cntK_succ cs p k v hk, hc]
  by_cases h : v = c.toNat
  · subst h; simp
  · simp [h, Ne.symm h]
theorem cntK_none (cs : List (List UInt8)) (p k : Nat) (hk : k < cs.length) (h : cs[k].length ≤ p) : cntK cs p (k + 1) = cntK cs p k := by
  funext v
  rw [cntK_succ cs p k v hk, List.getElem?_eq_none h]
  simp
theorem cntS_zero (cs : List (List UInt8)) (p : Nat) : cntS (cntK cs p 0) = ((List.replicate 256 (Value.int .i64 0)).map D.v).map S.d := by
  unfold cntS cntK
  simp only [List.take_zero, List.filter_nil, List.length_nil]
  rw [List.map_const', List.length_range, List.map_replicate, List.map_replicate]
  rfl
theorem un_cntS (f : Nat → Nat) : (((cntS f).drop 0).take 256).map S.un = (List.range 256).map fun v => D.v (.int .i64 ((f v : Nat) : Int)) := by
  unfold cntS
  rw [List.drop_zero, List.take_of_length_le (by simp), List.map_map]
  rfl
theorem at_range' {α : Type} {n k : Nat} {f : Nat → α} (h : k < n) : ((List.range n).map f)[k]? = some (f k) := by simp [h]
theorem at_map2 {l : List UInt8} {k : Nat} {c : UInt8} (h : l[k]? = some c) : (l.map u8D)[k]? = some (u8D c) := by simp [h]


set_option maxRecDepth 100000 in
set_option maxHeartbeats 1000000 in
theorem c_voted (cs : List (List UInt8)) (p : Nat) (hc : cs.length ≤ 20) : ACall Tryd.prog 41 [.sl (cs.map (slD u8D)), .v (.int .i64 p)] (.v (.int .u8 ((voteB cs p).toNat : Int))) := by
  refine acall_of (n := 44) (ds' := [.v (.int .u8 ((voteB cs p).toNat : Int))]) Tryd.func41 rfl (by kernel_rfl) rfl [4] rfl rfl ?_
  intro B w0 F0
  refine AWP.seq ?_
  refine AWP.region ?_
  refine AOps.step rfl rfl rfl (AOp.assignD rfl rfl) ?_
  refine AOps.nil ?_
  refine AWP.seq ?_
  refine AWP.region ?_
  refine AOps.alloc 101 rfl rfl rfl rfl zt_75 rfl rfl rfl ?_
  refine AOps.nil ?_
  refine AWP.seq ?_
  refine AWP.region ?_
  refine AOps.step rfl rfl rfl (AOp.assignD rfl rfl) ?_
  refine AOps.step rfl rfl rfl (AOp.assignD rfl rfl) ?_
  refine AOps.nil ?_
  refine AWP.seq ?_
  refine AWP.seq ?_
  refine AWP.region ?_
  refine AOps.step rfl rfl rfl (AOp.moveD rfl rfl) ?_
  refine AOps.step rfl rfl rfl (AOp.lenSl rfl et_33.ht rfl) ?_
  refine AOps.step rfl rfl rfl (AOp.moveD rfl rfl) ?_
  refine AOps.nil ?_
  refine AWP.block ?_
  refine AWP.loop (G := Nat) (fun k => Env.of [(14, .d (.v (.int .i64 (k : Int)))), (12, .d (.sl (cs.map (slD u8D)))), (13, .d (.v (.int .i64 ((cs.map (slD u8D)).length : Int)))), (1, .d (.v (.int .i64 (p : Int)))), (5, .ptr 101 0), (6, .d (.v (.int .i64 0))), (7, .d (.v (.int .i64 0)))]) (fun k => [(101, .cells (cntS (cntK cs p k)))]) (fun k => k ≤ cs.length) (fun k => cs.length - k) 0 (Nat.zero_le _) (Sub.less ⟨(SLe.of_eq rfl), SLe.refl _, SLe.refl _, SLe.refl _, SLe.refl _, SLe.refl _, SLe.refl _, trivial⟩ (by dsimp only; rw [cntS_zero]; exact fun _ h => h)) ?_
  intro k hk
  refine AWP.seq ?_
  refine AWP.region ?_
  refine AOps.step rfl rfl rfl (AOp.lss rfl rfl rfl) ?_
  refine AOps.nil ?_
  refine AWP.seq ?_
  refine AWP.cond rfl (fun h1 => ?_) (fun h1 => ?_)
  · replace h1 := of_decide_eq_true h1
    rw [List.length_map] at h1
    have hlt : k < cs.length := by omega
    have hcl := cntK_le cs p k
    refine AWP.skip ?_
    refine AWP.seq ?_
    refine AWP.block ?_
    refine AWP.seq ?_
    refine AWP.region ?_
    refine AOps.step rfl rfl rfl (AOp.indexAddr rfl et_33 rfl rfl k rfl (at_map hlt) rfl) ?_
    refine AOps.step rfl rfl rfl (AOp.load rfl sc_22 rfl) ?_
    refine AOps.step rfl rfl rfl (AOp.assignD rfl rfl) ?_
    refine AOps.nil ?_
    refine AWP.seq ?_
    refine AWP.region ?_
    refine AOps.step rfl rfl rfl (AOp.moveD rfl rfl) ?_
    refine AOps.step rfl rfl rfl (AOp.moveD rfl rfl) ?_
    refine AOps.step rfl rfl rfl (AOp.lenSl rfl et_22.ht rfl) ?_
    refine AOps.step rfl rfl rfl (AOp.lss rfl rfl rfl) ?_
    refine AOps.nil ?_
    refine AWP.cond rfl (fun h2 => ?_) (fun h2 => ?_)
    · replace h2 := of_decide_eq_true h2
      rw [List.length_map] at h2
      obtain ⟨c, hcc⟩ : ∃ c, cs[k][p]? = some c := ⟨cs[k][p]'(by omega), List.getElem?_eq_getElem (by omega)⟩
      have hu := cntS_upd cs p k hlt c hcc
      have hc8 := c.toNat_lt
      have hclc := hcl c.toNat
      refine AWP.region ?_
      refine AOps.step rfl rfl rfl (AOp.moveD rfl rfl) ?_
      refine AOps.step rfl rfl rfl (AOp.moveD rfl rfl) ?_
      refine AOps.step rfl rfl rfl (AOp.indexAddr rfl et_22 rfl rfl p rfl (at_map2 hcc) rfl) ?_
      refine AOps.step rfl rfl rfl (AOp.load rfl sc_5 rfl) ?_
      refine AOps.step rfl rfl rfl (AOp.indexArrP rfl ar_75 rfl rfl c.toNat rfl hc8) ?_
      refine AOps.step rfl rfl rfl (AOp.loadP rfl sc_3 rfl (.head _) (cntS_at _ _ hc8)) ?_
      refine AOps.step rfl rfl rfl (AOp.add64 rfl rfl rfl (by omega) (by omega)) ?_
      refine AOps.step rfl rfl rfl (AOp.indexArrP rfl ar_75 rfl rfl c.toNat rfl hc8) ?_
      refine AOps.store rfl rfl rfl sz_3 rfl (.head _) rfl rfl rfl (by simp [cntS]; omega) ?_
      refine AOps.nil ?_
      refine AWP.region ?_
      refine AOps.step rfl rfl rfl (AOp.add64 rfl rfl rfl (by omega) (by omega)) ?_
      refine AOps.step rfl rfl rfl (AOp.moveD rfl rfl) ?_
      refine AOps.nil ?_
      refine ⟨k + 1, (by omega), (by dsimp only; omega), Sub.less ⟨(SLe.of_eq rfl), SLe.refl _, SLe.refl _, SLe.refl _, SLe.refl _, SLe.refl _, SLe.refl _, trivial⟩ (by dsimp only; rw [← hu]; exact fun _ h => h)⟩
    · replace h2 := of_decide_eq_false h2
      rw [List.length_map] at h2
      have hu := cntK_none cs p k hlt (by omega)
      refine AWP.skip ?_
      refine AWP.region ?_
      refine AOps.step rfl rfl rfl (AOp.add64 rfl rfl rfl (by omega) (by omega)) ?_
      refine AOps.step rfl rfl rfl (AOp.moveD rfl rfl) ?_
      refine AOps.nil ?_
      refine ⟨k + 1, (by omega), (by dsimp only; omega), Sub.less ⟨(SLe.of_eq rfl), SLe.refl _, SLe.refl _, SLe.refl _, SLe.refl _, SLe.refl _, SLe.refl _, trivial⟩ (by dsimp only; rw [hu]; exact fun _ h => h)⟩
  · replace h1 := of_decide_eq_false h1
    rw [List.length_map] at h1
    obtain rfl : k = cs.length := by omega
    refine AWP.exit ?_
    refine AWP.seq ?_
    refine AWP.seq ?_
    refine AWP.region ?_
    refine AOps.step rfl rfl rfl (AOp.loadPU rfl ag_75 rfl (.head _) rfl rfl) ?_
    refine AOps.step rfl rfl rfl (AOp.moveD rfl rfl) ?_
    refine AOps.nil ?_
    refine AWP.block ?_
    refine AWP.loop (G := Nat) (fun k => Env.of [(32, .d (.v (.int .i64 (k : Int)))), (6, .d (.v (.int .i64 (bestR (cntK cs p cs.length) k : Int)))), (7, .d (.v (.int .i64 (mostR (cntK cs p cs.length) k : Int)))), (31, .d (.agg ((List.range 256).map fun v => D.v (.int .i64 ((cntK cs p cs.length v : Nat) : Int)))))]) (fun k => []) (fun k => k ≤ 256) (fun k => 256 - k) 0 (Nat.zero_le _) (Sub.less ⟨(SLe.of_eq rfl), (SLe.of_eq rfl), (SLe.of_eq rfl), (SLe.of_eq (by rw [un_cntS]; rfl)), trivial⟩ (fun _ h => by cases h)) ?_
    intro k hk
    refine AWP.seq ?_
    refine AWP.region ?_
    refine AOps.step rfl rfl rfl (AOp.lss rfl rfl rfl) ?_
    refine AOps.nil ?_
    refine AWP.seq ?_
    refine AWP.cond rfl (fun h3 => ?_) (fun h3 => ?_)
    · replace h3 := of_decide_eq_true h3
      have hlt : k < 256 := by omega
      refine AWP.skip ?_
      refine AWP.seq ?_
      refine AWP.block ?_
      refine AWP.seq ?_
      refine AWP.region ?_
      refine AOps.step rfl rfl rfl (AOp.moveD rfl rfl) ?_
      refine AOps.step rfl rfl rfl (AOp.indexArr rfl ar_75 sc_3 rfl rfl k rfl hlt (at_range' hlt)) ?_
      refine AOps.step rfl rfl rfl (AOp.assignD rfl rfl) ?_
      refine AOps.step rfl rfl rfl (AOp.assignD rfl rfl) ?_
      refine AOps.nil ?_
      refine AWP.seq ?_
      refine AWP.region ?_
      refine AOps.step rfl rfl rfl (AOp.moveD rfl rfl) ?_
      refine AOps.step rfl rfl rfl (AOp.moveD rfl rfl) ?_
      refine AOps.step rfl rfl rfl (AOp.gtr rfl rfl rfl) ?_
      refine AOps.nil ?_
      refine AWP.cond rfl (fun h4 => ?_) (fun h4 => ?_)
      · replace h4 := of_decide_eq_true h4
        obtain ⟨hb1, hb2⟩ := best_yes (cntK cs p cs.length) k (by omega)
        refine AWP.region ?_
        refine AOps.step rfl rfl rfl (AOp.moveD rfl rfl) ?_
        refine AOps.step rfl rfl rfl (AOp.moveD rfl rfl) ?_
        refine AOps.step rfl rfl rfl (AOp.assignD rfl rfl) ?_
        refine AOps.step rfl rfl rfl (AOp.assignD rfl rfl) ?_
        refine AOps.nil ?_
        refine AWP.region ?_
        refine AOps.step rfl rfl rfl (AOp.add64 rfl rfl rfl (by omega) (by omega)) ?_
        refine AOps.step rfl rfl rfl (AOp.moveD rfl rfl) ?_
        refine AOps.nil ?_
        refine ⟨k + 1, (by omega), (by dsimp only; omega), Sub.less ⟨(SLe.of_eq rfl), (SLe.of_eq (by rw [hb1]; rfl)), (SLe.of_eq (by rw [hb2]; rfl)), SLe.refl _, trivial⟩ (fun _ h => h)⟩
      · replace h4 := of_decide_eq_false h4
        obtain ⟨hb1, hb2⟩ := best_no (cntK cs p cs.length) k (by omega)
        refine AWP.skip ?_
        refine AWP.region ?_
        refine AOps.step rfl rfl rfl (AOp.add64 rfl rfl rfl (by omega) (by omega)) ?_
        refine AOps.step rfl rfl rfl (AOp.moveD rfl rfl) ?_
        refine AOps.nil ?_
        refine ⟨k + 1, (by omega), (by dsimp only; omega), Sub.less ⟨(SLe.of_eq rfl), (SLe.of_eq (by rw [hb1]; rfl)), (SLe.of_eq (by rw [hb2]; rfl)), SLe.refl _, trivial⟩ (fun _ h => h)⟩
    · replace h3 := of_decide_eq_false h3
      obtain rfl : k = 256 := by omega
      refine AWP.exit ?_
      refine AWP.seq ?_
      refine AWP.region ?_
      refine AOps.step rfl rfl rfl (AOp.moveD rfl rfl) ?_
      refine AOps.step rfl rfl rfl (AOp.convInt rfl cv_3_5 rfl) ?_
      refine AOps.step rfl rfl rfl (AOp.assignD rfl rfl) ?_
      refine AOps.nil ?_
      refine AWP.ret ?_
      refine ⟨RetD.eq rfl ?_, trivial⟩
      all_goals (rw [voteB_nat])

end Go.Proofs.YtkflhehocbaoiaaDoor
