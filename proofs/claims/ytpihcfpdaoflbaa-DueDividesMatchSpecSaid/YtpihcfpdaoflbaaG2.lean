/- Walks over abstract values. Printed by tools/gen.py. No statement of the seat. -/
import Derived.Test.YtpihcfpdaoflbaaG1
namespace Go.Proofs.Ytpihcfpdaoflbaa
open Go.RowKit
set_option linter.unusedVariables false

/-! Types. -/
namespace TyG2
theorem et_22 : ElemTy Try.prog 22 3 1 8 (.int .i64 0) := ⟨by kernel_rfl, by kernel_rfl, by kernel_rfl, by decide⟩
theorem sc_22 : Scal Try.prog 22 := .of (by kernel_rfl)
theorem sc_3 : Scal Try.prog 3 := .of (by kernel_rfl)
theorem sz_3 : ∀ w, (sizeOf 3).run Try.prog w = .ok 1 w := SizeT.of (by kernel_rfl)
theorem zt_3 : (Try.prog.info? 3).bind (·.zero) = some (.int .i64 0) := by kernel_rfl
end TyG2
open TyG2


structure DivOk (t : Int) (ws : List Int) : Prop where
  n0 : 0 < ws.length
  n1 : ws.length ≤ 500
  t0 : 0 ≤ t ∧ t ≤ 1000000000
  w0 : ∀ w ∈ ws, 0 ≤ w ∧ w ≤ 1000000000
  s0 : 0 < ws.sum
theorem sum_bnd : ∀ {l : List Int}, (∀ w ∈ l, 0 ≤ w ∧ w ≤ 1000000000) → 0 ≤ l.sum ∧ l.sum ≤ 1000000000 * (l.length : Int)
  | [], _ => by simp
  | w :: l, h => by
    have h1 := sum_bnd (l := l) fun x hx => h x (List.mem_cons_of_mem _ hx)
    have h2 := h w List.mem_cons_self
    simp only [List.sum_cons, List.length_cons, Int.natCast_add, Int.natCast_one, Int.mul_add]
    omega
theorem take_sum {l : List Int} {k : Nat} (hk : k < l.length) : (l.take (k + 1)).sum = (l.take k).sum + l[k] := by
  rw [List.take_add_one, List.getElem?_eq_getElem hk, Option.toList_some, List.sum_append]; simp
theorem wAt_eq {ws : List Int} {k : Nat} (hk : k < ws.length) : wAt ws k = ws[k] := by unfold wAt; rw [List.getD_eq_getElem?_getD, List.getElem?_eq_getElem hk]; rfl
theorem DivOk.w {t : Int} {ws : List Int} (h : DivOk t ws) (i : Nat) : 0 ≤ wAt ws i ∧ wAt ws i ≤ 1000000000 := by
  by_cases hi : i < ws.length
  · rw [wAt_eq hi]; exact h.w0 _ (List.getElem_mem hi)
  · unfold wAt; rw [List.getD_eq_getElem?_getD, List.getElem?_eq_none (by omega)]; simp
theorem mul_bnd {t w : Int} (ht : 0 ≤ t ∧ t ≤ 1000000000) (hw : 0 ≤ w ∧ w ≤ 1000000000) : 0 ≤ t * w ∧ t * w ≤ 1000000000000000000 := by
  refine ⟨Int.mul_nonneg ht.1 hw.1, ?_⟩
  have h1 : t * w ≤ t * 1000000000 := Int.mul_le_mul_of_nonneg_left hw.2 ht.1
  omega
theorem DivOk.q {t : Int} {ws : List Int} (h : DivOk t ws) (i : Nat) : ws.sum * qAt t ws i + rAt t ws i = t * wAt ws i ∧ 0 ≤ qAt t ws i ∧ 0 ≤ rAt t ws i ∧ rAt t ws i ≤ ws.sum - 1 := by
  have hm := mul_bnd h.t0 (h.w i)
  have hs := h.s0
  refine ⟨?_, Int.ediv_nonneg hm.1 (by omega), Int.emod_nonneg _ (by omega), by have := Int.emod_lt_of_pos (t * wAt ws i) hs; unfold rAt; omega⟩
  unfold qAt rAt
  exact Int.mul_ediv_add_emod _ _
theorem leftTo_succ (t : Int) (ws : List Int) (k : Nat) : leftTo t ws (k + 1) = leftTo t ws k - qAt t ws k := by
  unfold leftTo
  rw [List.range_succ, List.map_append, List.sum_append]
  simp
  omega
/-- S * what is left = the remainders, so far. -/
theorem DivOk.left {t : Int} {ws : List Int} (h : DivOk t ws) : ∀ k, k ≤ ws.length → ws.sum * (t - leftTo t ws k) ≤ t * (ws.take k).sum ∧ t * (ws.take k).sum ≤ ws.sum * (t - leftTo t ws k) + k * (ws.sum - 1) ∧ leftTo t ws k ≤ t
  | 0, _ => by simp [leftTo]
  | k + 1, hk => by
    obtain ⟨h1, h2, h3⟩ := h.left k (by omega)
    obtain ⟨q1, q2, q3, q4⟩ := h.q k
    have hw : wAt ws k = ws[k] := wAt_eq (by omega)
    rw [take_sum (by omega), ← hw, Int.mul_add, leftTo_succ, show t - (leftTo t ws k - qAt t ws k) = (t - leftTo t ws k) + qAt t ws k by omega, Int.mul_add, show ((k + 1 : Nat) : Int) = (k : Int) + 1 from rfl, Int.add_mul, Int.one_mul]
    omega
theorem DivOk.sumTo {t : Int} {ws : List Int} (h : DivOk t ws) (k : Nat) : 0 ≤ (ws.take k).sum ∧ (ws.take k).sum ≤ ws.sum := by
  have h1 := sum_bnd (l := ws.take k) fun w hw => h.w0 w (List.mem_of_mem_take hw)
  have h2 := sum_bnd (l := ws.drop k) fun w hw => h.w0 w (List.mem_of_mem_drop hw)
  have h3 : ws.sum = (ws.take k).sum + (ws.drop k).sum := by rw [← List.sum_append, List.take_append_drop]
  omega
theorem DivOk.leftB {t : Int} {ws : List Int} (h : DivOk t ws) {k : Nat} (hk : k ≤ ws.length) : 0 ≤ leftTo t ws k ∧ leftTo t ws k ≤ t := by
  obtain ⟨h1, _, h3⟩ := h.left k hk
  refine ⟨?_, h3⟩
  have h4 : t * (ws.take k).sum ≤ t * ws.sum := Int.mul_le_mul_of_nonneg_left (h.sumTo k).2 h.t0.1
  have h5 : ws.sum * (t - leftTo t ws k) ≤ ws.sum * t := by rw [Int.mul_comm ws.sum t]; omega
  have := Int.le_of_mul_le_mul_left h5 h.s0
  omega
theorem DivOk.leftN {t : Int} {ws : List Int} (h : DivOk t ws) : leftTo t ws ws.length < (ws.length : Int) := by
  obtain ⟨_, h2, _⟩ := h.left ws.length (Nat.le_refl _)
  rw [List.take_length] at h2
  have hn := h.n0
  have h3 : ws.sum * leftTo t ws ws.length < ws.sum * (ws.length : Int) := by
    rw [Int.mul_sub] at h2
    have h4 : (ws.length : Int) * (ws.sum - 1) = ws.sum * (ws.length : Int) - ws.length := by rw [Int.mul_sub, Int.mul_comm (ws.length : Int) ws.sum, Int.mul_one]
    rw [h4, Int.mul_comm t ws.sum] at h2
    omega
  exact Int.lt_of_mul_lt_mul_left h3 (by have := h.s0; omega)
theorem DivOk.qB {t : Int} {ws : List Int} (h : DivOk t ws) {k : Nat} (hk : k < ws.length) : 0 ≤ qAt t ws k ∧ qAt t ws k ≤ 1000000000 := by
  have h1 := h.leftB (k := k) (by omega)
  have h2 := h.leftB (k := k + 1) (by omega)
  rw [leftTo_succ] at h2
  have := (h.q k).2.1
  have := h.t0
  omega
theorem DivOk.outB {t : Int} {ws : List Int} (h : DivOk t ws) (j : Nat) {k : Nat} (hk : k < ws.length) : 0 ≤ outF t ws j k ∧ outF t ws j k ≤ 1000000001 := by
  have := h.qB hk
  unfold outF
  split <;> omega
def divR (t : Int) (ws : List Int) : List (List D) := if divFault t ws = 0 then rowF (outF t ws (leftTo t ws ws.length).toNat) ws.length else []
theorem divR_bad {t : Int} {ws : List Int} (h : divFault t ws ≠ 0) : divR t ws = [] := if_neg h
theorem div_9 {t : Int} {ws : List Int} (h : (ws.length : Int) = 0) : divFault t ws = 9 := if_pos h
theorem div_2 {t : Int} {ws : List Int} (h : ¬ (ws.length : Int) = 0) (h2 : 500 < (ws.length : Int)) : divFault t ws = 2 := (if_neg h).trans (if_pos h2)
theorem div_1 {t : Int} {ws : List Int} (h : ¬ (ws.length : Int) = 0) (h2 : ¬ 500 < (ws.length : Int)) (h3 : ¬ (0 ≤ t ∧ t ≤ 1000000000)) : divFault t ws = 1 := (if_neg h).trans ((if_neg h2).trans (if_pos h3))
theorem div_1w {t : Int} {ws : List Int} (h : ¬ (ws.length : Int) = 0) (h2 : ¬ 500 < (ws.length : Int)) (h3 : 0 ≤ t ∧ t ≤ 1000000000) (h4 : ∃ w ∈ ws, ¬ (0 ≤ w ∧ w ≤ 1000000000)) : divFault t ws = 1 := (if_neg h).trans ((if_neg h2).trans ((if_neg fun hh => hh h3).trans (if_pos h4)))
theorem div_in {t : Int} {ws : List Int} (h : ¬ (ws.length : Int) = 0) (h2 : ¬ 500 < (ws.length : Int)) (h3 : 0 ≤ t ∧ t ≤ 1000000000) (h4 : ∀ w ∈ ws, 0 ≤ w ∧ w ≤ 1000000000) : divFault t ws = if ws.sum = 0 then 13 else 0 :=
  (if_neg h).trans ((if_neg h2).trans ((if_neg fun hh => hh h3).trans (if_neg fun ⟨w, hw, hn⟩ => hn (h4 w hw))))
theorem all_take {P : Int → Prop} {ws : List Int} (h : ∀ w ∈ ws.take ws.length, P w) : ∀ w ∈ ws, P w := by rwa [List.take_length] at h
theorem take_next {P : Int → Prop} {ws : List Int} {k : Nat} (hk : k < ws.length) (h : ∀ w ∈ ws.take k, P w) (h2 : P ws[k]) : ∀ w ∈ ws.take (k + 1), P w := by
  intro w hw
  rw [List.take_add_one, List.getElem?_eq_getElem hk] at hw
  simp only [Option.toList_some, List.mem_append, List.mem_singleton] at hw
  rcases hw with h1 | h1
  · exact h w h1
  · rw [h1]; exact h2
theorem step_if (g : Nat → Int) (k i : Nat) : (if i < k + 1 then g i else 0) = if i = k then g k else if i < k then g i else 0 := by
  by_cases h : i = k
  · subst h; rw [if_pos (by omega), if_pos rfl]
  · rw [if_neg h]
    by_cases h2 : i < k
    · rw [if_pos (by omega), if_pos h2]
    · rw [if_neg (by omega), if_neg h2]
theorem rows_2c {i1 e1 s1 i2 e2 s2 : Nat} {q : Nat × Ob} {a1 b1 a2 b2 : List (List D)} {τ : Obs} (h1 : a1 = b1) (h2 : a2 = b2) : ∀ p ∈ [(i1, Ob.row e1 s1 b1), (i2, Ob.row e2 s2 b2), q], p ∈ (i1, Ob.row e1 s1 a1) :: (i2, Ob.row e2 s2 a2) :: q :: τ := fun p hp => by
  subst h1; subst h2
  rcases List.mem_cons.1 hp with rfl | hp
  · exact .head _
  · rcases List.mem_cons.1 hp with rfl | hp
    · exact .tail _ (.head _)
    · rw [List.mem_singleton] at hp; subst hp; exact .tail _ (.tail _ (.head _))
theorem rows_2 {i1 e1 s1 i2 e2 s2 : Nat} {a1 b1 a2 b2 : List (List D)} {τ : Obs} (h1 : a1 = b1) (h2 : a2 = b2) : ∀ p ∈ [(i1, Ob.row e1 s1 b1), (i2, Ob.row e2 s2 b2)], p ∈ (i1, Ob.row e1 s1 a1) :: (i2, Ob.row e2 s2 a2) :: τ := fun p hp => by
  subst h1; subst h2
  rcases List.mem_cons.1 hp with rfl | hp
  · exact .head _
  · rw [List.mem_singleton] at hp; subst hp; exact .tail _ (.head _)


set_option maxRecDepth 100000 in
set_option maxHeartbeats 1000000 in
theorem c_pWithin (n a b : Int) : ACall Try.prog 16 [.v (.int .i64 n), .v (.int .i64 a), .v (.int .i64 b)] (.v (.bool (decide (a ≤ n ∧ n ≤ b)))) := by
  refine acall_of (n := 15) (ds' := [.v (.bool (decide (a ≤ n ∧ n ≤ b)))]) Try.func16 rfl (by kernel_rfl) rfl [6] rfl rfl ?_
  intro B w0 F0 fr
  refine AWP.seq ?_
  refine AWP.region ?_
  refine AOps.step rfl rfl rfl (AOp.assignD rfl rfl) ?_
  refine AOps.nil ?_
  refine AWP.seq ?_
  refine AWP.region ?_
  refine AOps.step rfl rfl rfl (AOp.moveD rfl rfl) ?_
  refine AOps.step rfl rfl rfl (AOp.moveD rfl rfl) ?_
  refine AOps.step rfl rfl rfl (AOp.geq rfl rfl rfl) ?_
  refine AOps.step rfl rfl rfl (AOp.moveD rfl rfl) ?_
  refine AOps.split 10 rfl (fun g1 => ?_) (fun g1 => ?_)
  · replace g1 := of_decide_eq_true g1
    refine AOps.step ⟨10, rfl, .inl ⟨_, rfl, rfl⟩⟩ rfl rfl (AOp.moveD rfl rfl) ?_
    refine AOps.step ⟨10, rfl, .inl ⟨_, rfl, rfl⟩⟩ rfl rfl (AOp.moveD rfl rfl) ?_
    refine AOps.step ⟨10, rfl, .inl ⟨_, rfl, rfl⟩⟩ rfl rfl (AOp.leq rfl rfl rfl) ?_
    refine AOps.step rfl rfl rfl (AOp.pickT rfl rfl rfl) ?_
    refine AOps.step rfl rfl rfl (AOp.assignD rfl rfl) ?_
    refine AOps.nil ?_
    refine AWP.ret ?_
    refine ⟨RetD.eq rfl ?_, trivial⟩
    all_goals (simp; omega)
  · replace g1 := of_decide_eq_false g1
    refine AOps.pass ⟨10, rfl, .inl ⟨_, rfl, rfl⟩⟩ rfl rfl ?_
    refine AOps.pass ⟨10, rfl, .inl ⟨_, rfl, rfl⟩⟩ rfl rfl ?_
    refine AOps.pass ⟨10, rfl, .inl ⟨_, rfl, rfl⟩⟩ rfl rfl ?_
    refine AOps.step rfl rfl rfl (AOp.pickF rfl rfl rfl) ?_
    refine AOps.step rfl rfl rfl (AOp.assignD rfl rfl) ?_
    refine AOps.nil ?_
    refine AWP.ret ?_
    refine ⟨RetD.eq rfl ?_, trivial⟩
    all_goals (simp; omega)

set_option maxRecDepth 100000 in
set_option maxHeartbeats 1000000 in
theorem c_rWithin (n a b : Int) : ACall Try.prog 20 [.v (.int .i64 n), .v (.int .i64 a), .v (.int .i64 b)] (.v (.bool (decide (a ≤ n ∧ n ≤ b)))) := by
  refine acall_of (n := 15) (ds' := [.v (.bool (decide (a ≤ n ∧ n ≤ b)))]) Try.func20 rfl (by kernel_rfl) rfl [6] rfl rfl ?_
  intro B w0 F0 fr
  refine AWP.seq ?_
  refine AWP.region ?_
  refine AOps.step rfl rfl rfl (AOp.assignD rfl rfl) ?_
  refine AOps.nil ?_
  refine AWP.seq ?_
  refine AWP.region ?_
  refine AOps.step rfl rfl rfl (AOp.moveD rfl rfl) ?_
  refine AOps.step rfl rfl rfl (AOp.moveD rfl rfl) ?_
  refine AOps.step rfl rfl rfl (AOp.leq rfl rfl rfl) ?_
  refine AOps.step rfl rfl rfl (AOp.moveD rfl rfl) ?_
  refine AOps.split 10 rfl (fun g1 => ?_) (fun g1 => ?_)
  · replace g1 := of_decide_eq_true g1
    refine AOps.step ⟨10, rfl, .inl ⟨_, rfl, rfl⟩⟩ rfl rfl (AOp.moveD rfl rfl) ?_
    refine AOps.step ⟨10, rfl, .inl ⟨_, rfl, rfl⟩⟩ rfl rfl (AOp.moveD rfl rfl) ?_
    refine AOps.step ⟨10, rfl, .inl ⟨_, rfl, rfl⟩⟩ rfl rfl (AOp.leq rfl rfl rfl) ?_
    refine AOps.step rfl rfl rfl (AOp.pickT rfl rfl rfl) ?_
    refine AOps.step rfl rfl rfl (AOp.assignD rfl rfl) ?_
    refine AOps.nil ?_
    refine AWP.ret ?_
    refine ⟨RetD.eq rfl ?_, trivial⟩
    all_goals (simp; omega)
  · replace g1 := of_decide_eq_false g1
    refine AOps.pass ⟨10, rfl, .inl ⟨_, rfl, rfl⟩⟩ rfl rfl ?_
    refine AOps.pass ⟨10, rfl, .inl ⟨_, rfl, rfl⟩⟩ rfl rfl ?_
    refine AOps.pass ⟨10, rfl, .inl ⟨_, rfl, rfl⟩⟩ rfl rfl ?_
    refine AOps.step rfl rfl rfl (AOp.pickF rfl rfl rfl) ?_
    refine AOps.step rfl rfl rfl (AOp.assignD rfl rfl) ?_
    refine AOps.nil ?_
    refine AWP.ret ?_
    refine ⟨RetD.eq rfl ?_, trivial⟩
    all_goals (simp; omega)

set_option maxRecDepth 100000 in
set_option maxHeartbeats 1000000 in
theorem c_isNaN (n : Int) : ACall Try.prog 24 [.v (.int .i64 n)] (.v (.bool false)) := by
  refine acall_of (n := 6) (ds' := [.v (.bool false)]) Try.func24 rfl (by kernel_rfl) rfl [2] rfl rfl ?_
  intro B w0 F0 fr
  refine AWP.seq ?_
  refine AWP.region ?_
  refine AOps.step rfl rfl rfl (AOp.assignD rfl rfl) ?_
  refine AOps.nil ?_
  refine AWP.seq ?_
  refine AWP.region ?_
  refine AOps.step rfl rfl rfl (AOp.moveD rfl rfl) ?_
  refine AOps.step rfl rfl rfl (AOp.moveD rfl rfl) ?_
  refine AOps.step rfl rfl rfl (AOp.neq rfl rfl rfl) ?_
  refine AOps.step rfl rfl rfl (AOp.assignD rfl rfl) ?_
  refine AOps.nil ?_
  refine AWP.ret ?_
  refine ⟨RetD.eq rfl ?_, trivial⟩
  all_goals (simp)

set_option maxRecDepth 100000 in
set_option maxHeartbeats 1000000 in
theorem c_cmpInt (a b : Int) : ACall Try.prog 19 [.v (.int .i64 a), .v (.int .i64 b)] (.v (.int .i64 (if a < b then -1 else if b < a then 1 else 0))) := by
  refine acall_of (n := 20) (ds' := [.v (.int .i64 (if a < b then -1 else if b < a then 1 else 0))]) Try.func19 rfl (by kernel_rfl) rfl [4] rfl rfl ?_
  intro B w0 F0 fr
  refine AWP.seq ?_
  refine AWP.region ?_
  refine AOps.step rfl rfl rfl (AOp.assignD rfl rfl) ?_
  refine AOps.nil ?_
  refine AWP.seq ?_
  refine AWP.region ?_
  refine AOps.step rfl rfl rfl (AOp.moveD rfl rfl) ?_
  refine AOps.step rfl rfl rfl (AOp.call rfl (.cons (ArgOk.rfl' rfl) .nil) (c_isNaN _)) ?_
  refine AOps.step rfl rfl rfl (AOp.assignD rfl rfl) ?_
  refine AOps.nil ?_
  refine AWP.seq ?_
  refine AWP.region ?_
  refine AOps.step rfl rfl rfl (AOp.moveD rfl rfl) ?_
  refine AOps.step rfl rfl rfl (AOp.call rfl (.cons (ArgOk.rfl' rfl) .nil) (c_isNaN _)) ?_
  refine AOps.step rfl rfl rfl (AOp.assignD rfl rfl) ?_
  refine AOps.nil ?_
  refine AWP.seq ?_
  refine AWP.seq ?_
  refine AWP.region ?_
  refine AOps.step rfl rfl rfl (AOp.moveD rfl rfl) ?_
  refine AOps.nil ?_
  refine AWP.cond rfl (fun h => nomatch h) (fun _ => ?_)
  refine AWP.skip ?_
  refine AWP.seq ?_
  refine AWP.seq ?_
  refine AWP.region ?_
  refine AOps.step rfl rfl rfl (AOp.moveD rfl rfl) ?_
  refine AOps.nil ?_
  refine AWP.cond rfl (fun h => nomatch h) (fun _ => ?_)
  refine AWP.skip ?_
  refine AWP.seq ?_
  refine AWP.seq ?_
  refine AWP.region ?_
  refine AOps.step rfl rfl rfl (AOp.moveD rfl rfl) ?_
  refine AOps.step rfl rfl rfl (AOp.moveD rfl rfl) ?_
  refine AOps.step rfl rfl rfl (AOp.lss rfl rfl rfl) ?_
  refine AOps.nil ?_
  refine AWP.cond rfl (fun h1 => ?_) (fun h1 => ?_)
  · replace h1 := of_decide_eq_true h1
    rw [if_pos h1]
    refine AWP.seq ?_
    refine AWP.region ?_
    refine AOps.step rfl rfl rfl (AOp.assignD rfl rfl) ?_
    refine AOps.nil ?_
    refine AWP.ret ?_
    refine ⟨RetD.eq rfl ?_, trivial⟩
    all_goals (rfl)
  · replace h1 := of_decide_eq_false h1
    rw [if_neg h1]
    refine AWP.skip ?_
    refine AWP.seq ?_
    refine AWP.seq ?_
    refine AWP.region ?_
    refine AOps.step rfl rfl rfl (AOp.moveD rfl rfl) ?_
    refine AOps.step rfl rfl rfl (AOp.moveD rfl rfl) ?_
    refine AOps.step rfl rfl rfl (AOp.gtr rfl rfl rfl) ?_
    refine AOps.nil ?_
    refine AWP.cond rfl (fun h2 => ?_) (fun h2 => ?_)
    · replace h2 := of_decide_eq_true h2
      rw [if_pos h2]
      refine AWP.seq ?_
      refine AWP.region ?_
      refine AOps.step rfl rfl rfl (AOp.assignD rfl rfl) ?_
      refine AOps.nil ?_
      refine AWP.ret ?_
      refine ⟨RetD.eq rfl ?_, trivial⟩
      all_goals (rfl)
    · replace h2 := of_decide_eq_false h2
      rw [if_neg h2]
      refine AWP.skip ?_
      refine AWP.seq ?_
      refine AWP.region ?_
      refine AOps.step rfl rfl rfl (AOp.assignD rfl rfl) ?_
      refine AOps.nil ?_
      refine AWP.ret ?_
      refine ⟨RetD.eq rfl ?_, trivial⟩
      all_goals (rfl)

set_option maxRecDepth 100000 in
set_option maxHeartbeats 1000000 in
theorem c_divCmp (t : Int) (ws : List Int) (h : DivOk t ws) (i k : Fin ws.length) : ACall Try.prog 18 [.v (.int .i64 (i.val : Int)), .v (.int .i64 (k.val : Int)), .fp [.v (.int .i64 t)], .fp [.sl (ws.map intD)], .fp [.v (.int .i64 ws.sum)]] (.v (.int .i64 (cmpF t ws i k))) := by
  refine acall_of (n := 25) (ds' := [.v (.int .i64 (cmpF t ws i k))]) Try.func18 rfl (by kernel_rfl) rfl [7] rfl rfl ?_
  intro B w0 F0 fr
  have hs := h.s0
  have m1 := mul_bnd h.t0 (h.w0 _ (List.getElem_mem i.isLt))
  have m2 := mul_bnd h.t0 (h.w0 _ (List.getElem_mem k.isLt))
  have hSB := sum_bnd h.w0
  have hn := h.n1
  have HR : cmpF t ws i k = if t * ws[k.val] % ws.sum < t * ws[i.val] % ws.sum then -1 else if t * ws[i.val] % ws.sum < t * ws[k.val] % ws.sum then 1 else 0 := by unfold cmpF rAt; rw [wAt_eq i.isLt, wAt_eq k.isLt]
  refine AWP.seq ?_
  refine AWP.region ?_
  refine AOps.step rfl rfl rfl (AOp.assignD rfl rfl) ?_
  refine AOps.nil ?_
  refine AWP.seq ?_
  refine AWP.draw (by kernel_rfl) (by kernel_rfl) ?_
  refine DRun.step rfl rfl rfl (AOp.load rfl sc_3 rfl) ?_
  refine DRun.step rfl rfl rfl (AOp.load rfl sc_22 rfl) ?_
  refine DRun.step rfl rfl rfl (AOp.moveD rfl rfl) ?_
  refine DRun.step rfl rfl rfl (AOp.indexAddr rfl et_22 rfl rfl k.val rfl (at_list k.isLt) rfl) ?_
  refine DRun.step rfl rfl rfl (AOp.load rfl sc_3 rfl) ?_
  refine DRun.step rfl rfl rfl (AOp.mul64 rfl rfl rfl (by omega) (by omega)) ?_
  refine DRun.step rfl rfl rfl (AOp.load rfl sc_3 rfl) ?_
  refine DRun.step rfl rfl rfl (AOp.rem64 rfl rfl rfl (by omega) (by omega)) ?_
  refine DRun.step rfl rfl rfl (AOp.load rfl sc_3 rfl) ?_
  refine DRun.step rfl rfl rfl (AOp.load rfl sc_22 rfl) ?_
  refine DRun.step rfl rfl rfl (AOp.moveD rfl rfl) ?_
  refine DRun.step rfl rfl rfl (AOp.indexAddr rfl et_22 rfl rfl i.val rfl (at_list i.isLt) rfl) ?_
  refine DRun.step rfl rfl rfl (AOp.load rfl sc_3 rfl) ?_
  refine DRun.step rfl rfl rfl (AOp.mul64 rfl rfl rfl (by omega) (by omega)) ?_
  refine DRun.step rfl rfl rfl (AOp.load rfl sc_3 rfl) ?_
  refine DRun.step rfl rfl rfl (AOp.rem64 rfl rfl rfl (by omega) (by omega)) ?_
  refine DRun.step rfl rfl rfl (AOp.call rfl (.cons (ArgOk.rfl' rfl) (.cons (ArgOk.rfl' rfl) .nil)) (c_cmpInt _ _)) ?_
  refine DRun.step rfl rfl rfl (AOp.assignD rfl rfl) ?_
  refine DRun.nil ?_
  refine AWP.ret ?_
  refine ⟨RetD.eq rfl ?_, trivial⟩
  all_goals (rw [HR])

set_option maxRecDepth 100000 in
set_option maxHeartbeats 1000000 in
theorem c_pDiv (t : Int) (ws : List Int) : ACall Try.prog 6 [.v (.int .i64 t), .sl (ws.map intD)] (.tup [.sl (divR t ws), .v (.int .i64 (divFault t ws))]) := by
  refine acall_of (n := 92) (ds' := [.sl (divR t ws), .v (.int .i64 (divFault t ws))]) Try.func6 rfl (by kernel_rfl) rfl [4, 5] rfl rfl ?_
  intro B w0 F0 fr
  refine AWP.seq ?_
  refine AWP.region ?_
  refine AOps.step rfl rfl rfl (AOp.box rfl rfl rfl) ?_
  refine AOps.step rfl rfl rfl (AOp.box rfl rfl rfl) ?_
  refine AOps.step rfl rfl rfl (AOp.assignD rfl rfl) ?_
  refine AOps.step rfl rfl rfl (AOp.assignD rfl rfl) ?_
  refine AOps.nil ?_
  refine AWP.seq ?_
  refine AWP.seq ?_
  refine AWP.region ?_
  refine AOps.step rfl rfl rfl (AOp.load rfl sc_22 rfl) ?_
  refine AOps.step rfl rfl rfl (AOp.lenSl rfl et_22.ht rfl) ?_
  refine AOps.step rfl rfl rfl (AOp.eql rfl rfl rfl) ?_
  refine AOps.nil ?_
  refine AWP.cond rfl (fun h1 => ?_) (fun h1 => ?_)
  · replace h1 := of_decide_eq_true h1
    rw [List.length_map] at h1
    have HF := div_9 (t := t) h1
    have HR := divR_bad (t := t) (ws := ws) (by rw [HF]; decide)
    rw [HR, HF]
    refine AWP.seq ?_
    refine AWP.region ?_
    refine AOps.step rfl rfl rfl (AOp.assignD rfl rfl) ?_
    refine AOps.step rfl rfl rfl (AOp.assignD rfl rfl) ?_
    refine AOps.nil ?_
    refine AWP.ret ?_
    refine ⟨RetD.nil rfl, RetD.eq rfl ?_, trivial⟩
    all_goals (first | rfl | (rw [Int.toNat_natCast]))
  · replace h1 := of_decide_eq_false h1
    rw [List.length_map] at h1
    have g0 := h1
    refine AWP.skip ?_
    refine AWP.seq ?_
    refine AWP.seq ?_
    refine AWP.region ?_
    refine AOps.step rfl rfl rfl (AOp.load rfl sc_22 rfl) ?_
    refine AOps.step rfl rfl rfl (AOp.lenSl rfl et_22.ht rfl) ?_
    refine AOps.step rfl rfl rfl (AOp.gtr rfl rfl rfl) ?_
    refine AOps.nil ?_
    refine AWP.cond rfl (fun h2 => ?_) (fun h2 => ?_)
    · replace h2 := of_decide_eq_true h2
      rw [List.length_map] at h2
      have HF := div_2 (t := t) g0 h2
      have HR := divR_bad (t := t) (ws := ws) (by rw [HF]; decide)
      rw [HR, HF]
      refine AWP.seq ?_
      refine AWP.region ?_
      refine AOps.step rfl rfl rfl (AOp.assignD rfl rfl) ?_
      refine AOps.step rfl rfl rfl (AOp.assignD rfl rfl) ?_
      refine AOps.nil ?_
      refine AWP.ret ?_
      refine ⟨RetD.nil rfl, RetD.eq rfl ?_, trivial⟩
      all_goals (first | rfl | (rw [Int.toNat_natCast]))
    · replace h2 := of_decide_eq_false h2
      rw [List.length_map] at h2
      have g1 := h2
      refine AWP.skip ?_
      refine AWP.seq ?_
      refine AWP.seq ?_
      refine AWP.region ?_
      refine AOps.step rfl rfl rfl (AOp.load rfl sc_3 rfl) ?_
      refine AOps.step rfl rfl rfl (AOp.call rfl (.cons (ArgOk.rfl' rfl) (.cons (ArgOk.rfl' rfl) (.cons (ArgOk.rfl' rfl) .nil))) (c_pWithin _ _ _)) ?_
      refine AOps.step rfl rfl rfl (AOp.not rfl rfl) ?_
      refine AOps.nil ?_
      refine AWP.cond rfl (fun h3 => ?_) (fun h3 => ?_)
      · replace h3 := bnot_t h3; replace h3 := of_decide_eq_false h3
        have HF := div_1 g0 g1 h3
        have HR := divR_bad (t := t) (ws := ws) (by rw [HF]; decide)
        rw [HR, HF]
        refine AWP.seq ?_
        refine AWP.region ?_
        refine AOps.step rfl rfl rfl (AOp.assignD rfl rfl) ?_
        refine AOps.step rfl rfl rfl (AOp.assignD rfl rfl) ?_
        refine AOps.nil ?_
        refine AWP.ret ?_
        refine ⟨RetD.nil rfl, RetD.eq rfl ?_, trivial⟩
        all_goals (first | rfl | (rw [Int.toNat_natCast]))
      · replace h3 := bnot_f h3; replace h3 := of_decide_eq_true h3
        have g2 := h3
        refine AWP.skip ?_
        refine AWP.seq ?_
        refine AWP.region ?_
        refine AOps.alloc 101 rfl rfl rfl rfl zt_3 rfl rfl rfl ?_
        refine AOps.store rfl rfl rfl sz_3 rfl (.head _) rfl rfl rfl (Nat.le_of_ble_eq_true rfl) ?_
        refine AOps.nil ?_
        refine AWP.seq ?_
        refine AWP.seq ?_
        refine AWP.region ?_
        refine AOps.step rfl rfl rfl (AOp.load rfl sc_22 rfl) ?_
        refine AOps.step rfl rfl rfl (AOp.lenSl rfl et_22.ht rfl) ?_
        refine AOps.step rfl rfl rfl (AOp.moveD rfl rfl) ?_
        refine AOps.nil ?_
        refine AWP.block ?_
        refine AWP.loop (G := Nat) (fun k => Env.of [(27, .d (.v (.int .i64 (k : Int)))), (25, .d (.sl (ws.map intD))), (26, .d (.v (.int .i64 ((ws.map intD).length : Int)))), (6, .ptr 101 0), (2, .d (.fp [.v (.int .i64 t)])), (3, .d (.fp [.sl (ws.map intD)]))]) (fun k => [(101, .cells [.d (.v (.int .i64 (ws.take k).sum))])]) (fun k => k ≤ ws.length ∧ ∀ w ∈ ws.take k, 0 ≤ w ∧ w ≤ 1000000000) (fun k => ws.length - k) 0 ⟨Nat.zero_le _, fun w hw => by simp at hw⟩ (Sub.less ⟨(SLe.of_eq rfl), SLe.refl _, SLe.refl _, SLe.refl _, SLe.refl _, SLe.refl _, trivial⟩ (fun _ h => h)) ?_
        intro k hk
        refine AWP.seq ?_
        refine AWP.region ?_
        refine AOps.step rfl rfl rfl (AOp.lss rfl rfl rfl) ?_
        refine AOps.nil ?_
        refine AWP.seq ?_
        refine AWP.cond rfl (fun h4 => ?_) (fun h4 => ?_)
        · replace h4 := of_decide_eq_true h4
          rw [List.length_map] at h4
          have hlt : k < ws.length := by omega
          have hsb := sum_bnd (l := ws.take k) hk.2
          have htl : ((ws.take k).length : Int) ≤ 500 := by rw [List.length_take]; omega
          have hts := take_sum hlt
          refine AWP.skip ?_
          refine AWP.seq ?_
          refine AWP.block ?_
          refine AWP.seq ?_
          refine AWP.region ?_
          refine AOps.step rfl rfl rfl (AOp.indexAddr rfl et_22 rfl rfl k rfl (at_list hlt) rfl) ?_
          refine AOps.step rfl rfl rfl (AOp.load rfl sc_3 rfl) ?_
          refine AOps.step rfl rfl rfl (AOp.assignD rfl rfl) ?_
          refine AOps.nil ?_
          refine AWP.seq ?_
          refine AWP.seq ?_
          refine AWP.region ?_
          refine AOps.step rfl rfl rfl (AOp.moveD rfl rfl) ?_
          refine AOps.step rfl rfl rfl (AOp.call rfl (.cons (ArgOk.rfl' rfl) (.cons (ArgOk.rfl' rfl) (.cons (ArgOk.rfl' rfl) .nil))) (c_pWithin _ _ _)) ?_
          refine AOps.step rfl rfl rfl (AOp.not rfl rfl) ?_
          refine AOps.nil ?_
          refine AWP.cond rfl (fun h5 => ?_) (fun h5 => ?_)
          · replace h5 := bnot_t h5; replace h5 := of_decide_eq_false h5
            have HF := div_1w (t := t) g0 g1 g2 ⟨_, List.getElem_mem hlt, h5⟩
            have HR := divR_bad (t := t) (ws := ws) (by rw [HF]; decide)
            rw [HR, HF]
            refine AWP.seq ?_
            refine AWP.region ?_
            refine AOps.step rfl rfl rfl (AOp.assignD rfl rfl) ?_
            refine AOps.step rfl rfl rfl (AOp.assignD rfl rfl) ?_
            refine AOps.nil ?_
            refine AWP.ret ?_
            refine ⟨RetD.nil rfl, RetD.eq rfl ?_, trivial⟩
            all_goals (first | rfl | (rw [Int.toNat_natCast]))
          · replace h5 := bnot_f h5; replace h5 := of_decide_eq_true h5
            have hN := take_next hlt hk.2 h5
            refine AWP.skip ?_
            refine AWP.region ?_
            refine AOps.step rfl rfl rfl (AOp.loadP rfl sc_3 rfl (.head _) rfl) ?_
            refine AOps.step rfl rfl rfl (AOp.moveD rfl rfl) ?_
            refine AOps.step rfl rfl rfl (AOp.add64 rfl rfl rfl (by omega) (by omega)) ?_
            refine AOps.store rfl rfl rfl sz_3 rfl (.head _) rfl rfl rfl (Nat.le_of_ble_eq_true rfl) ?_
            refine AOps.nil ?_
            refine AWP.region ?_
            refine AOps.step rfl rfl rfl (AOp.add64 rfl rfl rfl (by omega) (by omega)) ?_
            refine AOps.step rfl rfl rfl (AOp.moveD rfl rfl) ?_
            refine AOps.nil ?_
            refine ⟨k + 1, ⟨by omega, hN⟩, (by dsimp only; omega), Sub.less ⟨(SLe.of_eq rfl), SLe.refl _, SLe.refl _, SLe.refl _, SLe.refl _, SLe.refl _, trivial⟩ (by dsimp only; rw [hts]; exact fun _ h => h)⟩
        · replace h4 := of_decide_eq_false h4
          rw [List.length_map] at h4
          obtain rfl : k = ws.length := by omega
          rw [List.take_length]
          have hall := all_take hk.2
          have HD := div_in (t := t) g0 g1 g2 hall
          have hsb := sum_bnd hall
          refine AWP.exit ?_
          refine AWP.seq ?_
          refine AWP.seq ?_
          refine AWP.region ?_
          refine AOps.step rfl rfl rfl (AOp.loadP rfl sc_3 rfl (.head _) rfl) ?_
          refine AOps.step rfl rfl rfl (AOp.eql rfl rfl rfl) ?_
          refine AOps.nil ?_
          refine AWP.cond rfl (fun h6 => ?_) (fun h6 => ?_)
          · replace h6 := of_decide_eq_true h6
            have HF : divFault t ws = 13 := HD.trans (if_pos h6)
            have HR := divR_bad (t := t) (ws := ws) (by rw [HF]; decide)
            rw [HR, HF]
            refine AWP.seq ?_
            refine AWP.region ?_
            refine AOps.step rfl rfl rfl (AOp.assignD rfl rfl) ?_
            refine AOps.step rfl rfl rfl (AOp.assignD rfl rfl) ?_
            refine AOps.nil ?_
            refine AWP.ret ?_
            refine ⟨RetD.nil rfl, RetD.eq rfl ?_, trivial⟩
            all_goals (first | rfl | (rw [Int.toNat_natCast]))
          · replace h6 := of_decide_eq_false h6
            have HF : divFault t ws = 0 := HD.trans (if_neg h6)
            have ok : DivOk t ws := ⟨by omega, by omega, g2, hall, by omega⟩
            have hs := ok.s0
            have hn0 := ok.n0
            have hn1 := ok.n1
            have HR : divR t ws = rowF (outF t ws (leftTo t ws ws.length).toNat) ws.length := if_pos HF
            rw [HR, HF]
            refine AWP.skip ?_
            refine AWP.seq ?_
            refine AWP.region ?_
            refine AOps.step rfl rfl rfl (AOp.load rfl sc_22 rfl) ?_
            refine AOps.step rfl rfl rfl (AOp.lenSl rfl et_22.ht rfl) ?_
            refine AOps.makeI 102 ws.length rfl rfl rfl rfl et_22 rfl rfl (by rw [List.length_map]) (by omega) (by omega) rfl rfl ?_
            refine AOps.step rfl rfl rfl (AOp.assignO rfl rfl) ?_
            refine AOps.nil ?_
            refine AWP.seq ?_
            refine AWP.region ?_
            refine AOps.step rfl rfl rfl (AOp.load rfl sc_22 rfl) ?_
            refine AOps.step rfl rfl rfl (AOp.lenSl rfl et_22.ht rfl) ?_
            refine AOps.makeI 103 ws.length rfl rfl rfl rfl et_22 rfl rfl (by rw [List.length_map]) (by omega) (by omega) rfl rfl ?_
            refine AOps.step rfl rfl rfl (AOp.assignO rfl rfl) ?_
            refine AOps.nil ?_
            refine AWP.seq ?_
            refine AWP.region ?_
            refine AOps.step rfl rfl rfl (AOp.load rfl sc_3 rfl) ?_
            refine AOps.step rfl rfl rfl (AOp.assignD rfl rfl) ?_
            refine AOps.nil ?_
            refine AWP.seq ?_
            refine AWP.seq ?_
            refine AWP.region ?_
            refine AOps.step rfl rfl rfl (AOp.load rfl sc_22 rfl) ?_
            refine AOps.step rfl rfl rfl (AOp.lenSl rfl et_22.ht rfl) ?_
            refine AOps.step rfl rfl rfl (AOp.moveD rfl rfl) ?_
            refine AOps.nil ?_
            refine AWP.block ?_
            refine AWP.loop (G := Nat) (fun k => Env.of [(49, .d (.v (.int .i64 (k : Int)))), (47, .d (.sl (ws.map intD))), (48, .d (.v (.int .i64 ((ws.map intD).length : Int)))), (6, .ptr 101 0), (9, .own 102), (10, .own 103), (11, .d (.v (.int .i64 (leftTo t ws k)))), (2, .d (.fp [.v (.int .i64 t)])), (3, .d (.fp [.sl (ws.map intD)]))]) (fun k => [(103, .row 3 1 (rowF (fun i => if i < k then (i : Int) else 0) ws.length)), (102, .row 3 1 (rowF (fun i => if i < k then qAt t ws i else 0) ws.length)), (101, .cells [.d (.v (.int .i64 ws.sum))])]) (fun k => k ≤ ws.length) (fun k => ws.length - k) 0 (Nat.zero_le _) (Sub.less ⟨(SLe.of_eq rfl), SLe.refl _, SLe.refl _, SLe.refl _, SLe.refl _, SLe.refl _, (SLe.i64 (by simp [leftTo])), SLe.refl _, SLe.refl _, trivial⟩ (rows_2c ((rowF_zero _).trans (rowF_congr fun i _ => by simp)) ((rowF_zero _).trans (rowF_congr fun i _ => by simp)))) ?_
            intro k hk
            refine AWP.seq ?_
            refine AWP.region ?_
            refine AOps.step rfl rfl rfl (AOp.lss rfl rfl rfl) ?_
            refine AOps.nil ?_
            refine AWP.seq ?_
            refine AWP.cond rfl (fun h7 => ?_) (fun h7 => ?_)
            · replace h7 := of_decide_eq_true h7
              rw [List.length_map] at h7
              have hlt : k < ws.length := by omega
              have m1 := mul_bnd g2 (hall _ (List.getElem_mem hlt))
              have hq : qAt t ws k = t * ws[k] / ws.sum := by unfold qAt; rw [wAt_eq hlt]
              have hqb := ok.qB hlt
              have hl1 := ok.leftB (k := k) (by omega)
              have hl2 := leftTo_succ t ws k
              rw [hq] at hqb hl2
              refine AWP.skip ?_
              refine AWP.seq ?_
              refine AWP.block ?_
              refine AWP.seq ?_
              refine AWP.region ?_
              refine AOps.step rfl rfl rfl (AOp.moveD rfl rfl) ?_
              refine AOps.step rfl rfl rfl (AOp.indexAddr rfl et_22 rfl rfl k rfl (at_list hlt) rfl) ?_
              refine AOps.step rfl rfl rfl (AOp.load rfl sc_3 rfl) ?_
              refine AOps.step rfl rfl rfl (AOp.assignD rfl rfl) ?_
              refine AOps.step rfl rfl rfl (AOp.assignD rfl rfl) ?_
              refine AOps.nil ?_
              refine AWP.seq ?_
              refine AWP.region ?_
              refine AOps.step rfl rfl rfl (AOp.moveO rfl rfl) ?_
              refine AOps.step rfl rfl rfl (AOp.moveD rfl rfl) ?_
              refine AOps.step rfl rfl rfl (AOp.moveO rfl rfl) ?_
              refine AOps.step rfl rfl rfl (AOp.moveD rfl rfl) ?_
              refine AOps.step rfl rfl rfl (AOp.load rfl sc_3 rfl) ?_
              refine AOps.step rfl rfl rfl (AOp.moveD rfl rfl) ?_
              refine AOps.step rfl rfl rfl (AOp.mul64 rfl rfl rfl (by omega) (by omega)) ?_
              refine AOps.step rfl rfl rfl (AOp.loadP rfl sc_3 rfl (.tail _ (.tail _ (.head _))) rfl) ?_
              refine AOps.step rfl rfl rfl (AOp.quo64 rfl rfl rfl (by omega) (by omega) (by omega)) ?_
              refine AOps.step rfl rfl rfl (AOp.moveD rfl rfl) ?_
              refine AOps.step rfl rfl rfl (AOp.indexOwn rfl et_22 rfl rfl (.tail _ (.head _)) k rfl (by rw [rowF_len]; exact hlt)) ?_
              refine AOps.storeRow rfl rfl rfl sz_3 rfl (.tail _ (.head _)) rfl rfl rfl k 0 rfl (rowF_at hlt) (Nat.le_of_ble_eq_true rfl) ?_
              refine AOps.step rfl rfl rfl (AOp.indexOwn rfl et_22 rfl rfl (.head _) k rfl (by rw [rowF_len]; exact hlt)) ?_
              refine AOps.storeRow rfl rfl rfl sz_3 rfl (.head _) rfl rfl rfl k 0 rfl (rowF_at hlt) (Nat.le_of_ble_eq_true rfl) ?_
              refine AOps.nil ?_
              refine AWP.region ?_
              refine AOps.step rfl rfl rfl (AOp.moveD rfl rfl) ?_
              refine AOps.step rfl rfl rfl (AOp.moveO rfl rfl) ?_
              refine AOps.step rfl rfl rfl (AOp.moveD rfl rfl) ?_
              refine AOps.step rfl rfl rfl (AOp.indexOwn rfl et_22 rfl rfl (.tail _ (.head _)) k rfl (by rw [List.length_set, rowF_len]; exact hlt)) ?_
              refine AOps.step rfl rfl rfl (AOp.loadRow rfl sc_3 rfl (.tail _ (.head _)) k 0 rfl (List.getElem?_set_self (by rw [rowF_len]; exact hlt)) rfl) ?_
              refine AOps.step rfl rfl rfl (AOp.sub64 rfl rfl rfl (by omega) (by omega)) ?_
              refine AOps.step rfl rfl rfl (AOp.assignD rfl rfl) ?_
              refine AOps.nil ?_
              refine AWP.region ?_
              refine AOps.step rfl rfl rfl (AOp.add64 rfl rfl rfl (by omega) (by omega)) ?_
              refine AOps.step rfl rfl rfl (AOp.moveD rfl rfl) ?_
              refine AOps.nil ?_
              refine ⟨k + 1, (by omega), (by dsimp only; omega), Sub.less ⟨(SLe.of_eq rfl), SLe.refl _, SLe.refl _, SLe.refl _, SLe.refl _, SLe.refl _, (SLe.i64 (by rw [hl2])), SLe.refl _, SLe.refl _, trivial⟩ (rows_2c (rowF_set hlt fun i _ => step_if (fun i => (i : Int)) k i) (rowF_set hlt fun i _ => by rw [← hq]; exact step_if (qAt t ws) k i))⟩
            · replace h7 := of_decide_eq_false h7
              rw [List.length_map] at h7
              obtain rfl : k = ws.length := by omega
              have hl1 := ok.leftB (k := ws.length) (Nat.le_refl _)
              have hlN := ok.leftN
              obtain ⟨L, hL⟩ : ∃ L : Nat, leftTo t ws ws.length = (L : Int) := ⟨(leftTo t ws ws.length).toNat, by omega⟩
              rw [hL] at hlN
              have hol := ordL_len t ws
              rw [hL]
              have HO : rowF (fun i => if i < ws.length then (i : Int) else 0) ws.length = (idL ws.length).map fds := (rowF_congr fun i hi => if_pos hi).trans (idL_row _).symm
              have HQ : rowF (fun i => if i < ws.length then qAt t ws i else 0) ws.length = rowF (outF t ws 0) ws.length := rowF_congr fun i hi => by rw [if_pos hi]; unfold outF pick; simp
              rw [HO, HQ]
              have hio := idL_len ws.length
              refine AWP.exit ?_
              refine AWP.seq ?_
              refine AWP.freezeCells 6 (ds := [.v (.int .i64 ws.sum)]) rfl (.tail _ (.tail _ (.head _))) ?_
              refine AWP.region ?_
              refine AOps.step rfl rfl rfl (AOp.moveO rfl rfl) ?_
              refine AOps.step rfl rfl rfl (AOp.makeFunc rfl (.cons (ArgOk.rfl' rfl) (.cons (ArgOk.rfl' rfl) (.cons (ArgOk.rfl' rfl) .nil)))) ?_
              -- turns 103
              refine AOps.callX rfl rfl rfl (.cons (SLe.refl _) (.cons (SLe.refl _) .nil)) ((c_sortStable (cmpF t ws) (pre_cmpF t ws _) _ [.fp [.v (.int .i64 t)], .fp [.sl (ws.map intD)], .fp [.v (.int .i64 ws.sum)]] (fun x y => c_divCmp t ws ok x y) (idL ws.length) (by rw [idL_len]; omega) (idL_tags _) (idL_incr' _ _)) 103) ⟨(.head _), trivial⟩ rfl rfl (fun _ h => nomatch h) ?_
              refine AOps.nil ?_
              refine AWP.seq ?_
              refine AWP.seq ?_
              refine AWP.region ?_
              refine AOps.step rfl rfl rfl (AOp.moveO rfl rfl) ?_
              refine AOps.freeze 76 rfl (.head _) ?_
              refine AOps.step rfl rfl rfl (AOp.moveD rfl rfl) ?_
              refine AOps.step rfl rfl rfl (AOp.sliceH rfl et_22 rfl rfl (by omega) (by rw [List.length_map]; show (L : Int) ≤ ((ordL t ws).length : Int); omega) (fun y hy => by obtain ⟨z, _, rfl⟩ := List.mem_map.1 hy; rfl)) ?_
              refine AOps.step rfl rfl rfl (AOp.lenSl rfl et_22.ht rfl) ?_
              refine AOps.step rfl rfl rfl (AOp.moveD rfl rfl) ?_
              refine AOps.nil ?_
              refine AWP.block ?_
              refine AWP.loop (G := Nat) (fun j => Env.of [(80, .d (.v (.int .i64 (j : Int)))), (78, .d (.sl (((ordL t ws).map fds).take L))), (79, .d (.v (.int .i64 (L : Int)))), (9, .own 102)]) (fun j => [(102, .row 3 1 (rowF (outF t ws j) ws.length))]) (fun j => j ≤ L) (fun j => L - j) 0 (Nat.zero_le _) (Sub.less ⟨(SLe.i64 rfl), (SLe.of_eq rfl), (SLe.i64 (by show ((((ordL t ws).map fds).take L).length : Int) = L; rw [List.length_take, List.length_map]; omega)), SLe.refl _, trivial⟩ (row_same rfl)) ?_
              intro j hj
              refine AWP.seq ?_
              refine AWP.region ?_
              refine AOps.step rfl rfl rfl (AOp.lss rfl rfl rfl) ?_
              refine AOps.nil ?_
              refine AWP.seq ?_
              refine AWP.cond rfl (fun h8 => ?_) (fun h8 => ?_)
              · replace h8 := of_decide_eq_true h8
                have hjL : j < L := by omega
                have hjo : j < (ordL t ws).length := by omega
                have hget : (((ordL t ws).map fds).take L)[j]? = some (fds (ordL t ws)[j]) := by rw [List.getElem?_take, if_pos hjL]; exact at_list hjo
                have hob := ok.outB j (ordL t ws)[j].1.isLt
                refine AWP.skip ?_
                refine AWP.seq ?_
                refine AWP.block ?_
                refine AWP.seq ?_
                refine AWP.region ?_
                refine AOps.step rfl rfl rfl (AOp.indexAddr rfl et_22 rfl rfl j rfl hget rfl) ?_
                refine AOps.step rfl rfl rfl (AOp.load rfl sc_3 rfl) ?_
                refine AOps.step rfl rfl rfl (AOp.assignD rfl rfl) ?_
                refine AOps.nil ?_
                refine AWP.region ?_
                refine AOps.step rfl rfl rfl (AOp.moveO rfl rfl) ?_
                refine AOps.step rfl rfl rfl (AOp.moveD rfl rfl) ?_
                refine AOps.step rfl rfl rfl (AOp.indexOwn rfl et_22 rfl rfl (.head _) (ordL t ws)[j].1.val rfl (by rw [rowF_len]; exact (ordL t ws)[j].1.isLt)) ?_
                refine AOps.step rfl rfl rfl (AOp.loadRow rfl sc_3 rfl (.head _) (ordL t ws)[j].1.val 0 rfl (rowF_at (ordL t ws)[j].1.isLt) rfl) ?_
                refine AOps.step rfl rfl rfl (AOp.add64 rfl rfl rfl (by omega) (by omega)) ?_
                refine AOps.step rfl rfl rfl (AOp.indexOwn rfl et_22 rfl rfl (.head _) (ordL t ws)[j].1.val rfl (by rw [rowF_len]; exact (ordL t ws)[j].1.isLt)) ?_
                refine AOps.storeRow rfl rfl rfl sz_3 rfl (.head _) rfl rfl rfl (ordL t ws)[j].1.val 0 rfl (rowF_at (ordL t ws)[j].1.isLt) (Nat.le_of_ble_eq_true rfl) ?_
                refine AOps.nil ?_
                refine AWP.region ?_
                refine AOps.step rfl rfl rfl (AOp.add64 rfl rfl rfl (by omega) (by omega)) ?_
                refine AOps.step rfl rfl rfl (AOp.moveD rfl rfl) ?_
                refine AOps.nil ?_
                refine ⟨j + 1, (by omega), (by dsimp only; omega), Sub.less ⟨(SLe.i64 rfl), SLe.refl _, SLe.refl _, SLe.refl _, trivial⟩ (row_same (rowF_set (ordL t ws)[j].1.isLt fun i _ => outF_succ hjo i))⟩
              · replace h8 := of_decide_eq_false h8
                obtain rfl : j = L := by omega
                refine AWP.exit ?_
                refine AWP.seq ?_
                refine AWP.region ?_
                refine AOps.step rfl rfl rfl (AOp.moveO rfl rfl) ?_
                refine AOps.step rfl rfl rfl (AOp.assignO rfl rfl) ?_
                refine AOps.step rfl rfl rfl (AOp.assignD rfl rfl) ?_
                refine AOps.nil ?_
                refine AWP.ret ?_
                refine ⟨RetD.own rfl (.head _) ?_, RetD.eq rfl ?_, trivial⟩
                all_goals (first | rfl | (rw [Int.toNat_natCast]))

end Go.Proofs.Ytpihcfpdaoflbaa
