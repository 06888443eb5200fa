/- Walks over abstract values. Printed by tools/gen.py. No statement of the seat. -/
import Derived.Test.YtpihcfpdaoflbaaG3
namespace Go.Proofs.Ytpihcfpdaoflbaa
open Go.RowKit
set_option linter.unusedVariables false

/-! Types. -/
namespace TyG4
theorem et_22 : ElemTy Try.prog 22 3 1 8 (.int .i64 0) := ⟨by kernel_rfl, by kernel_rfl, by kernel_rfl, by decide⟩
theorem sc_3 : Scal Try.prog 3 := .of (by kernel_rfl)
end TyG4
open TyG4


theorem get_mem {α : Type} {l : List α} {k : Nat} (h : k < l.length) : l[k]? = some l[k] := List.getElem?_eq_getElem h
theorem rowF_int (f : Nat → Int) (n : Nat) : ∀ x ∈ rowF f n, ∃ z : Int, x = [D.v (.int .i64 z)] := by
  intro x hx
  obtain ⟨i, _, rfl⟩ := List.mem_map.1 hx
  exact ⟨_, rfl⟩
theorem divR_int (t : Int) (ws : List Int) : ∀ x ∈ divR t ws, ∃ z : Int, x = [D.v (.int .i64 z)] := by
  unfold divR
  split
  · exact rowF_int _ _
  · intro x hx; cases hx
theorem fault31 : divFault 3 [1, 1] = 0 := by decide
theorem left31 : leftTo 3 [1, 1] 2 = 1 := by decide
theorem pick31 : pick 3 [1, 1] 1 = [0] := by
  have hl : (ordL 3 [1, 1]).length = 2 := ordL_len _ _
  have h := ordL_sorted (t := 3) (ws := [1, 1]) (m := 0) (k := 1) (by omega) (by omega)
  have hr : ∀ i, i < 2 → rAt 3 [1, 1] i = 1 := by decide
  have b0 : (ordL 3 [1, 1])[0].1.val < 2 := (ordL 3 [1, 1])[0].1.isLt
  have b1 : (ordL 3 [1, 1])[1].1.val < 2 := (ordL 3 [1, 1])[1].1.isLt
  rw [hr _ b0, hr _ b1] at h
  have h0 : (ordL 3 [1, 1])[0].1.val = 0 := by omega
  rw [pick_succ (by omega), h0]
  rfl
theorem divR31 : divR 3 [1, 1] = [[D.v (.int .i64 2)], [D.v (.int .i64 1)]] := by
  have hr : ∀ i, i < 2 → qAt 3 [1, 1] i = 1 := by decide
  have h1 : outF 3 [1, 1] 1 0 = 2 := by unfold outF; rw [pick31, hr 0 (by decide)]; rfl
  have h2 : outF 3 [1, 1] 1 1 = 1 := by unfold outF; rw [pick31, hr 1 (by decide)]; rfl
  unfold divR
  rw [if_pos fault31]
  show rowF (outF 3 [1, 1] (leftTo 3 [1, 1] 2).toNat) 2 = _
  rw [left31]
  show [intD (outF 3 [1, 1] 1 0), intD (outF 3 [1, 1] 1 1)] = _
  rw [h1, h2]
  rfl
theorem c_pDiv31 : ACall Try.prog 6 [.v (.int .i64 3), .sl [[.v (.int .i64 1)], [.v (.int .i64 1)]]] (.tup [.sl [[.v (.int .i64 2)], [.v (.int .i64 1)]], .v (.int .i64 0)]) := by
  have h := c_pDiv 3 [1, 1]
  rw [fault31, divR31] at h
  exact h
def sumO (t : Int) (ws : List Int) (L k : Nat) : Int := ((List.range k).map (outF t ws L)).sum
theorem sumO_succ (t : Int) (ws : List Int) (L k : Nat) : sumO t ws L (k + 1) = sumO t ws L k + outF t ws L k := by unfold sumO; rw [List.range_succ, List.map_append, List.sum_append]; simp
theorem sumO_bnd {t : Int} {ws : List Int} (ok : DivOk t ws) (L : Nat) : ∀ k, k ≤ ws.length → 0 ≤ sumO t ws L k ∧ sumO t ws L k ≤ 1000000001 * (k : Int)
  | 0, _ => by simp [sumO]
  | k + 1, hk => by
    have h := sumO_bnd ok L k (by omega)
    have h2 := ok.outB L (k := k) (by omega)
    rw [sumO_succ]
    omega
theorem outF_near (t : Int) (ws : List Int) (L k : Nat) : qAt t ws k ≤ outF t ws L k ∧ outF t ws L k ≤ qAt t ws k + 1 := by unfold outF; split <;> omega
theorem div_zero_ok {t : Int} {ws : List Int} (h : divFault t ws = 0) : DivOk t ws := by
  unfold divFault at h
  by_cases h1 : (ws.length : Int) = 0
  · rw [if_pos h1] at h; exact absurd h (by decide)
  rw [if_neg h1] at h
  by_cases h2 : 500 < (ws.length : Int)
  · rw [if_pos h2] at h; exact absurd h (by decide)
  rw [if_neg h2] at h
  by_cases h3 : ¬ (0 ≤ t ∧ t ≤ 1000000000)
  · rw [if_pos h3] at h; exact absurd h (by decide)
  rw [if_neg h3] at h
  by_cases h4 : ∃ w ∈ ws, ¬ (0 ≤ w ∧ w ≤ 1000000000)
  · rw [if_pos h4] at h; exact absurd h (by decide)
  rw [if_neg h4] at h
  by_cases h5 : ws.sum = 0
  · rw [if_pos h5] at h; exact absurd h (by decide)
  have hw : ∀ w ∈ ws, 0 ≤ w ∧ w ≤ 1000000000 := fun w hw => Classical.byContradiction fun hn => h4 ⟨w, hw, hn⟩
  have hb := sum_bnd hw
  exact ⟨by omega, by omega, Decidable.not_not.1 h3, hw, by omega⟩


set_option maxRecDepth 100000 in
set_option maxHeartbeats 1000000 in
theorem c_eqInt (l : List (List D)) (hl : ∀ x ∈ l, ∃ z : Int, x = [D.v (.int .i64 z)]) : ACall Try.prog 8 [.sl l, .sl l] (.v (.bool true)) := by
  refine acall_of (n := 26) (ds' := [.v (.bool true)]) Try.func8 rfl (by kernel_rfl) rfl [4] rfl rfl ?_
  intro B w0 F0 fr
  refine AWP.bound 0 rfl (fun hbd => ?_)
  refine AWP.seq ?_
  refine AWP.region ?_
  refine AOps.step rfl rfl rfl (AOp.assignD rfl rfl) ?_
  refine AOps.nil ?_
  refine AWP.seq ?_
  refine AWP.seq ?_
  refine AWP.region ?_
  refine AOps.step rfl rfl rfl (AOp.moveD rfl rfl) ?_
  refine AOps.step rfl rfl rfl (AOp.lenSl rfl et_22.ht rfl) ?_
  refine AOps.step rfl rfl rfl (AOp.moveD rfl rfl) ?_
  refine AOps.step rfl rfl rfl (AOp.lenSl rfl et_22.ht rfl) ?_
  refine AOps.step rfl rfl rfl (AOp.neq rfl rfl rfl) ?_
  refine AOps.nil ?_
  refine AWP.cond rfl (fun h1 => ?_) (fun h1 => ?_)
  · replace h1 := of_decide_eq_true h1
    exact absurd rfl h1
  · replace h1 := of_decide_eq_false h1
    refine AWP.skip ?_
    refine AWP.seq ?_
    refine AWP.seq ?_
    refine AWP.region ?_
    refine AOps.step rfl rfl rfl (AOp.moveD rfl rfl) ?_
    refine AOps.step rfl rfl rfl (AOp.lenSl rfl et_22.ht rfl) ?_
    refine AOps.step rfl rfl rfl (AOp.moveD rfl rfl) ?_
    refine AOps.nil ?_
    refine AWP.block ?_
    refine AWP.loop (G := Nat) (fun k => Env.of [(13, .d (.v (.int .i64 (k : Int)))), (0, .d (.sl l)), (1, .d (.sl l)), (12, .d (.v (.int .i64 (l.length : Int))))]) (fun k => []) (fun k => k ≤ l.length) (fun k => l.length - k) 0 (Nat.zero_le _) (Sub.less ⟨(SLe.of_eq rfl), SLe.refl _, SLe.refl _, SLe.refl _, trivial⟩ (fun _ h => h)) ?_
    intro k hk
    refine AWP.seq ?_
    refine AWP.region ?_
    refine AOps.step rfl rfl rfl (AOp.lss rfl rfl rfl) ?_
    refine AOps.nil ?_
    refine AWP.seq ?_
    refine AWP.cond rfl (fun h2 => ?_) (fun h2 => ?_)
    · replace h2 := of_decide_eq_true h2
      have hlt : k < l.length := by omega
      obtain ⟨z, hz⟩ := hl _ (List.getElem_mem hlt)
      have hg := get_mem hlt
      rw [hz] at hg
      refine AWP.skip ?_
      refine AWP.seq ?_
      refine AWP.block ?_
      refine AWP.seq ?_
      refine AWP.region ?_
      refine AOps.step rfl rfl rfl (AOp.moveD rfl rfl) ?_
      refine AOps.step rfl rfl rfl (AOp.assignD rfl rfl) ?_
      refine AOps.nil ?_
      refine AWP.seq ?_
      refine AWP.draw (by kernel_rfl) (by kernel_rfl) ?_
      refine DRun.step rfl rfl rfl (AOp.moveD rfl rfl) ?_
      refine DRun.step rfl rfl rfl (AOp.moveD rfl rfl) ?_
      refine DRun.step rfl rfl rfl (AOp.indexAddr rfl et_22 rfl rfl k rfl hg rfl) ?_
      refine DRun.step rfl rfl rfl (AOp.load rfl sc_3 rfl) ?_
      refine DRun.step rfl rfl rfl (AOp.moveD rfl rfl) ?_
      refine DRun.step rfl rfl rfl (AOp.moveD rfl rfl) ?_
      refine DRun.step rfl rfl rfl (AOp.indexAddr rfl et_22 rfl rfl k rfl hg rfl) ?_
      refine DRun.step rfl rfl rfl (AOp.load rfl sc_3 rfl) ?_
      refine DRun.step rfl rfl rfl (AOp.neq rfl rfl rfl) ?_
      refine DRun.nil ?_
      refine AWP.cond rfl (fun h3 => ?_) (fun h3 => ?_)
      · replace h3 := of_decide_eq_true h3
        exact absurd rfl h3
      · replace h3 := of_decide_eq_false h3
        refine AWP.skip ?_
        refine AWP.region ?_
        refine AOps.step rfl rfl rfl (AOp.add64 rfl rfl rfl (by omega) (by omega)) ?_
        refine AOps.step rfl rfl rfl (AOp.moveD rfl rfl) ?_
        refine AOps.nil ?_
        refine ⟨k + 1, (by omega), (by dsimp only; omega), Sub.less ⟨(SLe.of_eq rfl), SLe.refl _, SLe.refl _, SLe.refl _, trivial⟩ (fun _ h => h)⟩
    · replace h2 := of_decide_eq_false h2
      refine AWP.exit ?_
      refine AWP.seq ?_
      refine AWP.region ?_
      refine AOps.step rfl rfl rfl (AOp.assignD rfl rfl) ?_
      refine AOps.nil ?_
      refine AWP.ret ?_
      refine ⟨RetD.eq rfl ?_, trivial⟩
      all_goals (rfl)


theorem c_eq31 : ACall Try.prog 8 [.sl [[.v (.int .i64 2)], [.v (.int .i64 1)]], .sl [[.v (.int .i64 2)], [.v (.int .i64 1)]]] (.v (.bool true)) := c_eqInt _ (fun x hx => by
  rcases List.mem_cons.1 hx with rfl | hx
  · exact ⟨_, rfl⟩
  · rw [List.mem_singleton] at hx; subst hx; exact ⟨_, rfl⟩)


set_option maxRecDepth 100000 in
set_option maxHeartbeats 1000000 in
theorem c_awake  : ACall Try.prog 9 [] (.v (.bool true)) := by
  refine acall_of (n := 15) (ds' := [.v (.bool true)]) Try.func9 rfl (by kernel_rfl) rfl [0] rfl rfl ?_
  intro B w0 F0 fr
  refine AWP.seq ?_
  refine AWP.region ?_
  refine AOps.step rfl rfl rfl (AOp.assignD rfl rfl) ?_
  refine AOps.nil ?_
  refine AWP.seq ?_
  refine AWP.region ?_
  refine AOps.step rfl rfl rfl (AOp.buildSlice rfl et_22 (.cons rfl rfl rfl (.cons rfl rfl rfl .nil)) rfl (by decide)) ?_
  refine AOps.step rfl rfl rfl (AOp.call rfl (.cons (ArgOk.rfl' rfl) (.cons (ArgOk.rfl' rfl) .nil)) c_pDiv31) ?_
  refine AOps.step rfl rfl rfl (AOp.moveD rfl rfl) ?_
  refine AOps.step rfl rfl rfl (AOp.extract rfl rfl rfl) ?_
  refine AOps.step rfl rfl rfl (AOp.extract rfl rfl rfl) ?_
  refine AOps.step rfl rfl rfl (AOp.assignD rfl rfl) ?_
  refine AOps.step rfl rfl rfl (AOp.assignD rfl rfl) ?_
  refine AOps.nil ?_
  refine AWP.seq ?_
  refine AWP.region ?_
  refine AOps.step rfl rfl rfl (AOp.moveD rfl rfl) ?_
  refine AOps.step rfl rfl rfl (AOp.eql rfl rfl rfl) ?_
  refine AOps.step rfl rfl rfl (AOp.moveD rfl rfl) ?_
  refine AOps.split 10 rfl (fun g1 => ?_) (fun g1 => ?_)
  · replace g1 := of_decide_eq_true g1
    refine AOps.step ⟨10, rfl, .inl ⟨_, rfl, rfl⟩⟩ rfl rfl (AOp.moveD rfl rfl) ?_
    refine AOps.step ⟨10, rfl, .inl ⟨_, rfl, rfl⟩⟩ rfl rfl (AOp.buildSlice rfl et_22 (.cons rfl rfl rfl (.cons rfl rfl rfl .nil)) rfl (by decide)) ?_
    refine AOps.step ⟨10, rfl, .inl ⟨_, rfl, rfl⟩⟩ rfl rfl (AOp.call rfl (.cons (ArgOk.rfl' rfl) (.cons (ArgOk.rfl' rfl) .nil)) c_eq31) ?_
    refine AOps.step rfl rfl rfl (AOp.pickT rfl rfl rfl) ?_
    refine AOps.step rfl rfl rfl (AOp.assignD rfl rfl) ?_
    refine AOps.nil ?_
    refine AWP.ret ?_
    refine ⟨RetD.eq rfl ?_, trivial⟩
    all_goals (simp)
  · replace g1 := of_decide_eq_false g1
    exact absurd rfl g1

set_option maxRecDepth 100000 in
set_option maxHeartbeats 1000000 in
theorem lawDiv (t : Int) (ws : List Int) : ACall Try.prog 3 [.v (.int .i64 t), .sl (ws.map intD)] (.v (.bool true)) := by
  refine acall_of (n := 88) (ds' := [.v (.bool true)]) Try.func3 rfl (by kernel_rfl) rfl [4] rfl rfl ?_
  intro B w0 F0 fr
  refine AWP.seq ?_
  refine AWP.region ?_
  refine AOps.step rfl rfl rfl (AOp.assignD rfl rfl) ?_
  refine AOps.nil ?_
  refine AWP.seq ?_
  refine AWP.region ?_
  refine AOps.step rfl rfl rfl (AOp.moveD rfl rfl) ?_
  refine AOps.step rfl rfl rfl (AOp.moveD rfl rfl) ?_
  refine AOps.step rfl rfl rfl (AOp.call rfl (.cons (ArgOk.rfl' rfl) (.cons (ArgOk.rfl' rfl) .nil)) (c_pDiv t ws)) ?_
  refine AOps.step rfl rfl rfl (AOp.moveD rfl rfl) ?_
  refine AOps.step rfl rfl rfl (AOp.extract rfl rfl rfl) ?_
  refine AOps.step rfl rfl rfl (AOp.extract rfl rfl rfl) ?_
  refine AOps.step rfl rfl rfl (AOp.assignD rfl rfl) ?_
  refine AOps.step rfl rfl rfl (AOp.assignD rfl rfl) ?_
  refine AOps.nil ?_
  refine AWP.seq ?_
  refine AWP.region ?_
  refine AOps.step rfl rfl rfl (AOp.moveD rfl rfl) ?_
  refine AOps.step rfl rfl rfl (AOp.moveD rfl rfl) ?_
  refine AOps.step rfl rfl rfl (AOp.call rfl (.cons (ArgOk.rfl' rfl) (.cons (ArgOk.rfl' rfl) .nil)) (c_rDiv t ws)) ?_
  refine AOps.step rfl rfl rfl (AOp.moveD rfl rfl) ?_
  refine AOps.step rfl rfl rfl (AOp.extract rfl rfl rfl) ?_
  refine AOps.step rfl rfl rfl (AOp.extract rfl rfl rfl) ?_
  refine AOps.step rfl rfl rfl (AOp.assignD rfl rfl) ?_
  refine AOps.step rfl rfl rfl (AOp.assignD rfl rfl) ?_
  refine AOps.nil ?_
  refine AWP.seq ?_
  refine AWP.seq ?_
  refine AWP.region ?_
  refine AOps.step rfl rfl rfl (AOp.moveD rfl rfl) ?_
  refine AOps.step rfl rfl rfl (AOp.moveD rfl rfl) ?_
  refine AOps.step rfl rfl rfl (AOp.neq rfl rfl rfl) ?_
  refine AOps.step rfl rfl rfl (AOp.moveD rfl rfl) ?_
  refine AOps.split 31 rfl (fun g1 => ?_) (fun g1 => ?_)
  · replace g1 := of_decide_eq_true g1
    exact absurd rfl g1
  · replace g1 := of_decide_eq_false g1
    refine AOps.step ⟨31, rfl, .inl ⟨_, rfl, rfl⟩⟩ rfl rfl (AOp.moveD rfl rfl) ?_
    refine AOps.step ⟨31, rfl, .inl ⟨_, rfl, rfl⟩⟩ rfl rfl (AOp.moveD rfl rfl) ?_
    refine AOps.step ⟨31, rfl, .inl ⟨_, rfl, rfl⟩⟩ rfl rfl (AOp.call rfl (.cons (ArgOk.rfl' rfl) (.cons (ArgOk.rfl' rfl) .nil)) (c_eqInt _ (divR_int t ws))) ?_
    refine AOps.step ⟨31, rfl, .inl ⟨_, rfl, rfl⟩⟩ rfl rfl (AOp.not rfl rfl) ?_
    refine AOps.step rfl rfl rfl (AOp.pickF rfl rfl rfl) ?_
    refine AOps.step rfl rfl rfl (AOp.moveD rfl rfl) ?_
    refine AOps.step ⟨37, rfl, .inl ⟨_, rfl, rfl⟩⟩ rfl rfl (AOp.call rfl .nil c_awake) ?_
    refine AOps.step ⟨37, rfl, .inl ⟨_, rfl, rfl⟩⟩ rfl rfl (AOp.not rfl rfl) ?_
    refine AOps.step rfl rfl rfl (AOp.pickF rfl rfl rfl) ?_
    refine AOps.nil ?_
    refine AWP.cond rfl (fun h => nomatch h) (fun _ => ?_)
    refine AWP.skip ?_
    refine AWP.seq ?_
    refine AWP.seq ?_
    refine AWP.region ?_
    refine AOps.step rfl rfl rfl (AOp.moveD rfl rfl) ?_
    refine AOps.step rfl rfl rfl (AOp.neq rfl rfl rfl) ?_
    refine AOps.nil ?_
    refine AWP.cond rfl (fun h2 => ?_) (fun h2 => ?_)
    · replace h2 := of_decide_eq_true h2
      refine AWP.seq ?_
      refine AWP.region ?_
      refine AOps.step rfl rfl rfl (AOp.assignD rfl rfl) ?_
      refine AOps.nil ?_
      refine AWP.ret ?_
      refine ⟨RetD.eq rfl ?_, trivial⟩
      all_goals (simp)
    · replace h2 := of_decide_eq_false h2
      have HF : divFault t ws = 0 := Decidable.not_not.1 h2
      have ok := div_zero_ok HF
      have hs := ok.s0
      have hn0 := ok.n0
      have hn1 := ok.n1
      have g2 := ok.t0
      have hl0 := ok.leftB (k := ws.length) (Nat.le_refl _)
      obtain ⟨L, hL⟩ : ∃ L : Nat, leftTo t ws ws.length = (L : Int) := ⟨(leftTo t ws ws.length).toNat, by omega⟩
      have HT := out_total ok hL
      have HR : divR t ws = rowF (outF t ws L) ws.length := by unfold divR; rw [if_pos HF, hL, Int.toNat_natCast]
      rw [HR]
      refine AWP.skip ?_
      refine AWP.seq ?_
      refine AWP.region ?_
      refine AOps.step rfl rfl rfl (AOp.assignD rfl rfl) ?_
      refine AOps.step rfl rfl rfl (AOp.assignD rfl rfl) ?_
      refine AOps.nil ?_
      refine AWP.seq ?_
      refine AWP.seq ?_
      refine AWP.region ?_
      refine AOps.step rfl rfl rfl (AOp.moveD rfl rfl) ?_
      refine AOps.step rfl rfl rfl (AOp.lenSl rfl et_22.ht rfl) ?_
      refine AOps.step rfl rfl rfl (AOp.moveD rfl rfl) ?_
      refine AOps.nil ?_
      refine AWP.block ?_
      refine AWP.loop (G := Nat) (fun k => Env.of [(45, .d (.v (.int .i64 (k : Int)))), (43, .d (.sl (rowF (outF t ws L) ws.length))), (44, .d (.v (.int .i64 (((rowF (outF t ws L) ws.length).length : Nat) : Int)))), (9, .d (.v (.int .i64 (sumO t ws L k)))), (10, .d (.v (.int .i64 (ws.take k).sum))), (0, .d (.v (.int .i64 t))), (1, .d (.sl (ws.map intD))), (5, .d (.sl (rowF (outF t ws L) ws.length)))]) (fun k => []) (fun k => k ≤ ws.length) (fun k => ws.length - k) 0 (Nat.zero_le _) (Sub.less ⟨(SLe.of_eq rfl), SLe.refl _, SLe.refl _, (SLe.i64 rfl), (SLe.i64 rfl), SLe.refl _, SLe.refl _, SLe.refl _, trivial⟩ (fun _ h => h)) ?_
      intro k hk
      refine AWP.seq ?_
      refine AWP.region ?_
      refine AOps.step rfl rfl rfl (AOp.lss rfl rfl rfl) ?_
      refine AOps.nil ?_
      refine AWP.seq ?_
      refine AWP.cond rfl (fun h3 => ?_) (fun h3 => ?_)
      · replace h3 := of_decide_eq_true h3
        rw [rowF_len] at h3
        have hlt : k < ws.length := by omega
        have hso := sumO_bnd ok L k (by omega)
        have hob := ok.outB L hlt
        have hsu := sumO_succ t ws L k
        have hts := take_sum hlt
        have hwk := ok.w0 _ (List.getElem_mem hlt)
        have hsk := ok.sumTo k
        have hsb := sum_bnd ok.w0
        refine AWP.skip ?_
        refine AWP.seq ?_
        refine AWP.block ?_
        refine AWP.seq ?_
        refine AWP.region ?_
        refine AOps.step rfl rfl rfl (AOp.moveD rfl rfl) ?_
        refine AOps.step rfl rfl rfl (AOp.indexAddr rfl et_22 rfl rfl k rfl (rowF_at hlt) rfl) ?_
        refine AOps.step rfl rfl rfl (AOp.load rfl sc_3 rfl) ?_
        refine AOps.step rfl rfl rfl (AOp.assignD rfl rfl) ?_
        refine AOps.step rfl rfl rfl (AOp.assignD rfl rfl) ?_
        refine AOps.nil ?_
        refine AWP.draw (by kernel_rfl) (by kernel_rfl) ?_
        refine DRun.step rfl rfl rfl (AOp.moveD rfl rfl) ?_
        refine DRun.step rfl rfl rfl (AOp.moveD rfl rfl) ?_
        refine DRun.step rfl rfl rfl (AOp.add64 rfl rfl rfl (by omega) (by omega)) ?_
        refine DRun.step rfl rfl rfl (AOp.moveD rfl rfl) ?_
        refine DRun.step rfl rfl rfl (AOp.moveD rfl rfl) ?_
        refine DRun.step rfl rfl rfl (AOp.moveD rfl rfl) ?_
        refine DRun.step rfl rfl rfl (AOp.indexAddr rfl et_22 rfl rfl k rfl (at_list hlt) rfl) ?_
        refine DRun.step rfl rfl rfl (AOp.load rfl sc_3 rfl) ?_
        refine DRun.step rfl rfl rfl (AOp.add64 rfl rfl rfl (by omega) (by omega)) ?_
        refine DRun.step rfl rfl rfl (AOp.assignD rfl rfl) ?_
        refine DRun.step rfl rfl rfl (AOp.assignD rfl rfl) ?_
        refine DRun.nil ?_
        refine AWP.region ?_
        refine AOps.step rfl rfl rfl (AOp.add64 rfl rfl rfl (by omega) (by omega)) ?_
        refine AOps.step rfl rfl rfl (AOp.moveD rfl rfl) ?_
        refine AOps.nil ?_
        refine ⟨k + 1, (by omega), (by dsimp only; omega), Sub.less ⟨(SLe.of_eq rfl), SLe.refl _, SLe.refl _, (SLe.i64 (by rw [hsu])), (SLe.i64 (by rw [hts])), SLe.refl _, SLe.refl _, SLe.refl _, trivial⟩ (fun _ h => h)⟩
      · replace h3 := of_decide_eq_false h3
        rw [rowF_len] at h3
        obtain rfl : k = ws.length := by omega
        rw [List.take_length]
        have HS : sumO t ws L ws.length = t := HT
        rw [HS]
        refine AWP.exit ?_
        refine AWP.seq ?_
        refine AWP.seq ?_
        refine AWP.region ?_
        refine AOps.step rfl rfl rfl (AOp.moveD rfl rfl) ?_
        refine AOps.step rfl rfl rfl (AOp.lenSl rfl et_22.ht rfl) ?_
        refine AOps.step rfl rfl rfl (AOp.moveD rfl rfl) ?_
        refine AOps.nil ?_
        refine AWP.block ?_
        refine AWP.loop (G := Nat) (fun i => Env.of [(62, .d (.v (.int .i64 (i : Int)))), (60, .d (.sl (rowF (outF t ws L) ws.length))), (61, .d (.v (.int .i64 (((rowF (outF t ws L) ws.length).length : Nat) : Int)))), (9, .d (.v (.int .i64 t))), (10, .d (.v (.int .i64 ws.sum))), (0, .d (.v (.int .i64 t))), (1, .d (.sl (ws.map intD)))]) (fun i => []) (fun i => i ≤ ws.length) (fun i => ws.length - i) 0 (Nat.zero_le _) (Sub.less ⟨(SLe.of_eq rfl), SLe.refl _, SLe.refl _, SLe.refl _, SLe.refl _, SLe.refl _, SLe.refl _, trivial⟩ (fun _ h => h)) ?_
        intro i hi
        refine AWP.seq ?_
        refine AWP.region ?_
        refine AOps.step rfl rfl rfl (AOp.lss rfl rfl rfl) ?_
        refine AOps.nil ?_
        refine AWP.seq ?_
        refine AWP.cond rfl (fun h4 => ?_) (fun h4 => ?_)
        · replace h4 := of_decide_eq_true h4
          rw [rowF_len] at h4
          have hlt : i < ws.length := by omega
          have m1 := mul_bnd g2 (ok.w0 _ (List.getElem_mem hlt))
          have hq : qAt t ws i = t * ws[i] / ws.sum := by unfold qAt; rw [wAt_eq hlt]
          have hqb := ok.qB hlt
          have hne := outF_near t ws L i
          rw [hq] at hqb hne
          refine AWP.skip ?_
          refine AWP.seq ?_
          refine AWP.block ?_
          refine AWP.seq ?_
          refine AWP.region ?_
          refine AOps.step rfl rfl rfl (AOp.moveD rfl rfl) ?_
          refine AOps.step rfl rfl rfl (AOp.indexAddr rfl et_22 rfl rfl i rfl (rowF_at hlt) rfl) ?_
          refine AOps.step rfl rfl rfl (AOp.load rfl sc_3 rfl) ?_
          refine AOps.step rfl rfl rfl (AOp.assignD rfl rfl) ?_
          refine AOps.step rfl rfl rfl (AOp.assignD rfl rfl) ?_
          refine AOps.nil ?_
          refine AWP.seq ?_
          refine AWP.region ?_
          refine AOps.step rfl rfl rfl (AOp.moveD rfl rfl) ?_
          refine AOps.step rfl rfl rfl (AOp.moveD rfl rfl) ?_
          refine AOps.step rfl rfl rfl (AOp.moveD rfl rfl) ?_
          refine AOps.step rfl rfl rfl (AOp.indexAddr rfl et_22 rfl rfl i rfl (at_list hlt) rfl) ?_
          refine AOps.step rfl rfl rfl (AOp.load rfl sc_3 rfl) ?_
          refine AOps.step rfl rfl rfl (AOp.mul64 rfl rfl rfl (by omega) (by omega)) ?_
          refine AOps.step rfl rfl rfl (AOp.moveD rfl rfl) ?_
          refine AOps.step rfl rfl rfl (AOp.quo64 rfl rfl rfl (by omega) (by omega) (by omega)) ?_
          refine AOps.step rfl rfl rfl (AOp.assignD rfl rfl) ?_
          refine AOps.nil ?_
          refine AWP.seq ?_
          refine AWP.region ?_
          refine AOps.step rfl rfl rfl (AOp.moveD rfl rfl) ?_
          refine AOps.step rfl rfl rfl (AOp.moveD rfl rfl) ?_
          refine AOps.step rfl rfl rfl (AOp.lss rfl rfl rfl) ?_
          refine AOps.step rfl rfl rfl (AOp.moveD rfl rfl) ?_
          refine AOps.split 78 rfl (fun g5 => ?_) (fun g5 => ?_)
          · replace g5 := of_decide_eq_true g5
            omega
          · replace g5 := of_decide_eq_false g5
            refine AOps.step ⟨78, rfl, .inl ⟨_, rfl, rfl⟩⟩ rfl rfl (AOp.moveD rfl rfl) ?_
            refine AOps.step ⟨78, rfl, .inl ⟨_, rfl, rfl⟩⟩ rfl rfl (AOp.moveD rfl rfl) ?_
            refine AOps.step ⟨78, rfl, .inl ⟨_, rfl, rfl⟩⟩ rfl rfl (AOp.add64 rfl rfl rfl (by omega) (by omega)) ?_
            refine AOps.step ⟨78, rfl, .inl ⟨_, rfl, rfl⟩⟩ rfl rfl (AOp.gtr rfl rfl rfl) ?_
            refine AOps.step rfl rfl rfl (AOp.pickF rfl rfl rfl) ?_
            refine AOps.nil ?_
            refine AWP.cond rfl (fun h6 => ?_) (fun h6 => ?_)
            · replace h6 := of_decide_eq_true h6
              omega
            · replace h6 := of_decide_eq_false h6
              refine AWP.skip ?_
              refine AWP.region ?_
              refine AOps.step rfl rfl rfl (AOp.add64 rfl rfl rfl (by omega) (by omega)) ?_
              refine AOps.step rfl rfl rfl (AOp.moveD rfl rfl) ?_
              refine AOps.nil ?_
              refine ⟨i + 1, (by omega), (by dsimp only; omega), Sub.less ⟨(SLe.of_eq rfl), SLe.refl _, SLe.refl _, SLe.refl _, SLe.refl _, SLe.refl _, SLe.refl _, trivial⟩ (fun _ h => h)⟩
        · replace h4 := of_decide_eq_false h4
          rw [rowF_len] at h4
          obtain rfl : i = ws.length := by omega
          refine AWP.exit ?_
          refine AWP.seq ?_
          refine AWP.region ?_
          refine AOps.step rfl rfl rfl (AOp.moveD rfl rfl) ?_
          refine AOps.step rfl rfl rfl (AOp.moveD rfl rfl) ?_
          refine AOps.step rfl rfl rfl (AOp.eql rfl rfl rfl) ?_
          refine AOps.step rfl rfl rfl (AOp.assignD rfl rfl) ?_
          refine AOps.nil ?_
          refine AWP.ret ?_
          refine ⟨RetD.eq rfl ?_, trivial⟩
          all_goals (simp)

end Go.Proofs.Ytpihcfpdaoflbaa
