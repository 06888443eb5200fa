/- Walks and laws over abstract values, merged by tools/merge.py. No statement of the seat. -/
import Derived.Test.YtekenfknoakboaaGreatDoorXO8

namespace Go.Proofs.YtekenfknoakboaaGreatDoor
open Go.RowKit
set_option linter.unusedVariables false

/-! Types. -/
namespace TyG3
theorem et_45 : ElemTy Tryz.prog 45 3 1 8 (.int .i64 0) := ⟨by kernel_rfl, by kernel_rfl, by kernel_rfl, by decide⟩
theorem sc_3 : Scal Tryz.prog 3 := .of (by kernel_rfl)
theorem sz_3 : ∀ w, (sizeOf 3).run Tryz.prog w = .ok 1 w := SizeT.of (by kernel_rfl)
end TyG3
open TyG3


theorem fst_start (f : Nat → Int) : FstMax f 0 0 := fun i hi => by omega
theorem fst_up {f : Nat → Int} {i b : Nat} (h : FstMax f i b) (hlt : f i > f b) : FstMax f (i + 1) i := fun m hm => by
  by_cases e : m = i
  · subst e; exact .inr ⟨Int.le_refl _, Nat.le_refl _⟩
  · have := h m (by omega); left; omega
theorem fst_same {f : Nat → Int} {i b : Nat} (h : FstMax f i b) (hb : b ≤ i) (hlt : ¬ f i > f b) : FstMax f (i + 1) b := fun m hm => by
  by_cases e : m = i
  · subst e; exact .inr ⟨by omega, hb⟩
  · exact h m (by omega)
set_option maxRecDepth 100000 in
set_option maxHeartbeats 1000000 in
theorem c_rDiv (t : Int) (ws : List Int) : ACall Tryz.prog 45 [.v (.int .i64 t), .sl (ws.map intD)] (.tup [.sl (divR t ws), .v (.int .i64 (divFault t ws))]) := by
  refine acall_of (n := 107) (ds' := [.sl (divR t ws), .v (.int .i64 (divFault t ws))]) Tryz.func45 rfl (by kernel_rfl) rfl [4, 5] rfl rfl ?_
  intro B w0 F0 fr
  refine AWP.seq (AWP.region ?_)
  refine AOps.aD rfl rfl rfl rfl rfl ?_
  refine AOps.aD rfl rfl rfl rfl rfl (.nil ?_)
  refine AWP.seq ?_
  refine AWP.seq (AWP.region ?_)
  refine AOps.mD rfl rfl rfl rfl rfl ?_
  refine AOps.step rfl rfl rfl (AOp.lenSl rfl et_45.ht rfl) ?_
  refine AOps.step rfl rfl rfl (AOp.eql rfl rfl rfl) (.nil ?_)
  refine AWP.cond rfl (fun h1 => ?_) (fun h1 => ?_)
  · replace h1 := of_decide_eq_true h1
    rw [List.length_map] at h1
    have HF := div_9 (t := t) h1
    have HR := divR_bad (t := t) (ws := ws) (by rw [HF]; decide)
    rw [HR, HF]
    refine AWP.seq (AWP.region ?_)
    refine AOps.aD rfl rfl rfl rfl rfl ?_
    refine AOps.aD rfl rfl rfl rfl rfl (.nil ?_)
    refine AWP.ret ?_
    refine ⟨RetD.nil rfl, RetD.eq rfl ?_, trivial⟩
    all_goals (first | rfl | (rw [Int.toNat_natCast]))
  replace h1 := of_decide_eq_false h1
  rw [List.length_map] at h1
  have g0 := h1
  refine AWP.skip ?_
  refine AWP.seq ?_
  refine AWP.seq (AWP.region ?_)
  refine AOps.mD rfl rfl rfl rfl rfl ?_
  refine AOps.step rfl rfl rfl (AOp.lenSl rfl et_45.ht rfl) ?_
  refine AOps.step rfl rfl rfl (AOp.gtr rfl rfl rfl) (.nil ?_)
  refine AWP.cond rfl (fun h2 => ?_) (fun h2 => ?_)
  · replace h2 := of_decide_eq_true h2
    rw [List.length_map] at h2
    have HF := div_2 (t := t) g0 h2
    have HR := divR_bad (t := t) (ws := ws) (by rw [HF]; decide)
    rw [HR, HF]
    refine AWP.seq (AWP.region ?_)
    refine AOps.aD rfl rfl rfl rfl rfl ?_
    refine AOps.aD rfl rfl rfl rfl rfl (.nil ?_)
    refine AWP.ret ?_
    refine ⟨RetD.nil rfl, RetD.eq rfl ?_, trivial⟩
    all_goals (first | rfl | (rw [Int.toNat_natCast]))
  replace h2 := of_decide_eq_false h2
  rw [List.length_map] at h2
  have g1 := h2
  refine AWP.skip ?_
  refine AWP.seq ?_
  refine AWP.seq (AWP.region ?_)
  refine AOps.mD rfl rfl rfl rfl rfl ?_
  refine AOps.step rfl rfl rfl (AOp.call rfl (.cons (ArgOk.rfl' rfl) (.cons (ArgOk.rfl' rfl) (.cons (ArgOk.rfl' rfl) .nil))) (c_rWithin _ _ _)) ?_
  refine AOps.step rfl rfl rfl (AOp.not rfl rfl) (.nil ?_)
  refine AWP.cond rfl (fun h3 => ?_) (fun h3 => ?_)
  · replace h3 := bnot_t h3; replace h3 := of_decide_eq_false h3
    have HF := div_1 g0 g1 h3
    have HR := divR_bad (t := t) (ws := ws) (by rw [HF]; decide)
    rw [HR, HF]
    refine AWP.seq (AWP.region ?_)
    refine AOps.aD rfl rfl rfl rfl rfl ?_
    refine AOps.aD rfl rfl rfl rfl rfl (.nil ?_)
    refine AWP.ret ?_
    refine ⟨RetD.nil rfl, RetD.eq rfl ?_, trivial⟩
    all_goals (first | rfl | (rw [Int.toNat_natCast]))
  replace h3 := bnot_f h3; replace h3 := of_decide_eq_true h3
  have g2 := h3
  refine AWP.skip ?_
  refine AWP.seq (AWP.region ?_)
  refine AOps.aD rfl rfl rfl rfl rfl (.nil ?_)
  refine AWP.seq ?_
  refine AWP.seq (AWP.region ?_)
  refine AOps.mD rfl rfl rfl rfl rfl ?_
  refine AOps.step rfl rfl rfl (AOp.lenSl rfl et_45.ht rfl) ?_
  refine AOps.mD rfl rfl rfl rfl rfl (.nil ?_)
  refine AWP.block ?_
  refine AWP.loop (G := Nat) (fun k => Env.of [(28, .d (.v (.int .i64 (k : Int)))), (26, .d (.sl (ws.map intD))), (27, .d (.v (.int .i64 ((ws.map intD).length : Int)))), (6, .d (.v (.int .i64 (ws.take k).sum))), (0, .d (.v (.int .i64 t))), (1, .d (.sl (ws.map intD)))]) (fun k => []) (fun k => k ≤ ws.length ∧ ∀ w ∈ ws.take k, 0 ≤ w ∧ w ≤ 1000000000) (fun k => ws.length - k) 0 ⟨Nat.zero_le _, fun w hw => by simp at hw⟩ (Sub.less ⟨(SLe.of_eq rfl), SLe.refl _, SLe.refl _, (SLe.i64 rfl), SLe.refl _, SLe.refl _, trivial⟩ (fun _ h => h)) ?_
  intro k hk
  refine AWP.seq (AWP.region ?_)
  refine AOps.step rfl rfl rfl (AOp.lss rfl rfl rfl) (.nil ?_)
  refine AWP.seq ?_
  refine AWP.cond rfl (fun h4 => ?_) (fun h4 => ?_)
  · replace h4 := of_decide_eq_true h4
    rw [List.length_map] at h4
    have hlt : k < ws.length := by omega
    have hsb := sum_bnd (l := ws.take k) hk.2
    have htl : ((ws.take k).length : Int) ≤ 500 := by rw [List.length_take]; omega
    have hts := take_sum hlt
    refine AWP.skip ?_
    refine AWP.seq ?_
    refine AWP.block ?_
    refine AWP.seq (AWP.region ?_)
    refine AOps.step rfl rfl rfl (AOp.indexAddr rfl et_45 rfl rfl k rfl (at_list hlt) rfl) ?_
    refine AOps.step rfl rfl rfl (AOp.load rfl sc_3 rfl) ?_
    refine AOps.aD rfl rfl rfl rfl rfl (.nil ?_)
    refine AWP.seq ?_
    refine AWP.seq (AWP.region ?_)
    refine AOps.mD rfl rfl rfl rfl rfl ?_
    refine AOps.step rfl rfl rfl (AOp.call rfl (.cons (ArgOk.rfl' rfl) (.cons (ArgOk.rfl' rfl) (.cons (ArgOk.rfl' rfl) .nil))) (c_rWithin _ _ _)) ?_
    refine AOps.step rfl rfl rfl (AOp.not rfl rfl) (.nil ?_)
    refine AWP.cond rfl (fun h5 => ?_) (fun h5 => ?_)
    · replace h5 := bnot_t h5; replace h5 := of_decide_eq_false h5
      have HF := div_1w (t := t) g0 g1 g2 ⟨_, List.getElem_mem hlt, h5⟩
      have HR := divR_bad (t := t) (ws := ws) (by rw [HF]; decide)
      rw [HR, HF]
      refine AWP.seq (AWP.region ?_)
      refine AOps.aD rfl rfl rfl rfl rfl ?_
      refine AOps.aD rfl rfl rfl rfl rfl (.nil ?_)
      refine AWP.ret ?_
      refine ⟨RetD.nil rfl, RetD.eq rfl ?_, trivial⟩
      all_goals (first | rfl | (rw [Int.toNat_natCast]))
    replace h5 := bnot_f h5; replace h5 := of_decide_eq_true h5
    have hN := take_next hlt hk.2 h5
    refine AWP.skip ?_
    refine AWP.region ?_
    refine AOps.mD rfl rfl rfl rfl rfl ?_
    refine AOps.mD rfl rfl rfl rfl rfl ?_
    refine AOps.step rfl rfl rfl (AOp.add64 rfl rfl rfl (by omega) (by omega)) ?_
    refine AOps.aD rfl rfl rfl rfl rfl (.nil ?_)
    refine AWP.region ?_
    refine AOps.step rfl rfl rfl (AOp.add64 rfl rfl rfl (by omega) (by omega)) ?_
    refine AOps.mD rfl rfl rfl rfl rfl (.nil ?_)
    refine ⟨k + 1, ⟨by omega, hN⟩, (by dsimp only; omega), Sub.less ⟨(SLe.of_eq rfl), SLe.refl _, SLe.refl _, (SLe.i64 (by rw [hts])), SLe.refl _, SLe.refl _, trivial⟩ (fun _ h => h)⟩
  replace h4 := of_decide_eq_false h4
  rw [List.length_map] at h4
  obtain rfl : k = ws.length := by omega
  rw [List.take_length]
  have hall := all_take hk.2
  have HD := div_in (t := t) g0 g1 g2 hall
  have hsb := sum_bnd hall
  refine AWP.exit ?_
  refine AWP.seq ?_
  refine AWP.seq (AWP.region ?_)
  refine AOps.mD rfl rfl rfl rfl rfl ?_
  refine AOps.step rfl rfl rfl (AOp.eql rfl rfl rfl) (.nil ?_)
  refine AWP.cond rfl (fun h6 => ?_) (fun h6 => ?_)
  · replace h6 := of_decide_eq_true h6
    have HF : divFault t ws = 13 := HD.trans (if_pos h6)
    have HR := divR_bad (t := t) (ws := ws) (by rw [HF]; decide)
    rw [HR, HF]
    refine AWP.seq (AWP.region ?_)
    refine AOps.aD rfl rfl rfl rfl rfl ?_
    refine AOps.aD rfl rfl rfl rfl rfl (.nil ?_)
    refine AWP.ret ?_
    refine ⟨RetD.nil rfl, RetD.eq rfl ?_, trivial⟩
    all_goals (first | rfl | (rw [Int.toNat_natCast]))
  replace h6 := of_decide_eq_false h6
  have HF : divFault t ws = 0 := HD.trans (if_neg h6)
  have ok : DivOk t ws := ⟨by omega, by omega, g2, hall, by omega⟩
  have hs := ok.s0
  have hn0 := ok.n0
  have hn1 := ok.n1
  have HR : divR t ws = rowF (outF t ws (leftTo t ws ws.length).toNat) ws.length := if_pos HF
  rw [HR, HF]
  refine AWP.skip ?_
  refine AWP.seq ?_
  refine AWP.drawFresh 8 [⟨43, 101, .own 101, .row 3 1 (List.replicate ws.length [.v (.int .i64 0)])⟩, ⟨46, 102, .own 102, .row 3 1 (List.replicate ws.length [.v (.int .i64 0)])⟩] (FrOk.two rfl (by simp) rfl rfl rfl rfl (by simp) rfl rfl rfl (Nat.ne_of_beq_eq_false rfl) (Nat.ne_of_beq_eq_false rfl) rfl rfl rfl rfl) (by kernel_rfl) (by kernel_rfl) (by kernel_rfl) (by kernel_rfl) ?_
  refine XRun.step rfl rfl rfl (AOp.moveD rfl rfl) ?_
  refine XRun.step rfl rfl rfl (AOp.lenSl rfl et_45.ht rfl) ?_
  refine XRun.make _ (.head _) ws.length rfl rfl rfl rfl rfl et_45 rfl rfl (by rw [List.length_map]) (by omega) (by omega) rfl rfl rfl ?_
  refine XRun.step rfl rfl rfl (AOp.moveD rfl rfl) ?_
  refine XRun.step rfl rfl rfl (AOp.lenSl rfl et_45.ht rfl) ?_
  refine XRun.make _ (.tail _ (.head _)) ws.length rfl rfl rfl rfl rfl et_45 rfl rfl (by rw [List.length_map]) (by omega) (by omega) rfl rfl rfl ?_
  refine XRun.step rfl rfl rfl (AOp.assignO rfl rfl) ?_
  refine XRun.step rfl rfl rfl (AOp.assignO rfl rfl) ?_
  refine XRun.nil ⟨rfl, rfl, trivial⟩ ?_
  refine AOps.nil ?_
  refine AWP.seq (AWP.region ?_)
  refine AOps.mD rfl rfl rfl rfl rfl ?_
  refine AOps.aD rfl rfl rfl rfl rfl (.nil ?_)
  refine AWP.seq ?_
  refine AWP.seq (AWP.region ?_)
  refine AOps.mD rfl rfl rfl rfl rfl ?_
  refine AOps.step rfl rfl rfl (AOp.lenSl rfl et_45.ht rfl) ?_
  refine AOps.mD rfl rfl rfl rfl rfl (.nil ?_)
  refine AWP.block ?_
  refine AWP.loop (G := Nat) (fun k => Env.of [(50, .d (.v (.int .i64 (k : Int)))), (48, .d (.sl (ws.map intD))), (49, .d (.v (.int .i64 ((ws.map intD).length : Int)))), (9, .own 101), (10, .own 102), (11, .d (.v (.int .i64 (leftTo t ws k)))), (6, .d (.v (.int .i64 ws.sum))), (0, .d (.v (.int .i64 t))), (1, .d (.sl (ws.map intD)))]) (fun k => [(101, .row 3 1 (rowF (fun i => if i < k then qAt t ws i else 0) ws.length)), (102, .row 3 1 (rowF (fun i => if i < k then rAt t ws i else 0) ws.length))]) (fun k => k ≤ ws.length) (fun k => ws.length - k) 0 (Nat.zero_le _) (Sub.less ⟨(SLe.of_eq rfl), SLe.refl _, SLe.refl _, SLe.refl _, SLe.refl _, (SLe.i64 (by simp [leftTo])), SLe.refl _, SLe.refl _, SLe.refl _, trivial⟩ (rows_2 ((rowF_zero _).trans (rowF_congr fun i _ => by simp)) ((rowF_zero _).trans (rowF_congr fun i _ => by simp)))) ?_
  intro k hk
  refine AWP.seq (AWP.region ?_)
  refine AOps.step rfl rfl rfl (AOp.lss rfl rfl rfl) (.nil ?_)
  refine AWP.seq ?_
  refine AWP.cond rfl (fun h7 => ?_) (fun h7 => ?_)
  · replace h7 := of_decide_eq_true h7
    rw [List.length_map] at h7
    have hlt : k < ws.length := by omega
    have m1 := mul_bnd g2 (hall _ (List.getElem_mem hlt))
    have hq : qAt t ws k = t * ws[k] / ws.sum := by unfold qAt; rw [wAt_eq hlt]
    have hqb := ok.qB hlt
    have hl1 := ok.leftB (k := k) (by omega)
    have hl2 := leftTo_succ t ws k
    rw [hq] at hqb hl2
    have hr : rAt t ws k = t * ws[k] % ws.sum := by unfold rAt; rw [wAt_eq hlt]
    refine AWP.skip ?_
    refine AWP.seq ?_
    refine AWP.block ?_
    refine AWP.seq (AWP.region ?_)
    refine AOps.mD rfl rfl rfl rfl rfl ?_
    refine AOps.step rfl rfl rfl (AOp.indexAddr rfl et_45 rfl rfl k rfl (at_list hlt) rfl) ?_
    refine AOps.step rfl rfl rfl (AOp.load rfl sc_3 rfl) ?_
    refine AOps.aD rfl rfl rfl rfl rfl ?_
    refine AOps.aD rfl rfl rfl rfl rfl (.nil ?_)
    refine AWP.seq ?_
    refine AWP.drawG (fun k => (Nat.beq k 15 || Nat.beq k 17) || (Nat.beq k 14 || Nat.beq k 16)) (fun k => Nat.beq k 15 || Nat.beq k 17) (fun k h => Bool.or_eq_true_iff.2 (.inl h)) (by kernel_rfl) (by kernel_rfl) (by kernel_rfl) ?_
    refine GRun.step rfl rfl rfl (fun _ => AOp.moveO rfl rfl) ?_
    refine GRun.step rfl rfl rfl (fun _ => AOp.moveD rfl rfl) ?_
    refine GRun.step rfl rfl rfl (fun _ => AOp.moveO rfl rfl) ?_
    refine GRun.step rfl rfl rfl (fun _ => AOp.moveD rfl rfl) ?_
    refine GRun.step rfl rfl rfl (fun _ => AOp.moveD rfl rfl) ?_
    refine GRun.step rfl rfl rfl (fun _ => AOp.moveD rfl rfl) ?_
    refine GRun.step rfl rfl rfl (fun _ => AOp.mul64 rfl rfl rfl (by omega) (by omega)) ?_
    refine GRun.step rfl rfl rfl (fun _ => AOp.moveD rfl rfl) ?_
    refine GRun.step rfl rfl rfl (fun _ => AOp.quo64 rfl rfl rfl (by omega) (by omega) (by omega)) ?_
    refine GRun.step rfl rfl rfl (fun _ => AOp.moveD rfl rfl) ?_
    refine GRun.step rfl rfl rfl (fun _ => AOp.moveD rfl rfl) ?_
    refine GRun.step rfl rfl rfl (fun _ => AOp.mul64 rfl rfl rfl (by omega) (by omega)) ?_
    refine GRun.step rfl rfl rfl (fun _ => AOp.moveD rfl rfl) ?_
    refine GRun.step rfl rfl rfl (fun _ => AOp.rem64 rfl rfl rfl (by omega) (by omega)) ?_
    refine GRun.stepS rfl rfl rfl rfl (AOp.indexOwn rfl et_45 rfl rfl (.head _) k rfl (by rw [rowF_len]; exact hlt)) ?_
    refine GRun.eff rfl rfl rfl (EOp.storeRow rfl rfl sz_3 rfl (.head _) rfl rfl rfl k 0 rfl (rowF_at hlt) (Nat.le_of_ble_eq_true rfl)) ?_
    refine GRun.stepS rfl rfl rfl rfl (AOp.indexOwn rfl et_45 rfl rfl (.tail _ (.head _)) k rfl (by rw [rowF_len]; exact hlt)) ?_
    refine GRun.eff rfl rfl rfl (EOp.storeRow rfl rfl sz_3 rfl (.tail _ (.head _)) rfl rfl rfl k 0 rfl (rowF_at hlt) (Nat.le_of_ble_eq_true rfl)) ?_
    refine GRun.nil ?_
    refine AWP.region ?_
    refine AOps.mD rfl rfl rfl rfl rfl ?_
    refine AOps.step rfl rfl rfl (AOp.moveO rfl rfl) ?_
    refine AOps.mD rfl rfl rfl rfl rfl ?_
    refine AOps.step rfl rfl rfl (AOp.indexOwn rfl et_45 rfl rfl (.head _) k rfl (by rw [List.length_set, rowF_len]; exact hlt)) ?_
    refine AOps.step rfl rfl rfl (AOp.loadRow rfl sc_3 rfl (.head _) k 0 rfl (List.getElem?_set_self (by rw [rowF_len]; exact hlt)) rfl) ?_
    refine AOps.step rfl rfl rfl (AOp.sub64 rfl rfl rfl (by omega) (by omega)) ?_
    refine AOps.aD rfl rfl rfl rfl rfl (.nil ?_)
    refine AWP.region ?_
    refine AOps.step rfl rfl rfl (AOp.add64 rfl rfl rfl (by omega) (by omega)) ?_
    refine AOps.mD rfl rfl rfl rfl rfl (.nil ?_)
    refine ⟨k + 1, (by omega), (by dsimp only; omega), Sub.less ⟨(SLe.of_eq rfl), SLe.refl _, SLe.refl _, SLe.refl _, SLe.refl _, (SLe.i64 (by rw [hl2])), SLe.refl _, SLe.refl _, SLe.refl _, trivial⟩ (rows_2 (rowF_set hlt fun i _ => by rw [← hq]; exact step_if (qAt t ws) k i) (rowF_set hlt fun i _ => by rw [← hr]; exact step_if (rAt t ws) k i))⟩
  replace h7 := of_decide_eq_false h7
  rw [List.length_map] at h7
  obtain rfl : k = ws.length := by omega
  have hl1 := ok.leftB (k := ws.length) (Nat.le_refl _)
  have hlN := ok.leftN
  obtain ⟨L, hL⟩ : ∃ L : Nat, leftTo t ws ws.length = (L : Int) := ⟨(leftTo t ws ws.length).toNat, by omega⟩
  rw [hL] at hlN
  have hol := ordL_len t ws
  rw [hL]
  have HO : rowF (fun i => if i < ws.length then rAt t ws i else 0) ws.length = rowF (restF t ws 0) ws.length := rowF_congr fun i hi => by rw [if_pos hi]; unfold restF pick; simp
  have HQ : rowF (fun i => if i < ws.length then qAt t ws i else 0) ws.length = rowF (outF t ws 0) ws.length := rowF_congr fun i hi => by rw [if_pos hi]; unfold outF pick; simp
  rw [HO, HQ]
  refine AWP.exit ?_
  refine AWP.seq ?_
  refine AWP.seq (AWP.region ?_)
  refine AOps.mD rfl rfl rfl rfl rfl ?_
  refine AOps.mD rfl rfl rfl rfl rfl (.nil ?_)
  refine AWP.block ?_
  refine AWP.loop (G := Nat) (fun j => Env.of [(79, .d (.v (.int .i64 (j : Int)))), (78, .d (.v (.int .i64 (L : Int)))), (9, .own 101), (10, .own 102)]) (fun j => [(101, .row 3 1 (rowF (outF t ws j) ws.length)), (102, .row 3 1 (rowF (restF t ws j) ws.length))]) (fun j => j ≤ L) (fun j => L - j) 0 (Nat.zero_le _) (Sub.less ⟨(SLe.i64 rfl), SLe.refl _, SLe.refl _, SLe.refl _, trivial⟩ (rows_2 rfl rfl)) ?_
  intro j hj
  refine AWP.seq (AWP.region ?_)
  refine AOps.step rfl rfl rfl (AOp.lss rfl rfl rfl) (.nil ?_)
  refine AWP.seq ?_
  refine AWP.cond rfl (fun h8 => ?_) (fun h8 => ?_)
  · replace h8 := of_decide_eq_true h8
    have hjL : j < L := by omega
    have hjo : j < (ordL t ws).length := by omega
    refine AWP.skip ?_
    refine AWP.seq ?_
    refine AWP.block ?_
    refine AWP.seq (AWP.region ?_)
    refine AOps.aD rfl rfl rfl rfl rfl (.nil ?_)
    refine AWP.seq ?_
    refine AWP.seq (AWP.region ?_)
    refine AOps.step rfl rfl rfl (AOp.moveO rfl rfl) ?_
    refine AOps.step rfl rfl rfl (AOp.lenOwn rfl et_45.ht rfl (.tail _ (.head _))) ?_
    refine AOps.mD rfl rfl rfl rfl rfl (.nil ?_)
    refine AWP.block ?_
    refine AWP.loop (G := Nat × Nat) (fun g => Env.of [(83, .d (.v (.int .i64 (g.1 : Int)))), (14, .d (.v (.int .i64 (g.2 : Int)))), (81, .own 102), (82, .d (.v (.int .i64 (((rowF (restF t ws j) ws.length).length : Nat) : Int)))), (79, .d (.v (.int .i64 (j : Int)))), (78, .d (.v (.int .i64 (L : Int)))), (9, .own 101), (10, .own 102)]) (fun g => [(101, .row 3 1 (rowF (outF t ws j) ws.length)), (102, .row 3 1 (rowF (restF t ws j) ws.length))]) (fun g => g.1 ≤ ws.length ∧ g.2 < ws.length ∧ g.2 ≤ g.1 ∧ FstMax (restF t ws j) g.1 g.2) (fun g => ws.length - g.1) (0, 0) ⟨Nat.zero_le _, hn0, Nat.le_refl _, fst_start _⟩ (Sub.less ⟨(SLe.i64 rfl), (SLe.i64 rfl), SLe.refl _, SLe.refl _, SLe.refl _, SLe.refl _, SLe.refl _, SLe.refl _, trivial⟩ (rows_2 rfl rfl)) ?_
    rintro ⟨i, b⟩ ⟨hi, hb, hbi, hF⟩
    dsimp only at hi hb hbi hF ⊢
    refine AWP.seq (AWP.region ?_)
    refine AOps.step rfl rfl rfl (AOp.lss rfl rfl rfl) (.nil ?_)
    refine AWP.seq ?_
    refine AWP.cond rfl (fun h9 => ?_) (fun h9 => ?_)
    · replace h9 := of_decide_eq_true h9
      rw [rowF_len] at h9
      have hin : i < ws.length := by omega
      refine AWP.skip ?_
      refine AWP.seq ?_
      refine AWP.block ?_
      refine AWP.seq (AWP.region ?_)
      refine AOps.mD rfl rfl rfl rfl rfl ?_
      refine AOps.step rfl rfl rfl (AOp.indexOwn rfl et_45 rfl rfl (.tail _ (.head _)) i rfl (by rw [rowF_len]; exact hin)) ?_
      refine AOps.step rfl rfl rfl (AOp.loadRow rfl sc_3 rfl (.tail _ (.head _)) i 0 rfl (rowF_at hin) rfl) ?_
      refine AOps.aD rfl rfl rfl rfl rfl ?_
      refine AOps.aD rfl rfl rfl rfl rfl (.nil ?_)
      refine AWP.seq (AWP.region ?_)
      refine AOps.mD rfl rfl rfl rfl rfl ?_
      refine AOps.step rfl rfl rfl (AOp.moveO rfl rfl) ?_
      refine AOps.mD rfl rfl rfl rfl rfl ?_
      refine AOps.step rfl rfl rfl (AOp.indexOwn rfl et_45 rfl rfl (.tail _ (.head _)) b rfl (by rw [rowF_len]; exact hb)) ?_
      refine AOps.step rfl rfl rfl (AOp.loadRow rfl sc_3 rfl (.tail _ (.head _)) b 0 rfl (rowF_at hb) rfl) ?_
      refine AOps.step rfl rfl rfl (AOp.gtr rfl rfl rfl) (.nil ?_)
      refine AWP.cond rfl (fun h10 => ?_) (fun h10 => ?_)
      · replace h10 := of_decide_eq_true h10
        have HN := fst_up hF h10
        refine AWP.region ?_
        refine AOps.mD rfl rfl rfl rfl rfl ?_
        refine AOps.aD rfl rfl rfl rfl rfl (.nil ?_)
        refine AWP.region ?_
        refine AOps.step rfl rfl rfl (AOp.add64 rfl rfl rfl (by omega) (by omega)) ?_
        refine AOps.mD rfl rfl rfl rfl rfl (.nil ?_)
        refine ⟨(i + 1, i), ⟨by dsimp only; omega, by dsimp only; omega, by dsimp only; omega, HN⟩, (by dsimp only; omega), Sub.less ⟨(SLe.i64 rfl), SLe.refl _, SLe.refl _, SLe.refl _, SLe.refl _, SLe.refl _, SLe.refl _, SLe.refl _, trivial⟩ (rows_2 rfl rfl)⟩
      replace h10 := of_decide_eq_false h10
      have HN := fst_same hF hbi h10
      refine AWP.skip ?_
      refine AWP.region ?_
      refine AOps.step rfl rfl rfl (AOp.add64 rfl rfl rfl (by omega) (by omega)) ?_
      refine AOps.mD rfl rfl rfl rfl rfl (.nil ?_)
      refine ⟨(i + 1, b), ⟨by dsimp only; omega, hb, by dsimp only; omega, HN⟩, (by dsimp only; omega), Sub.less ⟨(SLe.i64 rfl), SLe.refl _, SLe.refl _, SLe.refl _, SLe.refl _, SLe.refl _, SLe.refl _, SLe.refl _, trivial⟩ (rows_2 rfl rfl)⟩
    replace h9 := of_decide_eq_false h9
    rw [rowF_len] at h9
    obtain rfl : i = ws.length := by omega
    have hbe : b = (ordL t ws)[j].1.val := fstMax_one hb (ordL t ws)[j].1.isLt hF (next_max hs hjo)
    subst hbe
    have hob := ok.outB j (ordL t ws)[j].1.isLt
    refine AWP.exit ?_
    refine AWP.seq (AWP.region ?_)
    refine AOps.step rfl rfl rfl (AOp.moveO rfl rfl) ?_
    refine AOps.mD rfl rfl rfl rfl rfl ?_
    refine AOps.step rfl rfl rfl (AOp.indexOwn rfl et_45 rfl rfl (.head _) (ordL t ws)[j].1.val rfl (by rw [rowF_len]; exact hb)) ?_
    refine AOps.step rfl rfl rfl (AOp.loadRow rfl sc_3 rfl (.head _) (ordL t ws)[j].1.val 0 rfl (rowF_at hb) rfl) ?_
    refine AOps.step rfl rfl rfl (AOp.add64 rfl rfl rfl (by omega) (by omega)) ?_
    refine AOps.step rfl rfl rfl (AOp.indexOwn rfl et_45 rfl rfl (.head _) (ordL t ws)[j].1.val rfl (by rw [rowF_len]; exact hb)) ?_
    refine AOps.storeRow rfl rfl rfl sz_3 rfl (.head _) rfl rfl rfl (ordL t ws)[j].1.val 0 rfl (rowF_at hb) (Nat.le_of_ble_eq_true rfl) (.nil ?_)
    refine AWP.region ?_
    refine AOps.step rfl rfl rfl (AOp.moveO rfl rfl) ?_
    refine AOps.mD rfl rfl rfl rfl rfl ?_
    refine AOps.step rfl rfl rfl (AOp.indexOwn rfl et_45 rfl rfl (.tail _ (.head _)) (ordL t ws)[j].1.val rfl (by rw [rowF_len]; exact hb)) ?_
    refine AOps.storeRow rfl rfl rfl sz_3 rfl (.tail _ (.head _)) rfl rfl rfl (ordL t ws)[j].1.val 0 rfl (rowF_at hb) (Nat.le_of_ble_eq_true rfl) (.nil ?_)
    refine AWP.region ?_
    refine AOps.step rfl rfl rfl (AOp.add64 rfl rfl rfl (by omega) (by omega)) ?_
    refine AOps.mD rfl rfl rfl rfl rfl (.nil ?_)
    refine ⟨j + 1, (by omega), (by dsimp only; omega), Sub.less ⟨(SLe.i64 rfl), SLe.refl _, SLe.refl _, SLe.refl _, trivial⟩ (rows_2 (rowF_set hb fun i _ => outF_succ hjo i) (rowF_set hb fun i _ => restF_succ hjo i))⟩
  replace h8 := of_decide_eq_false h8
  obtain rfl : j = L := by omega
  refine AWP.exit ?_
  refine AWP.seq (AWP.region ?_)
  refine AOps.step rfl rfl rfl (AOp.moveO rfl rfl) ?_
  refine AOps.step rfl rfl rfl (AOp.assignO rfl rfl) ?_
  refine AOps.aD rfl rfl rfl rfl rfl (.nil ?_)
  refine AWP.ret ?_
  refine ⟨RetD.own rfl (.head _) ?_, RetD.eq rfl ?_, trivial⟩
  all_goals (first | rfl | (rw [Int.toNat_natCast]))

end Go.Proofs.YtekenfknoakboaaGreatDoor


namespace Go.Proofs.YtekenfknoakboaaGreatDoor
open Go.RowKit
set_option linter.unusedVariables false

/-! Types. -/
namespace TyO9
theorem ag_31 : AggT Tryz.prog 31 4 := .of (by kernel_rfl)
theorem ag_37 : AggT Tryz.prog 37 5 := .of (by kernel_rfl)
theorem bu_31 : StructT Tryz.prog 31 (fun i => (#[(0, 1), (1, 1), (2, 1), (3, 1)] : Array (Nat × Nat))[i]?) [(.int .i64 0), (.int .i64 0), (.int .i64 0), (.int .i64 0)] := .of (by kernel_rfl) (by kernel_rfl) (by decide)
theorem et_24 : ElemTy Tryz.prog 24 31 4 32 (.agg #[(.int .i64 0), (.int .i64 0), (.int .i64 0), (.int .i64 0)]) := ⟨by kernel_rfl, by kernel_rfl, by kernel_rfl, by decide⟩
theorem et_32 : ElemTy Tryz.prog 32 37 5 56 (.agg #[(.string ⟨#[]⟩), (.string ⟨#[]⟩), (.int .i64 0), (.int .i64 0), (.int .i64 0)]) := ⟨by kernel_rfl, by kernel_rfl, by kernel_rfl, by decide⟩
theorem et_45 : ElemTy Tryz.prog 45 3 1 8 (.int .i64 0) := ⟨by kernel_rfl, by kernel_rfl, by kernel_rfl, by decide⟩
theorem fo_31_0 : fieldOff Tryz.prog 31 0 = some 0 := by kernel_rfl
theorem fo_31_1 : fieldOff Tryz.prog 31 1 = some 1 := by kernel_rfl
theorem fo_31_2 : fieldOff Tryz.prog 31 2 = some 2 := by kernel_rfl
theorem fo_31_3 : fieldOff Tryz.prog 31 3 = some 3 := by kernel_rfl
theorem fo_37_2 : fieldOff Tryz.prog 37 2 = some 2 := by kernel_rfl
theorem fo_37_4 : fieldOff Tryz.prog 37 4 = some 4 := by kernel_rfl
theorem sc_3 : Scal Tryz.prog 3 := .of (by kernel_rfl)
theorem sz_3 : ∀ w, (sizeOf 3).run Tryz.prog w = .ok 1 w := SizeT.of (by kernel_rfl)
theorem sz_31 : ∀ w, (sizeOf 31).run Tryz.prog w = .ok 4 w := SizeT.of (by kernel_rfl)
theorem sz_37 : ∀ w, (sizeOf 37).run Tryz.prog w = .ok 5 w := SizeT.of (by kernel_rfl)
theorem zt_31 : (Tryz.prog.info? 31).bind (·.zero) = some (.agg #[(.int .i64 0), (.int .i64 0), (.int .i64 0), (.int .i64 0)]) := by kernel_rfl
theorem zt_37 : (Tryz.prog.info? 37).bind (·.zero) = some (.agg #[(.string ⟨#[]⟩), (.string ⟨#[]⟩), (.int .i64 0), (.int .i64 0), (.int .i64 0)]) := by kernel_rfl
end TyO9
open TyO9


open Go.Sort Go.Lib
theorem cl_triple2 {a b c id id2 : Nat} {s s' s'' : S} {sl sl2 : List Nat} (ha : sl.contains a = true) (hb : sl.contains b = true) (hc : sl.contains c = true) (h1 : s.kill id2 = s) (h2 : s'.kill id2 = s') (h3 : s''.kill id2 = s'') : ∀ p ∈ [(a, s), (b, s'), (c, s'')], ∀ f ∈ [(⟨id, sl⟩ : Fc), ⟨id2, sl2⟩], f.slots.contains p.1 = true ∨ p.2.kill f.id = p.2 := by
  intro p hp f hf
  rcases List.mem_cons.1 hf with rfl | hf
  · refine .inl ?_
    rcases List.mem_cons.1 hp with rfl | hp
    · exact ha
    · rcases List.mem_cons.1 hp with rfl | hp
      · exact hb
      · obtain rfl := List.mem_singleton.1 hp; exact hc
  · obtain rfl := List.mem_singleton.1 hf
    refine .inr ?_
    rcases List.mem_cons.1 hp with rfl | hp
    · exact h1
    · rcases List.mem_cons.1 hp with rfl | hp
      · exact h2
      · obtain rfl := List.mem_singleton.1 hp; exact h3
theorem cl_triple2' {a b c id id2 : Nat} {s s' s'' : S} {sl sl2 : List Nat} (ha : sl.contains a = true) (hb : sl.contains b = true) (hc : sl.contains c = true) (h1 : s.kill id2 = s) (h2 : s'.kill id2 = s') (h3 : s''.kill id2 = s'') : ∀ p ∈ [(a, s), (b, s'), (c, s'')], ∀ f ∈ [(⟨id2, sl2⟩ : Fc), ⟨id, sl⟩], f.slots.contains p.1 = true ∨ p.2.kill f.id = p.2 := fun p hp f hf =>
  cl_triple2 ha hb hc h1 h2 h3 p hp f (by
    rcases List.mem_cons.1 hf with rfl | hf
    · exact .tail _ (.head _)
    · obtain rfl := List.mem_singleton.1 hf; exact .head _)

/-! ### The greatest -/
def maxK (ws : List Int) (k : Nat) : Int := (ws.take k).foldl max (ws.getD 0 0)
theorem maxK_one {ws : List Int} (h : 0 < ws.length) : maxK ws 1 = ws[0] := by
  unfold maxK
  rw [List.take_add_one, List.take_zero, List.getElem?_eq_getElem h, List.getD_eq_getElem?_getD, List.getElem?_eq_getElem h]
  simp
theorem maxK_next {ws : List Int} {k : Nat} (h : k < ws.length) : maxK ws (k + 1) = max (maxK ws k) ws[k] := by
  unfold maxK
  rw [List.take_add_one, List.getElem?_eq_getElem h, Option.toList_some, List.foldl_append]; rfl
theorem max_gt (c : Int) : ∀ (l : List Int) (b : Int), c < l.foldl max b ↔ c < b ∨ ∃ w ∈ l, c < w
  | [], b => by simp
  | w :: l, b => by
    rw [List.foldl_cons, max_gt c l]
    constructor
    · rintro (h | ⟨x, hx, h⟩)
      · by_cases hb : c < b
        · exact .inl hb
        · exact .inr ⟨w, by simp, by omega⟩
      · exact .inr ⟨x, by simp [hx], h⟩
    · rintro (h | ⟨x, hx, h⟩)
      · exact .inl (by omega)
      · rcases List.mem_cons.1 hx with rfl | hx
        · exact .inl (by omega)
        · exact .inr ⟨x, hx, h⟩
theorem maxK_gt {ws : List Int} (h : 0 < ws.length) (c : Int) : c < maxK ws ws.length ↔ ∃ w ∈ ws, c < w := by
  unfold maxK
  rw [List.take_length, max_gt, List.getD_eq_getElem?_getD, List.getElem?_eq_getElem h]
  constructor
  · rintro (h1 | h1)
    · exact ⟨ws[0], List.getElem_mem h, h1⟩
    · exact h1
  · exact .inr
/-! ### What is divided, among whom -/
def pmf (p : Int) (s : Unk) : Int := if s.per = p then s.money else 0
def potB (p : Int) (s : Sal) : Bool := decide (s.per = p) && decide (0 < s.units)
def potO (S : List Sal) (p : Int) : List Sal := (S.filter (potB p)).map fun s => ⟨s.recd, p, 0, 0⟩
def potW (S : List Sal) (p : Int) : List Int := (S.filter (potB p)).map Sal.units
def potLg (M : Int) (ws : List Int) : Prop := 1000000000 < M ∨ 500 < ws.length ∨ ∃ w ∈ ws, 1000000000 < w
instance (M : Int) (ws : List Int) : Decidable (potLg M ws) := by unfold potLg; infer_instance
def potG (S : List Sal) (U : List Unk) (p : Int) : Int := if (potO S p).length = 0 then 9 else if potLg (sumI (pmf p) U) (potW S p) then 2 else 0
def potF (l : List Rpt) (a : List Ali) (p : Int) : Int := if askF l a ≠ 0 then askF l a else if ¬ (0 ≤ p ∧ p ≤ 2400) then 1 else potG (salesR a (validR l)) (unkR a (validR l)) p
def payTo (O : List Sal) (f : Nat → Int) (k : Nat) : List Sal := O.mapIdx fun i s => if i < k then ⟨s.recd, s.per, s.units, f i⟩ else s
def potV (S : List Sal) (U : List Unk) (p : Int) : List Sal := payTo (potO S p) (outF (sumI (pmf p) U) (potW S p) (leftTo (sumI (pmf p) U) (potW S p) (potW S p).length).toNat) (potO S p).length
def potR (l : List Rpt) (a : List Ali) (p : Int) : List Sal := if potF l a p = 0 then potV (salesR a (validR l)) (unkR a (validR l)) p else []
theorem potO_len (S : List Sal) (p : Int) : (potO S p).length = (potW S p).length := by unfold potO potW; rw [List.length_map, List.length_map]
theorem filt_yes {α : Type} {p : α → Bool} {l : List α} {k : Nat} (hk : k < l.length) (h : p l[k] = true) : (l.take (k + 1)).filter p = (l.take k).filter p ++ [l[k]] := by
  rw [List.take_add_one, List.getElem?_eq_getElem hk, Option.toList_some, List.filter_append, List.filter_cons, List.filter_nil, if_pos h]
theorem filt_no {α : Type} {p : α → Bool} {l : List α} {k : Nat} (hk : k < l.length) (h : p l[k] = false) : (l.take (k + 1)).filter p = (l.take k).filter p := by
  rw [List.take_add_one, List.getElem?_eq_getElem hk, Option.toList_some, List.filter_append, List.filter_cons, List.filter_nil, if_neg (by rw [h]; simp), List.append_nil]
theorem pot_yes {S : List Sal} {p : Int} {k : Nat} (hk : k < S.length) (h : S[k].per = p) (h2 : 0 < S[k].units) : (potO (S.take k) p).map Sal.ds ++ [[.v (.int .i64 S[k].recd), .v (.int .i64 p), .v (.int .i64 0), .v (.int .i64 0)]] = (potO (S.take (k + 1)) p).map Sal.ds ∧ (potW (S.take k) p).map intD ++ [intD S[k].units] = (potW (S.take (k + 1)) p).map intD := by
  unfold potO potW
  rw [filt_yes hk (by unfold potB; rw [decide_eq_true h, decide_eq_true h2]; rfl)]
  simp only [List.map_append, List.map_cons, List.map_nil]
  refine ⟨?_, ?_⟩ <;> first | rfl | trivial
theorem pot_no {S : List Sal} {p : Int} {k : Nat} (hk : k < S.length) (h : ¬ (S[k].per = p ∧ 0 < S[k].units)) : potO (S.take (k + 1)) p = potO (S.take k) p ∧ potW (S.take (k + 1)) p = potW (S.take k) p := by
  unfold potO potW
  rw [filt_no hk (by
    unfold potB
    rw [Bool.and_eq_false_iff, decide_eq_false_iff_not, decide_eq_false_iff_not]
    exact Decidable.not_and_iff_not_or_not.1 h)]
  exact ⟨rfl, rfl⟩
theorem potW_le (S : List Sal) (p : Int) (k : Nat) : (potW (S.take k) p).length ≤ k := by
  unfold potW
  rw [List.length_map]
  exact Nat.le_trans (List.length_filter_le _ _) (by rw [List.length_take]; omega)
theorem potW_pos {S : List Sal} {p : Int} : ∀ w ∈ potW S p, 0 < w := fun w hw => by
  unfold potW at hw
  obtain ⟨s, hs, rfl⟩ := List.mem_map.1 hw
  have := (List.mem_filter.1 hs).2
  unfold potB at this
  simp only [Bool.and_eq_true, decide_eq_true_eq] at this
  exact this.2
theorem sum_pos : ∀ {l : List Int}, l ≠ [] → (∀ w ∈ l, 0 < w) → 0 < l.sum
  | [], h, _ => absurd rfl h
  | [w], _, h => by have := h w (by simp); simpa using this
  | w :: v :: l, _, h => by
    have h1 := h w (by simp)
    have h2 := sum_pos (l := v :: l) (by simp) (fun x hx => h x (by simp [List.mem_cons.1 hx]))
    rw [List.sum_cons]
    omega
theorem pot_div {S : List Sal} {M p : Int} (h0 : ¬ (potO S p).length = 0) (hM : 0 ≤ M) (h : ¬ potLg M (potW S p)) : divFault M (potW S p) = 0 ∧ divR M (potW S p) = rowF (outF M (potW S p) (leftTo M (potW S p) (potW S p).length).toNat) (potW S p).length := by
  have h1 := potO_len S p
  have h2 : ¬ 1000000000 < M := fun hh => h (.inl hh)
  have h3 : ¬ 500 < (potW S p).length := fun hh => h (.inr (.inl hh))
  have h4 : ∀ w ∈ potW S p, ¬ 1000000000 < w := fun w hw hh => h (.inr (.inr ⟨w, hw, hh⟩))
  have h5 : 0 < (potW S p).sum := sum_pos (fun e => by rw [e] at h1; exact h0 (by rw [h1]; rfl)) potW_pos
  have hF : divFault M (potW S p) = 0 := by
    unfold divFault
    rw [if_neg (by omega), if_neg (by omega), if_neg (by omega), if_neg ?_, if_neg (by omega)]
    rintro ⟨w, hw, hh⟩
    have := h4 w hw
    have := potW_pos w hw
    omega
  exact ⟨hF, if_pos hF⟩
theorem payTo_len (O : List Sal) (f : Nat → Int) (k : Nat) : (payTo O f k).length = O.length := List.length_mapIdx
theorem payTo_at {O : List Sal} {f : Nat → Int} {k i : Nat} (h : i < O.length) : (payTo O f k)[i]'(by rw [payTo_len]; exact h) = if i < k then ⟨O[i].recd, O[i].per, O[i].units, f i⟩ else O[i] := List.getElem_mapIdx
theorem payTo_0 (O : List Sal) (f : Nat → Int) : payTo O f 0 = O := by
  apply List.ext_getElem (payTo_len ..)
  intro i h1 h2
  rw [payTo_at h2, if_neg (by omega)]
theorem payTo_ds {O : List Sal} {f : Nat → Int} {k : Nat} (h : k < O.length) : ((payTo O f k).map Sal.ds)[k]? = some O[k].ds := by
  rw [List.getElem?_map, List.getElem?_eq_getElem (by rw [payTo_len]; exact h), payTo_at h, if_neg (by omega)]; rfl
theorem payTo_next {O : List Sal} {f : Nat → Int} {k : Nat} (h : k < O.length) : ((payTo O f k).map Sal.ds).set k [.v (.int .i64 O[k].recd), .v (.int .i64 O[k].per), .v (.int .i64 O[k].units), .v (.int .i64 (f k))] = (payTo O f (k + 1)).map Sal.ds := by
  apply List.ext_getElem (by simp [payTo_len])
  intro i h1 h2
  have hi : i < O.length := by simpa [payTo_len] using h2
  rw [List.getElem_set]
  by_cases e : k = i
  · subst e
    rw [if_pos rfl, List.getElem_map, payTo_at hi, if_pos (by omega)]; rfl
  · rw [if_neg e, List.getElem_map, List.getElem_map, payTo_at hi, payTo_at hi]
    by_cases h3 : i < k
    · rw [if_pos h3, if_pos (by omega)]
    · rw [if_neg h3, if_neg (by omega)]
theorem pmf_bnd {U : List Unk} (h : ∀ s ∈ U, 0 ≤ s.units ∧ 0 ≤ s.money) (p : Int) : (∀ s ∈ U, 0 ≤ pmf p s) ∧ sumI (pmf p) U ≤ sumI uM U := by
  refine ⟨fun s hs => ?_, ?_⟩
  · unfold pmf
    have := (h s hs).2
    split <;> omega
  · have : ∀ V : List Unk, (∀ s ∈ V, 0 ≤ s.money) → sumI (pmf p) V ≤ sumI uM V := by
      intro V
      induction V with
      | nil => intro _; exact Int.le_refl _
      | cons s V ih =>
        intro hV
        rw [sumI_cons, sumI_cons]
        have h1 := ih fun x hx => hV x (by simp [hx])
        have h2 : pmf p s ≤ uM s := by
          unfold pmf uM
          have := hV s (by simp)
          split <;> omega
        omega
    exact this U fun s hs => (h s hs).2
theorem any_next {S : List Sal} {p : Int} {k : Nat} {b : Bool} (hk : k < S.length) (hb : b = (potW (S.take k) p).any fun w => decide (1000000000 < w)) (h : S[k].per = p) (h2 : 0 < S[k].units) : (b || decide (1000000000 < S[k].units)) = (potW (S.take (k + 1)) p).any fun w => decide (1000000000 < w) := by
  subst hb
  unfold potW
  rw [filt_yes hk (by unfold potB; rw [decide_eq_true h, decide_eq_true h2]; rfl)]
  simp
theorem lg_next {S : List Sal} {M p : Int} {k : Nat} (hk : k < S.length) (h : S[k].per = p) (h2 : 0 < S[k].units) : (decide (1000000000 < M) || (potW (S.take (k + 1)) p).any fun w => decide (1000000000 < w)) = ((decide (1000000000 < M) || (potW (S.take k) p).any fun w => decide (1000000000 < w)) || decide (1000000000 < S[k].units)) := by
  rw [Bool.or_assoc, any_next hk rfl h h2]
def lgB (M : Int) (ws : List Int) : Bool := decide (1000000000 < M) || ws.any fun w => decide (1000000000 < w)
theorem lgB_iff {M : Int} {ws : List Int} : potLg M ws ↔ lgB M ws = true ∨ 500 < ws.length := by
  unfold potLg lgB
  rw [Bool.or_eq_true, decide_eq_true_eq, List.any_eq_true]
  simp only [decide_eq_true_eq]
  constructor
  · rintro (h | h | h)
    · exact .inl (.inl h)
    · exact .inr h
    · exact .inl (.inr h)
  · rintro ((h | h) | h)
    · exact .inl h
    · exact .inr (.inr h)
    · exact .inr (.inl h)


set_option maxRecDepth 100000 in
set_option maxHeartbeats 1000000 in
theorem c_max (ws : List Int) (h0 : 0 < ws.length) : ACall Tryz.prog 43 [.sl (ws.map intD)] (.v (.int .i64 (maxK ws ws.length))) := by
  refine acall_of (n := 25) (ds' := [.v (.int .i64 (maxK ws ws.length))]) Tryz.func43 rfl (by kernel_rfl) rfl [2] rfl rfl ?_
  intro B w0 F0 fr
  refine AWP.bound 0 rfl (fun hbd0 => ?_)
  rw [List.length_map] at hbd0
  refine AWP.seq (AWP.region ?_)
  refine AOps.aD rfl rfl rfl rfl rfl (.nil ?_)
  refine AWP.seq ?_
  refine AWP.seq (AWP.region ?_)
  refine AOps.mD rfl rfl rfl rfl rfl ?_
  refine AOps.step rfl rfl rfl (AOp.lenSl rfl et_45.ht rfl) ?_
  refine AOps.step rfl rfl rfl (AOp.lss rfl rfl rfl) (.nil ?_)
  refine AWP.cond rfl (fun h1 => ?_) (fun h1 => ?_)
  · replace h1 := of_decide_eq_true h1
    rw [List.length_map] at h1; exfalso; omega
  replace h1 := of_decide_eq_false h1
  refine AWP.skip ?_
  refine AWP.seq (AWP.region ?_)
  refine AOps.mD rfl rfl rfl rfl rfl ?_
  refine AOps.step rfl rfl rfl (AOp.indexAddr rfl et_45 rfl rfl 0 rfl (at_lst h0) rfl) ?_
  refine AOps.step rfl rfl rfl (AOp.load rfl sc_3 rfl) ?_
  refine AOps.aD rfl rfl rfl rfl rfl (.nil ?_)
  refine AWP.seq ?_
  refine AWP.seq (AWP.region ?_)
  refine AOps.aD rfl rfl rfl rfl rfl (.nil ?_)
  refine AWP.block ?_
  refine AWP.loop (G := Nat) (fun k => Env.of [(4, .d (.v (.int .i64 (k : Int)))), (3, .d (.v (.int .i64 (maxK ws k)))), (0, .d (.sl (ws.map intD)))]) (fun k => []) (fun k => 1 ≤ k ∧ k ≤ ws.length) (fun k => ws.length - k) 1 ⟨Nat.le_refl _, h0⟩ (Sub.less ⟨(SLe.of_eq rfl), (SLe.i64 (by rw [maxK_one h0])), SLe.refl _, trivial⟩ (fun _ h => h)) ?_
  intro k hk
  refine AWP.seq ?_
  refine AWP.seq (AWP.region ?_)
  refine AOps.mD rfl rfl rfl rfl rfl ?_
  refine AOps.mD rfl rfl rfl rfl rfl ?_
  refine AOps.step rfl rfl rfl (AOp.lenSl rfl et_45.ht rfl) ?_
  refine AOps.step rfl rfl rfl (AOp.lss rfl rfl rfl) (.nil ?_)
  refine AWP.cond rfl (fun h2 => ?_) (fun h2 => ?_)
  · replace h2 := of_decide_eq_true h2
    rw [List.length_map] at h2
    have hlt : k < ws.length := by omega
    have HN := maxK_next hlt
    refine AWP.skip ?_
    refine AWP.seq ?_
    refine AWP.block ?_
    refine AWP.region ?_
    refine AOps.mD rfl rfl rfl rfl rfl ?_
    refine AOps.mD rfl rfl rfl rfl rfl ?_
    refine AOps.mD rfl rfl rfl rfl rfl ?_
    refine AOps.step rfl rfl rfl (AOp.indexAddr rfl et_45 rfl rfl k rfl (at_lst hlt) rfl) ?_
    refine AOps.step rfl rfl rfl (AOp.load rfl sc_3 rfl) ?_
    refine AOps.step rfl rfl rfl (AOp.max rfl rfl rfl) ?_
    refine AOps.aD rfl rfl rfl rfl rfl (.nil ?_)
    refine AWP.region ?_
    refine AOps.mD rfl rfl rfl rfl rfl ?_
    refine AOps.step rfl rfl rfl (AOp.add64 rfl rfl rfl (by omega) (by omega)) ?_
    refine AOps.aD rfl rfl rfl rfl rfl (.nil ?_)
    refine ⟨k + 1, ⟨by omega, by omega⟩, (by dsimp only; omega), Sub.less ⟨(SLe.of_eq rfl), (SLe.i64 (by rw [HN])), SLe.refl _, trivial⟩ (fun _ h => h)⟩
  replace h2 := of_decide_eq_false h2
  rw [List.length_map] at h2
  obtain rfl : k = ws.length := by omega
  refine AWP.exit ?_
  refine AWP.seq (AWP.region ?_)
  refine AOps.mD rfl rfl rfl rfl rfl ?_
  refine AOps.aD rfl rfl rfl rfl rfl (.nil ?_)
  refine AWP.ret ?_
  refine ⟨RetD.eq rfl ?_, trivial⟩
  all_goals (rfl)

set_option maxRecDepth 100000 in
set_option maxHeartbeats 8000000 in
theorem c_pPot (l : List Rpt) (a : List Ali) (p : Int) (ho : ∀ x ∈ l, okRpt x) (ha : ∀ x ∈ a, x.source.size ≤ 9223372036854775807 ∧ x.title.size ≤ 9223372036854775807) : ACallT Tryz.prog MaxT 15 [.sl (l.map Rpt.ds), .sl (a.map Ali.ds), .v (.int .i64 p)] (.tup [.sl ((potR l a p).map Sal.ds), .v (.int .i64 (potF l a p))]) := by
  refine acall_ofT (n := 118) (ds' := [.sl ((potR l a p).map Sal.ds), .v (.int .i64 (potF l a p))]) Tryz.func15 rfl (by kernel_rfl) rfl [6, 7] rfl rfl ?_
  intro B w0 F0 hT
  refine AWP.seq (AWP.region ?_)
  refine AOps.aD rfl rfl rfl rfl rfl ?_
  refine AOps.aD rfl rfl rfl rfl rfl (.nil ?_)
  refine AWP.seq ?_
  refine AWP.seq (AWP.region ?_)
  refine AOps.mD rfl rfl rfl rfl rfl ?_
  refine AOps.mD rfl rfl rfl rfl rfl ?_
  -- wants the world
  refine AOps.callT rfl rfl rfl hT maxT_stays rfl (.cons (ArgOk.rfl' rfl) (.cons (ArgOk.rfl' rfl) .nil)) (c_pAsk l a ho ha) ?_
  refine AOps.aD rfl rfl rfl rfl rfl (.nil ?_)
  refine AWP.seq (AWP.region ?_)
  refine AOps.mD rfl rfl rfl rfl rfl ?_
  refine AOps.step rfl rfl rfl (AOp.neq rfl rfl rfl) (.nil ?_)
  refine AWP.cond rfl (fun h1 => ?_) (fun h1 => ?_)
  · replace h1 := of_decide_eq_true h1
    have HP : potF l a p = askF l a := if_pos h1
    have HR : potR l a p = [] := if_neg (by rw [HP]; exact h1)
    rw [HR, HP]
    refine AWP.seq (AWP.region ?_)
    refine AOps.mD rfl rfl rfl rfl rfl ?_
    refine AOps.aD rfl rfl rfl rfl rfl ?_
    refine AOps.aD rfl rfl rfl rfl rfl (.nil ?_)
    refine AWP.ret ?_
    refine ⟨RetD.nil rfl, RetD.eq rfl ?_, trivial⟩
    all_goals (first | rfl | rw [HZ])
  replace h1 := of_decide_eq_false h1
  have h0 : askF l a = 0 := by omega
  obtain ⟨h1, h2⟩ := ask_ok h0
  have hl := log_of h1
  have hA := als_of h2
  have hll := hl.len
  have hvl : (validR l).length ≤ l.length := List.length_filter_le _ _
  have hV : ∀ x ∈ (validR l), RpO x := fun x hx => rpO (hl.ok x (List.mem_filter.1 hx).1) (ho x (List.mem_filter.1 hx).1)
  obtain ⟨hnS, hnU⟩ := sal_nn hA hV
  obtain ⟨hp1, hp2⟩ := pmf_bnd hnU p
  have hT2 := all_M a (validR l)
  have hz2 := sumI_nonneg (f := sM) (fun x hx => (hnS x hx).2)
  have hb2 : sumI lM (validR l) ≤ 30000000000000 := (lines_le hV (by omega) Usd.money (fun u h => ⟨h.2.1, h.2.2⟩)).1
  have hM0 := sumI_nonneg hp1
  have hSl : (salesR a (validR l)).length ≤ 30000 := by
    have hI := inv_A hA hV (validR l).length (Nat.le_refl _)
    rw [List.take_length, stA_eq] at hI
    have h3 := hI.l1
    have h4 := fold_len tot_S (knA a (validR l))
    unfold salesR
    rw [List.length_map]
    dsimp only at h3
    omega
  have hUl : (unkR a (validR l)).length ≤ 30000 := by
    have hI := inv_A hA hV (validR l).length (Nat.le_refl _)
    rw [List.take_length, stA_eq] at hI
    have h3 := hI.l2
    have h4 := fold_len tot_U (opA a (validR l))
    unfold unkR
    rw [List.length_map]
    dsimp only at h3
    omega
  refine AWP.skip ?_
  refine AWP.seq ?_
  refine AWP.seq (AWP.region ?_)
  refine AOps.mD rfl rfl rfl rfl rfl ?_
  refine AOps.step rfl rfl rfl (AOp.call rfl (.cons (ArgOk.rfl' rfl) (.cons (ArgOk.rfl' rfl) (.cons (ArgOk.rfl' rfl) .nil))) (c_pIn _ _ _)) ?_
  refine AOps.step rfl rfl rfl (AOp.not rfl rfl) (.nil ?_)
  refine AWP.cond rfl (fun h2 => ?_) (fun h2 => ?_)
  · replace h2 := bnot_t h2; replace h2 := of_decide_eq_false h2
    have HP : potF l a p = 1 := by unfold potF; rw [if_neg (by rw [h0]; simp)]; exact if_pos h2
    have HR : potR l a p = [] := if_neg (by rw [HP]; decide)
    rw [HR, HP]
    refine AWP.seq (AWP.region ?_)
    refine AOps.aD rfl rfl rfl rfl rfl ?_
    refine AOps.aD rfl rfl rfl rfl rfl (.nil ?_)
    refine AWP.ret ?_
    refine ⟨RetD.nil rfl, RetD.eq rfl ?_, trivial⟩
    all_goals (first | rfl | rw [HZ])
  replace h2 := bnot_f h2; replace h2 := of_decide_eq_true h2
  have hpr : 0 ≤ p ∧ p ≤ 2400 := by omega
  refine AWP.skip ?_
  refine AWP.seq (AWP.region ?_)
  refine AOps.mD rfl rfl rfl rfl rfl ?_
  refine AOps.mD rfl rfl rfl rfl rfl ?_
  refine AOps.step rfl rfl rfl (AOp.call rfl (.cons (ArgOk.rfl' rfl) (.cons (ArgOk.rfl' rfl) .nil)) (c_sums l a hl ho hA)) ?_
  refine AOps.mD rfl rfl rfl rfl rfl ?_
  refine AOps.step rfl rfl rfl (AOp.extract rfl rfl rfl) ?_
  refine AOps.step rfl rfl rfl (AOp.extract rfl rfl rfl) ?_
  refine AOps.aD rfl rfl rfl rfl rfl ?_
  refine AOps.aD rfl rfl rfl rfl rfl (.nil ?_)
  refine AWP.seq (AWP.region ?_)
  refine AOps.aD rfl rfl rfl rfl rfl (.nil ?_)
  refine AWP.seq ?_
  refine AWP.seq (AWP.region ?_)
  refine AOps.mD rfl rfl rfl rfl rfl ?_
  refine AOps.step rfl rfl rfl (AOp.lenSl rfl et_32.ht rfl) ?_
  refine AOps.mD rfl rfl rfl rfl rfl (.nil ?_)
  refine AWP.block ?_
  refine AWP.loop (G := Nat) (fun k => Env.of [(39, .d (.v (.int .i64 (k : Int)))), (37, .d (.sl ((unkR a (validR l)).map Unk.ds))), (38, .d (.v (.int .i64 (((unkR a (validR l)).map Unk.ds).length : Int)))), (11, .d (.v (.int .i64 (sumI (pmf p) ((unkR a (validR l)).take k))))), (2, .d (.v (.int .i64 (p)))), (9, .d (.sl ((salesR a (validR l)).map Sal.ds)))]) (fun k => []) (fun k => k ≤ (unkR a (validR l)).length) (fun k => (unkR a (validR l)).length - k) 0 (Nat.zero_le _) (Sub.less ⟨(SLe.of_eq rfl), SLe.refl _, SLe.refl _, (SLe.of_eq rfl), SLe.refl _, SLe.refl _, trivial⟩ (fun _ h => h)) ?_
  intro k hk
  refine AWP.seq (AWP.region ?_)
  refine AOps.step rfl rfl rfl (AOp.lss rfl rfl rfl) (.nil ?_)
  refine AWP.seq ?_
  refine AWP.cond rfl (fun h3 => ?_) (fun h3 => ?_)
  · replace h3 := of_decide_eq_true h3
    rw [List.length_map] at h3
    have hlt : k < (unkR a (validR l)).length := by omega
    have HN := sumI_next (pmf p) hlt
    have hq1 := sumI_take hp1 k
    have hq2 := sumI_take hp1 (k + 1)
    rw [HN] at hq2
    refine AWP.skip ?_
    refine AWP.seq ?_
    refine AWP.block ?_
    refine AWP.seq (AWP.region ?_)
    refine AOps.step rfl rfl rfl (AOp.indexAddr rfl et_32 rfl rfl k rfl (at_lst hlt) rfl) ?_
    refine AOps.step rfl rfl rfl (AOp.loadAgg rfl ag_37 rfl rfl) ?_
    refine AOps.alloc 101 rfl rfl rfl rfl zt_37 rfl rfl rfl ?_
    refine AOps.store rfl rfl rfl sz_37 rfl (.head _) rfl rfl rfl (Nat.le_of_ble_eq_true rfl) ?_
    refine AOps.freezeCells 13 (ds := (unkR a (validR l))[k].ds) rfl (.head _) (.nil ?_)
    refine AWP.seq (AWP.region ?_)
    refine AOps.step rfl rfl rfl (AOp.fieldAddr rfl fo_37_2 rfl) ?_
    refine AOps.step rfl rfl rfl (AOp.load rfl sc_3 rfl) ?_
    refine AOps.mD rfl rfl rfl rfl rfl ?_
    refine AOps.step rfl rfl rfl (AOp.eql rfl rfl rfl) (.nil ?_)
    refine AWP.cond rfl (fun h4 => ?_) (fun h4 => ?_)
    · replace h4 := of_decide_eq_true h4
      have HPM : pmf p (unkR a (validR l))[k] = (unkR a (validR l))[k].money := if_pos h4
      refine AWP.region ?_
      refine AOps.mD rfl rfl rfl rfl rfl ?_
      refine AOps.step rfl rfl rfl (AOp.fieldAddr rfl fo_37_4 rfl) ?_
      refine AOps.step rfl rfl rfl (AOp.load rfl sc_3 rfl) ?_
      refine AOps.step rfl rfl rfl (AOp.add64 rfl rfl rfl (by omega) (by omega)) ?_
      refine AOps.aD rfl rfl rfl rfl rfl (.nil ?_)
      refine AWP.region ?_
      refine AOps.step rfl rfl rfl (AOp.add64 rfl rfl rfl (by omega) (by omega)) ?_
      refine AOps.mD rfl rfl rfl rfl rfl (.nil ?_)
      refine ⟨k + 1, (by omega), (by dsimp only; omega), Sub.less ⟨(SLe.of_eq rfl), SLe.refl _, SLe.refl _, (SLe.i64 (by rw [HN, HPM] <;> first | rfl | omega)), SLe.refl _, SLe.refl _, trivial⟩ (fun _ h => h)⟩
    replace h4 := of_decide_eq_false h4
    have HPM : pmf p (unkR a (validR l))[k] = 0 := if_neg h4
    refine AWP.skip ?_
    refine AWP.region ?_
    refine AOps.step rfl rfl rfl (AOp.add64 rfl rfl rfl (by omega) (by omega)) ?_
    refine AOps.mD rfl rfl rfl rfl rfl (.nil ?_)
    refine ⟨k + 1, (by omega), (by dsimp only; omega), Sub.less ⟨(SLe.of_eq rfl), SLe.refl _, SLe.refl _, (SLe.i64 (by rw [HN, HPM] <;> first | rfl | omega)), SLe.refl _, SLe.refl _, trivial⟩ (fun _ h => h)⟩
  replace h3 := of_decide_eq_false h3
  rw [List.length_map] at h3
  obtain rfl : k = (unkR a (validR l)).length := by omega
  rw [List.take_length]
  refine AWP.exit ?_
  refine AWP.seq (AWP.region ?_)
  refine AOps.aD rfl rfl rfl rfl rfl (.nil ?_)
  refine AWP.seq (AWP.region ?_)
  refine AOps.aD rfl rfl rfl rfl rfl (.nil ?_)
  refine AWP.seq ?_
  refine AWP.seq (AWP.region ?_)
  refine AOps.mD rfl rfl rfl rfl rfl ?_
  refine AOps.step rfl rfl rfl (AOp.lenSl rfl et_24.ht rfl) ?_
  refine AOps.mD rfl rfl rfl rfl rfl (.nil ?_)
  refine AWP.block ?_
  refine AWP.adopt 14 61 31 4 rfl rfl ?_
  refine AWP.adopt 15 62 3 1 rfl rfl ?_
  refine AWP.loop (G := Nat) (fun k => Env.of [(54, .d (.v (.int .i64 (k : Int)))), (52, .d (.sl ((salesR a (validR l)).map Sal.ds))), (53, .d (.v (.int .i64 (((salesR a (validR l)).map Sal.ds).length : Int)))), (11, .d (.v (.int .i64 ((sumI (pmf p) (unkR a (validR l))))))), (2, .d (.v (.int .i64 (p)))), (14, .own 61), (15, .own 62)]) (fun k => [(62, .row 3 1 ((potW ((salesR a (validR l)).take k) p).map intD)), (61, .row 31 4 ((potO ((salesR a (validR l)).take k) p).map Sal.ds))]) (fun k => k ≤ (salesR a (validR l)).length) (fun k => (salesR a (validR l)).length - k) 0 (Nat.zero_le _) (Sub.less ⟨(SLe.of_eq rfl), SLe.refl _, SLe.refl _, SLe.refl _, SLe.refl _, SLe.refl _, SLe.refl _, trivial⟩ (rows_2 rfl rfl)) ?_
  intro k hk
  refine AWP.seq (AWP.region ?_)
  refine AOps.step rfl rfl rfl (AOp.lss rfl rfl rfl) (.nil ?_)
  refine AWP.seq ?_
  refine AWP.cond rfl (fun h5 => ?_) (fun h5 => ?_)
  · replace h5 := of_decide_eq_true h5
    rw [List.length_map] at h5
    have hlt : k < (salesR a (validR l)).length := by omega
    have hwk := potW_le (salesR a (validR l)) p k
    have hok := potO_len ((salesR a (validR l)).take k) p
    refine AWP.skip ?_
    refine AWP.seq ?_
    refine AWP.block ?_
    refine AWP.seq (AWP.region ?_)
    refine AOps.step rfl rfl rfl (AOp.indexAddr rfl et_24 rfl rfl k rfl (at_lst hlt) rfl) ?_
    refine AOps.step rfl rfl rfl (AOp.loadAgg rfl ag_31 rfl rfl) ?_
    refine AOps.alloc 102 rfl rfl rfl rfl zt_31 rfl rfl rfl ?_
    refine AOps.store rfl rfl rfl sz_31 rfl (.head _) rfl rfl rfl (Nat.le_of_ble_eq_true rfl) ?_
    refine AOps.freezeCells 17 (ds := (salesR a (validR l))[k].ds) rfl (.head _) (.nil ?_)
    refine AWP.seq (AWP.region ?_)
    refine AOps.step rfl rfl rfl (AOp.fieldAddr rfl fo_31_1 rfl) ?_
    refine AOps.step rfl rfl rfl (AOp.load rfl sc_3 rfl) ?_
    refine AOps.mD rfl rfl rfl rfl rfl ?_
    refine AOps.step rfl rfl rfl (AOp.eql rfl rfl rfl) ?_
    refine AOps.mD rfl rfl rfl rfl rfl ?_
    refine AOps.split 62 rfl (fun g6 => ?_) (fun g6 => ?_)
    · replace g6 := of_decide_eq_true g6
      have g62 := g6
      refine AOps.step ⟨62, rfl, .inl ⟨_, rfl, rfl⟩⟩ rfl rfl (AOp.fieldAddr rfl fo_31_2 rfl) ?_
      refine AOps.step ⟨62, rfl, .inl ⟨_, rfl, rfl⟩⟩ rfl rfl (AOp.load rfl sc_3 rfl) ?_
      refine AOps.step ⟨62, rfl, .inl ⟨_, rfl, rfl⟩⟩ rfl rfl (AOp.gtr rfl rfl rfl) ?_
      refine AOps.step rfl rfl rfl (AOp.pickT rfl rfl rfl) (.nil ?_)
      refine AWP.cond rfl (fun h7 => ?_) (fun h7 => ?_)
      · replace h7 := of_decide_eq_true h7
        obtain ⟨HY1, HY2⟩ := pot_yes hlt g62 (by omega)
        refine AWP.seq (AWP.region ?_)
        refine AOps.step rfl rfl rfl (AOp.moveO rfl rfl) ?_
        refine AOps.step rfl rfl rfl (AOp.fieldAddr rfl fo_31_0 rfl) ?_
        refine AOps.step rfl rfl rfl (AOp.load rfl sc_3 rfl) ?_
        refine AOps.mD rfl rfl rfl rfl rfl ?_
        refine AOps.step rfl rfl rfl (AOp.build rfl bu_31 (.cons rfl rfl (.cons rfl rfl .nil)) rfl) ?_
        refine AOps.step rfl rfl rfl (AOp.buildSlice rfl et_24 (.cons rfl rfl rfl .nil) rfl (by decide)) ?_
        -- append 73
        refine AOps.append rfl rfl rfl rfl et_24 rfl (.tail _ (.head _)) rfl (fun y hy => by obtain rfl := List.mem_singleton.1 hy; rfl) (by simp; omega) (by simp; omega) ?_
        refine AOps.step rfl rfl rfl (AOp.assignO rfl rfl) (.nil ?_)
        refine AWP.region ?_
        refine AOps.step rfl rfl rfl (AOp.moveO rfl rfl) ?_
        refine AOps.step rfl rfl rfl (AOp.fieldAddr rfl fo_31_2 rfl) ?_
        refine AOps.step rfl rfl rfl (AOp.load rfl sc_3 rfl) ?_
        refine AOps.step rfl rfl rfl (AOp.buildSlice rfl et_45 (.cons rfl rfl rfl .nil) rfl (by decide)) ?_
        -- append 78
        refine AOps.append rfl rfl rfl rfl et_45 rfl (.head _) rfl (fun y hy => by obtain rfl := List.mem_singleton.1 hy; rfl) (by simp; omega) (by simp; omega) ?_
        refine AOps.step rfl rfl rfl (AOp.assignO rfl rfl) (.nil ?_)
        refine AWP.region ?_
        refine AOps.step rfl rfl rfl (AOp.add64 rfl rfl rfl (by omega) (by omega)) ?_
        refine AOps.mD rfl rfl rfl rfl rfl (.nil ?_)
        refine ⟨k + 1, (by omega), (by dsimp only; omega), Sub.less ⟨(SLe.of_eq rfl), SLe.refl _, SLe.refl _, SLe.refl _, SLe.refl _, SLe.refl _, SLe.refl _, trivial⟩ (rows_2 HY2 HY1)⟩
      replace h7 := of_decide_eq_false h7
      obtain ⟨HY1, HY2⟩ := pot_no hlt (p := p) (fun hh => by omega)
      refine AWP.skip ?_
      refine AWP.region ?_
      refine AOps.step rfl rfl rfl (AOp.add64 rfl rfl rfl (by omega) (by omega)) ?_
      refine AOps.mD rfl rfl rfl rfl rfl (.nil ?_)
      refine ⟨k + 1, (by omega), (by dsimp only; omega), Sub.less ⟨(SLe.of_eq rfl), SLe.refl _, SLe.refl _, SLe.refl _, SLe.refl _, SLe.refl _, SLe.refl _, trivial⟩ (rows_2 (by rw [HY2]) (by rw [HY1]))⟩
    replace g6 := of_decide_eq_false g6
    obtain ⟨HY1, HY2⟩ := pot_no hlt (p := p) (fun hh => g6 hh.1)
    refine AOps.pass ⟨62, rfl, .inl ⟨_, rfl, rfl⟩⟩ rfl rfl ?_
    refine AOps.pass ⟨62, rfl, .inl ⟨_, rfl, rfl⟩⟩ rfl rfl ?_
    refine AOps.pass ⟨62, rfl, .inl ⟨_, rfl, rfl⟩⟩ rfl rfl ?_
    refine AOps.step rfl rfl rfl (AOp.pickF rfl rfl rfl) (.nil ?_)
    refine AWP.cond rfl (fun h => nomatch h) (fun _ => ?_)
    refine AWP.skip ?_
    refine AWP.region ?_
    refine AOps.step rfl rfl rfl (AOp.add64 rfl rfl rfl (by omega) (by omega)) ?_
    refine AOps.mD rfl rfl rfl rfl rfl (.nil ?_)
    refine ⟨k + 1, (by omega), (by dsimp only; omega), Sub.less ⟨(SLe.of_eq rfl), SLe.refl _, SLe.refl _, SLe.refl _, SLe.refl _, SLe.refl _, SLe.refl _, trivial⟩ (rows_2 (by rw [HY2]) (by rw [HY1]))⟩
  replace h5 := of_decide_eq_false h5
  rw [List.length_map] at h5
  obtain rfl : k = (salesR a (validR l)).length := by omega
  rw [List.take_length]
  have hwk := potW_le (salesR a (validR l)) p (salesR a (validR l)).length
  have hok := potO_len (salesR a (validR l)) p
  rw [List.take_length] at hwk
  refine AWP.exit ?_
  refine AWP.seq ?_
  refine AWP.seq (AWP.region ?_)
  refine AOps.step rfl rfl rfl (AOp.moveO rfl rfl) ?_
  refine AOps.step rfl rfl rfl (AOp.lenOwn rfl et_24.ht rfl (.tail _ (.head _))) ?_
  refine AOps.step rfl rfl rfl (AOp.eql rfl rfl rfl) (.nil ?_)
  refine AWP.cond rfl (fun h8 => ?_) (fun h8 => ?_)
  · replace h8 := of_decide_eq_true h8
    rw [List.length_map] at h8
    have HP : potF l a p = 9 := by unfold potF; rw [if_neg (by rw [h0]; simp), if_neg (by omega)]; exact if_pos (by omega)
    have HR : potR l a p = [] := if_neg (by rw [HP]; decide)
    rw [HR, HP]
    refine AWP.seq (AWP.region ?_)
    refine AOps.aD rfl rfl rfl rfl rfl ?_
    refine AOps.aD rfl rfl rfl rfl rfl (.nil ?_)
    refine AWP.ret ?_
    refine ⟨RetD.nil rfl, RetD.eq rfl ?_, trivial⟩
    all_goals (first | rfl | rw [HZ])
  replace h8 := of_decide_eq_false h8
  rw [List.length_map] at h8
  have hO0 : ¬ (potO (salesR a (validR l)) p).length = 0 := by omega
  have hw0 : 0 < (potW (salesR a (validR l)) p).length := by omega
  refine AWP.skip ?_
  refine AWP.seq ?_
  refine AWP.seq (AWP.region ?_)
  refine AOps.mD rfl rfl rfl rfl rfl ?_
  refine AOps.step rfl rfl rfl (AOp.gtr rfl rfl rfl) ?_
  refine AOps.mD rfl rfl rfl rfl rfl ?_
  refine AOps.split 85 rfl (fun g9 => ?_) (fun g9 => ?_)
  · replace g9 := of_decide_eq_true g9
    have g85 : 1000000000 < (sumI (pmf p) (unkR a (validR l))) := by omega
    have hlg : potLg (sumI (pmf p) (unkR a (validR l))) (potW (salesR a (validR l)) p) := .inl g85
    have HP : potF l a p = 2 := by unfold potF; rw [if_neg (by rw [h0]; simp), if_neg (by omega)]; exact (if_neg hO0).trans (if_pos hlg)
    have HR : potR l a p = [] := if_neg (by rw [HP]; decide)
    rw [HR, HP]
    refine AOps.pass ⟨85, rfl, .inl ⟨_, rfl, rfl⟩⟩ rfl rfl ?_
    refine AOps.pass ⟨85, rfl, .inl ⟨_, rfl, rfl⟩⟩ rfl rfl ?_
    refine AOps.pass ⟨85, rfl, .inl ⟨_, rfl, rfl⟩⟩ rfl rfl ?_
    refine AOps.step rfl rfl rfl (AOp.pickT rfl rfl rfl) ?_
    refine AOps.mD rfl rfl rfl rfl rfl ?_
    refine AOps.pass ⟨90, rfl, .inl ⟨_, rfl, rfl⟩⟩ rfl rfl ?_
    refine AOps.pass ⟨90, rfl, .inl ⟨_, rfl, rfl⟩⟩ rfl rfl ?_
    refine AOps.pass ⟨90, rfl, .inl ⟨_, rfl, rfl⟩⟩ rfl rfl ?_
    refine AOps.step rfl rfl rfl (AOp.pickT rfl rfl rfl) (.nil ?_)
    refine AWP.cond rfl (fun _ => ?_) (fun h => nomatch h)
    refine AWP.seq (AWP.region ?_)
    refine AOps.aD rfl rfl rfl rfl rfl ?_
    refine AOps.aD rfl rfl rfl rfl rfl (.nil ?_)
    refine AWP.ret ?_
    refine ⟨RetD.nil rfl, RetD.eq rfl ?_, trivial⟩
    all_goals (first | rfl | rw [HZ])
  replace g9 := of_decide_eq_false g9
  have g85 : ¬ 1000000000 < (sumI (pmf p) (unkR a (validR l))) := by omega
  refine AOps.step ⟨85, rfl, .inl ⟨_, rfl, rfl⟩⟩ rfl rfl (AOp.moveO rfl rfl) ?_
  refine AOps.step ⟨85, rfl, .inl ⟨_, rfl, rfl⟩⟩ rfl rfl (AOp.lenOwn rfl et_45.ht rfl (.head _)) ?_
  refine AOps.step ⟨85, rfl, .inl ⟨_, rfl, rfl⟩⟩ rfl rfl (AOp.gtr rfl rfl rfl) ?_
  refine AOps.step rfl rfl rfl (AOp.pickF rfl rfl rfl) ?_
  refine AOps.mD rfl rfl rfl rfl rfl ?_
  refine AOps.split 90 rfl (fun g10 => ?_) (fun g10 => ?_)
  · replace g10 := of_decide_eq_true g10
    rw [List.length_map] at g10
    have g88 : 500 < (potW (salesR a (validR l)) p).length := by omega
    have hlg : potLg (sumI (pmf p) (unkR a (validR l))) (potW (salesR a (validR l)) p) := .inr (.inl g88)
    have HP : potF l a p = 2 := by unfold potF; rw [if_neg (by rw [h0]; simp), if_neg (by omega)]; exact (if_neg hO0).trans (if_pos hlg)
    have HR : potR l a p = [] := if_neg (by rw [HP]; decide)
    rw [HR, HP]
    refine AOps.pass ⟨90, rfl, .inl ⟨_, rfl, rfl⟩⟩ rfl rfl ?_
    refine AOps.pass ⟨90, rfl, .inl ⟨_, rfl, rfl⟩⟩ rfl rfl ?_
    refine AOps.pass ⟨90, rfl, .inl ⟨_, rfl, rfl⟩⟩ rfl rfl ?_
    refine AOps.step rfl rfl rfl (AOp.pickT rfl rfl rfl) (.nil ?_)
    refine AWP.cond rfl (fun _ => ?_) (fun h => nomatch h)
    refine AWP.seq (AWP.region ?_)
    refine AOps.aD rfl rfl rfl rfl rfl ?_
    refine AOps.aD rfl rfl rfl rfl rfl (.nil ?_)
    refine AWP.ret ?_
    refine ⟨RetD.nil rfl, RetD.eq rfl ?_, trivial⟩
    all_goals (first | rfl | rw [HZ])
  replace g10 := of_decide_eq_false g10
  rw [List.length_map] at g10
  have g88 : ¬ 500 < (potW (salesR a (validR l)) p).length := by omega
  refine AOps.step ⟨90, rfl, .inl ⟨_, rfl, rfl⟩⟩ rfl rfl (AOp.moveO rfl rfl) ?_
  refine AOps.step ⟨90, rfl, .inl ⟨_, rfl, rfl⟩⟩ rfl rfl (AOp.callV rfl (.cons (.own rfl (.head _)) .nil) (c_max _ hw0)) ?_
  refine AOps.step ⟨90, rfl, .inl ⟨_, rfl, rfl⟩⟩ rfl rfl (AOp.gtr rfl rfl rfl) ?_
  refine AOps.step rfl rfl rfl (AOp.pickF rfl rfl rfl) (.nil ?_)
  refine AWP.cond rfl (fun h11 => ?_) (fun h11 => ?_)
  · replace h11 := of_decide_eq_true h11
    have hlg : potLg (sumI (pmf p) (unkR a (validR l))) (potW (salesR a (validR l)) p) := .inr (.inr ((maxK_gt hw0 _).1 h11))
    have HP : potF l a p = 2 := by unfold potF; rw [if_neg (by rw [h0]; simp), if_neg (by omega)]; exact (if_neg hO0).trans (if_pos hlg)
    have HR : potR l a p = [] := if_neg (by rw [HP]; decide)
    rw [HR, HP]
    refine AWP.seq (AWP.region ?_)
    refine AOps.aD rfl rfl rfl rfl rfl ?_
    refine AOps.aD rfl rfl rfl rfl rfl (.nil ?_)
    refine AWP.ret ?_
    refine ⟨RetD.nil rfl, RetD.eq rfl ?_, trivial⟩
    all_goals (first | rfl | rw [HZ])
  replace h11 := of_decide_eq_false h11
  have hlg : ¬ potLg (sumI (pmf p) (unkR a (validR l))) (potW (salesR a (validR l)) p) := (fun hh => hh.elim g85 fun hh => hh.elim g88 fun hh => h11 ((maxK_gt hw0 _).2 hh))
  obtain ⟨HD1, HD2⟩ := pot_div hO0 hM0 hlg
  refine AWP.skip ?_
  refine AWP.seq (AWP.region ?_)
  refine AOps.mD rfl rfl rfl rfl rfl ?_
  refine AOps.step rfl rfl rfl (AOp.moveO rfl rfl) ?_
  refine AOps.freeze 97 rfl (.head _) ?_
  refine AOps.step rfl rfl rfl (AOp.call rfl (.cons (ArgOk.rfl' rfl) (.cons (ArgOk.rfl' rfl) .nil)) (c_pDiv _ _)) ?_
  refine AOps.mD rfl rfl rfl rfl rfl ?_
  refine AOps.step rfl rfl rfl (AOp.extract rfl rfl rfl) ?_
  refine AOps.step rfl rfl rfl (AOp.extract rfl rfl rfl) ?_
  refine AOps.aD rfl rfl rfl rfl rfl ?_
  refine AOps.aD rfl rfl rfl rfl rfl (.nil ?_)
  refine AWP.seq ?_
  refine AWP.seq (AWP.region ?_)
  refine AOps.mD rfl rfl rfl rfl rfl ?_
  refine AOps.step rfl rfl rfl (AOp.neq rfl rfl rfl) (.nil ?_)
  refine AWP.cond rfl (fun h12 => ?_) (fun h12 => ?_)
  · replace h12 := of_decide_eq_true h12
    exact absurd HD1 h12
  replace h12 := of_decide_eq_false h12
  rw [HD2]
  refine AWP.skip ?_
  refine AWP.seq ?_
  refine AWP.seq (AWP.region ?_)
  refine AOps.mD rfl rfl rfl rfl rfl ?_
  refine AOps.step rfl rfl rfl (AOp.lenSl rfl et_45.ht rfl) ?_
  refine AOps.mD rfl rfl rfl rfl rfl (.nil ?_)
  refine AWP.block ?_
  refine AWP.loop (G := Nat) (fun k => Env.of [(106, .d (.v (.int .i64 ((k : Int))))), (104, .d (.sl (rowF (outF (sumI (pmf p) (unkR a (validR l))) (potW (salesR a (validR l)) p) (leftTo (sumI (pmf p) (unkR a (validR l))) (potW (salesR a (validR l)) p) (potW (salesR a (validR l)) p).length).toNat) (potW (salesR a (validR l)) p).length))), (105, .d (.v (.int .i64 (((rowF (outF (sumI (pmf p) (unkR a (validR l))) (potW (salesR a (validR l)) p) (leftTo (sumI (pmf p) (unkR a (validR l))) (potW (salesR a (validR l)) p) (potW (salesR a (validR l)) p).length).toNat) (potW (salesR a (validR l)) p).length).length : Int))))), (14, .own 61)]) (fun k => [(61, .row 31 4 ((payTo (potO (salesR a (validR l)) p) (outF (sumI (pmf p) (unkR a (validR l))) (potW (salesR a (validR l)) p) (leftTo (sumI (pmf p) (unkR a (validR l))) (potW (salesR a (validR l)) p) (potW (salesR a (validR l)) p).length).toNat) k).map Sal.ds))]) (fun k => k ≤ (potW (salesR a (validR l)) p).length) (fun k => (potW (salesR a (validR l)) p).length - k) 0 (Nat.zero_le _) (Sub.less ⟨(SLe.of_eq rfl), SLe.refl _, SLe.refl _, SLe.refl _, trivial⟩ (row_sameM (by rw [payTo_0]))) ?_
  intro k hk
  refine AWP.seq (AWP.region ?_)
  refine AOps.step rfl rfl rfl (AOp.lss rfl rfl rfl) (.nil ?_)
  refine AWP.seq ?_
  refine AWP.cond rfl (fun h13 => ?_) (fun h13 => ?_)
  · replace h13 := of_decide_eq_true h13
    rw [rowF_len] at h13
    have hlt : k < (potW (salesR a (validR l)) p).length := by omega
    have hltO : k < (potO (salesR a (validR l)) p).length := by omega
    have HN := payTo_next (f := (outF (sumI (pmf p) (unkR a (validR l))) (potW (salesR a (validR l)) p) (leftTo (sumI (pmf p) (unkR a (validR l))) (potW (salesR a (validR l)) p) (potW (salesR a (validR l)) p).length).toNat)) hltO
    refine AWP.skip ?_
    refine AWP.seq ?_
    refine AWP.block ?_
    refine AWP.seq (AWP.region ?_)
    refine AOps.mD rfl rfl rfl rfl rfl ?_
    refine AOps.step rfl rfl rfl (AOp.indexAddr rfl et_45 rfl rfl k rfl (rowF_at hlt) rfl) ?_
    refine AOps.step rfl rfl rfl (AOp.load rfl sc_3 rfl) ?_
    refine AOps.aD rfl rfl rfl rfl rfl ?_
    refine AOps.aD rfl rfl rfl rfl rfl (.nil ?_)
    refine AWP.region ?_
    refine AOps.step rfl rfl rfl (AOp.moveO rfl rfl) ?_
    refine AOps.mD rfl rfl rfl rfl rfl ?_
    refine AOps.mD rfl rfl rfl rfl rfl ?_
    refine AOps.step rfl rfl rfl (AOp.indexOwn rfl et_24 rfl rfl (.head _) k rfl (by rw [List.length_map, payTo_len]; omega)) ?_
    refine AOps.step rfl rfl rfl (AOp.fieldAddrP rfl fo_31_3 rfl) ?_
    refine AOps.storeRow rfl rfl rfl sz_3 rfl (.head _) rfl rfl rfl k 3 rfl (payTo_ds hltO) (Nat.le_of_ble_eq_true rfl) (.nil ?_)
    refine AWP.region ?_
    refine AOps.step rfl rfl rfl (AOp.add64 rfl rfl rfl (by omega) (by omega)) ?_
    refine AOps.mD rfl rfl rfl rfl rfl (.nil ?_)
    refine ⟨k + 1, (by omega), (by dsimp only; omega), Sub.less ⟨(SLe.of_eq rfl), SLe.refl _, SLe.refl _, SLe.refl _, trivial⟩ (row_sameM HN)⟩
  replace h13 := of_decide_eq_false h13
  rw [rowF_len] at h13
  obtain rfl : k = (potW (salesR a (validR l)) p).length := by omega
  have HP : potF l a p = 0 := by unfold potF; rw [if_neg (by rw [h0]; simp), if_neg (by omega)]; exact (if_neg hO0).trans (if_neg hlg)
  have HR : potR l a p = potV (salesR a (validR l)) (unkR a (validR l)) p := if_pos HP
  rw [HR, HP]
  have HZ : payTo (potO (salesR a (validR l)) p) (outF (sumI (pmf p) (unkR a (validR l))) (potW (salesR a (validR l)) p) (leftTo (sumI (pmf p) (unkR a (validR l))) (potW (salesR a (validR l)) p) (potW (salesR a (validR l)) p).length).toNat) (potW (salesR a (validR l)) p).length = potV (salesR a (validR l)) (unkR a (validR l)) p := by unfold potV; rw [hok]
  refine AWP.exit ?_
  refine AWP.seq (AWP.region ?_)
  refine AOps.step rfl rfl rfl (AOp.moveO rfl rfl) ?_
  refine AOps.step rfl rfl rfl (AOp.assignO rfl rfl) ?_
  refine AOps.aD rfl rfl rfl rfl rfl (.nil ?_)
  refine AWP.ret ?_
  refine ⟨RetD.own rfl (.head _) ?_, RetD.eq rfl ?_, trivial⟩
  all_goals (first | rfl | rw [HZ])

set_option maxRecDepth 100000 in
set_option maxHeartbeats 8000000 in
theorem c_rPot (l : List Rpt) (a : List Ali) (p : Int) (ho : ∀ x ∈ l, okRpt x) (ha : ∀ x ∈ a, x.source.size ≤ 9223372036854775807 ∧ x.title.size ≤ 9223372036854775807) : ACallT Tryz.prog MaxT 16 [.sl (l.map Rpt.ds), .sl (a.map Ali.ds), .v (.int .i64 p)] (.tup [.sl ((potR l a p).map Sal.ds), .v (.int .i64 (potF l a p))]) := by
  refine acall_ofT (n := 115) (ds' := [.sl ((potR l a p).map Sal.ds), .v (.int .i64 (potF l a p))]) Tryz.func16 rfl (by kernel_rfl) rfl [6, 7] rfl rfl ?_
  intro B w0 F0 hT
  refine AWP.seq (AWP.region ?_)
  refine AOps.aD rfl rfl rfl rfl rfl ?_
  refine AOps.aD rfl rfl rfl rfl rfl (.nil ?_)
  refine AWP.seq ?_
  refine AWP.seq (AWP.region ?_)
  refine AOps.mD rfl rfl rfl rfl rfl ?_
  refine AOps.mD rfl rfl rfl rfl rfl ?_
  -- wants the world
  refine AOps.callT rfl rfl rfl hT maxT_stays rfl (.cons (ArgOk.rfl' rfl) (.cons (ArgOk.rfl' rfl) .nil)) (c_rAsk l a ho ha) ?_
  refine AOps.aD rfl rfl rfl rfl rfl (.nil ?_)
  refine AWP.seq (AWP.region ?_)
  refine AOps.mD rfl rfl rfl rfl rfl ?_
  refine AOps.step rfl rfl rfl (AOp.neq rfl rfl rfl) (.nil ?_)
  refine AWP.cond rfl (fun h1 => ?_) (fun h1 => ?_)
  · replace h1 := of_decide_eq_true h1
    have HP : potF l a p = askF l a := if_pos h1
    have HR : potR l a p = [] := if_neg (by rw [HP]; exact h1)
    rw [HR, HP]
    refine AWP.seq (AWP.region ?_)
    refine AOps.mD rfl rfl rfl rfl rfl ?_
    refine AOps.aD rfl rfl rfl rfl rfl ?_
    refine AOps.aD rfl rfl rfl rfl rfl (.nil ?_)
    refine AWP.ret ?_
    refine ⟨RetD.nil rfl, RetD.eq rfl ?_, trivial⟩
    all_goals (first | rfl | rw [HZ])
  replace h1 := of_decide_eq_false h1
  have h0 : askF l a = 0 := by omega
  obtain ⟨h1, h2⟩ := ask_ok h0
  have hl := log_of h1
  have hA := als_of h2
  have hll := hl.len
  have hvl : (validR l).length ≤ l.length := List.length_filter_le _ _
  have hV : ∀ x ∈ (validR l), RpO x := fun x hx => rpO (hl.ok x (List.mem_filter.1 hx).1) (ho x (List.mem_filter.1 hx).1)
  obtain ⟨hnS, hnU⟩ := sal_nn hA hV
  obtain ⟨hp1, hp2⟩ := pmf_bnd hnU p
  have hT2 := all_M a (validR l)
  have hz2 := sumI_nonneg (f := sM) (fun x hx => (hnS x hx).2)
  have hb2 : sumI lM (validR l) ≤ 30000000000000 := (lines_le hV (by omega) Usd.money (fun u h => ⟨h.2.1, h.2.2⟩)).1
  have hM0 := sumI_nonneg hp1
  have hSl : (salesR a (validR l)).length ≤ 30000 := by
    have hI := inv_A hA hV (validR l).length (Nat.le_refl _)
    rw [List.take_length, stA_eq] at hI
    have h3 := hI.l1
    have h4 := fold_len tot_S (knA a (validR l))
    unfold salesR
    rw [List.length_map]
    dsimp only at h3
    omega
  have hUl : (unkR a (validR l)).length ≤ 30000 := by
    have hI := inv_A hA hV (validR l).length (Nat.le_refl _)
    rw [List.take_length, stA_eq] at hI
    have h3 := hI.l2
    have h4 := fold_len tot_U (opA a (validR l))
    unfold unkR
    rw [List.length_map]
    dsimp only at h3
    omega
  refine AWP.skip ?_
  refine AWP.seq ?_
  refine AWP.seq (AWP.region ?_)
  refine AOps.mD rfl rfl rfl rfl rfl ?_
  refine AOps.step rfl rfl rfl (AOp.call rfl (.cons (ArgOk.rfl' rfl) (.cons (ArgOk.rfl' rfl) (.cons (ArgOk.rfl' rfl) .nil))) (c_rIn _ _ _)) ?_
  refine AOps.step rfl rfl rfl (AOp.not rfl rfl) (.nil ?_)
  refine AWP.cond rfl (fun h2 => ?_) (fun h2 => ?_)
  · replace h2 := bnot_t h2; replace h2 := of_decide_eq_false h2
    have HP : potF l a p = 1 := by unfold potF; rw [if_neg (by rw [h0]; simp)]; exact if_pos h2
    have HR : potR l a p = [] := if_neg (by rw [HP]; decide)
    rw [HR, HP]
    refine AWP.seq (AWP.region ?_)
    refine AOps.aD rfl rfl rfl rfl rfl ?_
    refine AOps.aD rfl rfl rfl rfl rfl (.nil ?_)
    refine AWP.ret ?_
    refine ⟨RetD.nil rfl, RetD.eq rfl ?_, trivial⟩
    all_goals (first | rfl | rw [HZ])
  replace h2 := bnot_f h2; replace h2 := of_decide_eq_true h2
  have hpr : 0 ≤ p ∧ p ≤ 2400 := by omega
  refine AWP.skip ?_
  refine AWP.seq (AWP.region ?_)
  refine AOps.aD rfl rfl rfl rfl rfl (.nil ?_)
  refine AWP.seq ?_
  refine AWP.seq (AWP.region ?_)
  refine AOps.mD rfl rfl rfl rfl rfl ?_
  refine AOps.mD rfl rfl rfl rfl rfl ?_
  refine AOps.step rfl rfl rfl (AOp.call rfl (.cons (ArgOk.rfl' rfl) (.cons (ArgOk.rfl' rfl) .nil)) (c_rUnk l a hl ho hA)) ?_
  refine AOps.step rfl rfl rfl (AOp.lenSl rfl et_32.ht rfl) ?_
  refine AOps.mD rfl rfl rfl rfl rfl (.nil ?_)
  refine AWP.block ?_
  refine AWP.loop (G := Nat) (fun k => Env.of [(33, .d (.v (.int .i64 (k : Int)))), (31, .d (.sl ((unkR a (validR l)).map Unk.ds))), (32, .d (.v (.int .i64 (((unkR a (validR l)).map Unk.ds).length : Int)))), (9, .d (.v (.int .i64 (sumI (pmf p) ((unkR a (validR l)).take k))))), (2, .d (.v (.int .i64 (p)))), (0, .d (.sl (l.map Rpt.ds))), (1, .d (.sl (a.map Ali.ds)))]) (fun k => []) (fun k => k ≤ (unkR a (validR l)).length) (fun k => (unkR a (validR l)).length - k) 0 (Nat.zero_le _) (Sub.less ⟨(SLe.of_eq rfl), SLe.refl _, SLe.refl _, (SLe.of_eq rfl), SLe.refl _, SLe.refl _, SLe.refl _, trivial⟩ (fun _ h => h)) ?_
  intro k hk
  refine AWP.seq (AWP.region ?_)
  refine AOps.step rfl rfl rfl (AOp.lss rfl rfl rfl) (.nil ?_)
  refine AWP.seq ?_
  refine AWP.cond rfl (fun h3 => ?_) (fun h3 => ?_)
  · replace h3 := of_decide_eq_true h3
    rw [List.length_map] at h3
    have hlt : k < (unkR a (validR l)).length := by omega
    have HN := sumI_next (pmf p) hlt
    have hq1 := sumI_take hp1 k
    have hq2 := sumI_take hp1 (k + 1)
    rw [HN] at hq2
    refine AWP.skip ?_
    refine AWP.seq ?_
    refine AWP.block ?_
    refine AWP.seq (AWP.region ?_)
    refine AOps.step rfl rfl rfl (AOp.indexAddr rfl et_32 rfl rfl k rfl (at_lst hlt) rfl) ?_
    refine AOps.step rfl rfl rfl (AOp.loadAgg rfl ag_37 rfl rfl) ?_
    refine AOps.alloc 101 rfl rfl rfl rfl zt_37 rfl rfl rfl ?_
    refine AOps.store rfl rfl rfl sz_37 rfl (.head _) rfl rfl rfl (Nat.le_of_ble_eq_true rfl) ?_
    refine AOps.freezeCells 11 (ds := (unkR a (validR l))[k].ds) rfl (.head _) (.nil ?_)
    refine AWP.seq (AWP.region ?_)
    refine AOps.step rfl rfl rfl (AOp.fieldAddr rfl fo_37_2 rfl) ?_
    refine AOps.step rfl rfl rfl (AOp.load rfl sc_3 rfl) ?_
    refine AOps.mD rfl rfl rfl rfl rfl ?_
    refine AOps.step rfl rfl rfl (AOp.eql rfl rfl rfl) (.nil ?_)
    refine AWP.cond rfl (fun h4 => ?_) (fun h4 => ?_)
    · replace h4 := of_decide_eq_true h4
      have HPM : pmf p (unkR a (validR l))[k] = (unkR a (validR l))[k].money := if_pos h4
      refine AWP.region ?_
      refine AOps.mD rfl rfl rfl rfl rfl ?_
      refine AOps.step rfl rfl rfl (AOp.fieldAddr rfl fo_37_4 rfl) ?_
      refine AOps.step rfl rfl rfl (AOp.load rfl sc_3 rfl) ?_
      refine AOps.step rfl rfl rfl (AOp.add64 rfl rfl rfl (by omega) (by omega)) ?_
      refine AOps.aD rfl rfl rfl rfl rfl (.nil ?_)
      refine AWP.region ?_
      refine AOps.step rfl rfl rfl (AOp.add64 rfl rfl rfl (by omega) (by omega)) ?_
      refine AOps.mD rfl rfl rfl rfl rfl (.nil ?_)
      refine ⟨k + 1, (by omega), (by dsimp only; omega), Sub.less ⟨(SLe.of_eq rfl), SLe.refl _, SLe.refl _, (SLe.i64 (by rw [HN, HPM] <;> first | rfl | omega)), SLe.refl _, SLe.refl _, SLe.refl _, trivial⟩ (fun _ h => h)⟩
    replace h4 := of_decide_eq_false h4
    have HPM : pmf p (unkR a (validR l))[k] = 0 := if_neg h4
    refine AWP.skip ?_
    refine AWP.region ?_
    refine AOps.step rfl rfl rfl (AOp.add64 rfl rfl rfl (by omega) (by omega)) ?_
    refine AOps.mD rfl rfl rfl rfl rfl (.nil ?_)
    refine ⟨k + 1, (by omega), (by dsimp only; omega), Sub.less ⟨(SLe.of_eq rfl), SLe.refl _, SLe.refl _, (SLe.i64 (by rw [HN, HPM] <;> first | rfl | omega)), SLe.refl _, SLe.refl _, SLe.refl _, trivial⟩ (fun _ h => h)⟩
  replace h3 := of_decide_eq_false h3
  rw [List.length_map] at h3
  obtain rfl : k = (unkR a (validR l)).length := by omega
  rw [List.take_length]
  refine AWP.exit ?_
  refine AWP.seq (AWP.region ?_)
  refine AOps.aD rfl rfl rfl rfl rfl (.nil ?_)
  refine AWP.seq (AWP.region ?_)
  refine AOps.aD rfl rfl rfl rfl rfl (.nil ?_)
  refine AWP.seq (AWP.region ?_)
  refine AOps.mD rfl rfl rfl rfl rfl ?_
  refine AOps.step rfl rfl rfl (AOp.gtr rfl rfl rfl) ?_
  refine AOps.aD rfl rfl rfl rfl rfl (.nil ?_)
  refine AWP.seq ?_
  refine AWP.seq (AWP.region ?_)
  refine AOps.mD rfl rfl rfl rfl rfl ?_
  refine AOps.mD rfl rfl rfl rfl rfl ?_
  refine AOps.step rfl rfl rfl (AOp.call rfl (.cons (ArgOk.rfl' rfl) (.cons (ArgOk.rfl' rfl) .nil)) (c_rSales l a hl ho hA)) ?_
  refine AOps.step rfl rfl rfl (AOp.lenSl rfl et_24.ht rfl) ?_
  refine AOps.mD rfl rfl rfl rfl rfl (.nil ?_)
  refine AWP.block ?_
  refine AWP.adopt 12 61 31 4 rfl rfl ?_
  refine AWP.adopt 13 62 3 1 rfl rfl ?_
  refine AWP.loop (G := Nat) (fun k => Env.of [(52, .d (.v (.int .i64 (k : Int)))), (50, .d (.sl ((salesR a (validR l)).map Sal.ds))), (51, .d (.v (.int .i64 (((salesR a (validR l)).map Sal.ds).length : Int)))), (9, .d (.v (.int .i64 ((sumI (pmf p) (unkR a (validR l))))))), (2, .d (.v (.int .i64 (p)))), (14, .d (.v (.bool (lgB (sumI (pmf p) (unkR a (validR l))) (potW ((salesR a (validR l)).take k) p))))), (12, .own 61), (13, .own 62)]) (fun k => [(62, .row 3 1 ((potW ((salesR a (validR l)).take k) p).map intD)), (61, .row 31 4 ((potO ((salesR a (validR l)).take k) p).map Sal.ds))]) (fun k => k ≤ (salesR a (validR l)).length) (fun k => (salesR a (validR l)).length - k) 0 (Nat.zero_le _) (Sub.less ⟨(SLe.of_eq rfl), SLe.refl _, SLe.refl _, SLe.refl _, SLe.refl _, (SLe.of_eq (show S.d (D.v (.bool (decide (1000000000 < (sumI (pmf p) (unkR a (validR l))))))) = S.d (D.v (.bool (lgB (sumI (pmf p) (unkR a (validR l))) (potW ((salesR a (validR l)).take 0) p)))) by unfold lgB potW; simp)), SLe.refl _, SLe.refl _, trivial⟩ (rows_2 rfl rfl)) ?_
  intro k hk
  refine AWP.seq (AWP.region ?_)
  refine AOps.step rfl rfl rfl (AOp.lss rfl rfl rfl) (.nil ?_)
  refine AWP.seq ?_
  refine AWP.cond rfl (fun h5 => ?_) (fun h5 => ?_)
  · replace h5 := of_decide_eq_true h5
    rw [List.length_map] at h5
    have hlt : k < (salesR a (validR l)).length := by omega
    have hwk := potW_le (salesR a (validR l)) p k
    have hok := potO_len ((salesR a (validR l)).take k) p
    refine AWP.skip ?_
    refine AWP.seq ?_
    refine AWP.block ?_
    refine AWP.seq (AWP.region ?_)
    refine AOps.step rfl rfl rfl (AOp.indexAddr rfl et_24 rfl rfl k rfl (at_lst hlt) rfl) ?_
    refine AOps.step rfl rfl rfl (AOp.loadAgg rfl ag_31 rfl rfl) ?_
    refine AOps.alloc 102 rfl rfl rfl rfl zt_31 rfl rfl rfl ?_
    refine AOps.store rfl rfl rfl sz_31 rfl (.head _) rfl rfl rfl (Nat.le_of_ble_eq_true rfl) ?_
    refine AOps.freezeCells 16 (ds := (salesR a (validR l))[k].ds) rfl (.head _) (.nil ?_)
    refine AWP.seq (AWP.region ?_)
    refine AOps.step rfl rfl rfl (AOp.fieldAddr rfl fo_31_1 rfl) ?_
    refine AOps.step rfl rfl rfl (AOp.load rfl sc_3 rfl) ?_
    refine AOps.mD rfl rfl rfl rfl rfl ?_
    refine AOps.step rfl rfl rfl (AOp.eql rfl rfl rfl) ?_
    refine AOps.mD rfl rfl rfl rfl rfl ?_
    refine AOps.split 60 rfl (fun g6 => ?_) (fun g6 => ?_)
    · replace g6 := of_decide_eq_true g6
      have g60 := g6
      refine AOps.step ⟨60, rfl, .inl ⟨_, rfl, rfl⟩⟩ rfl rfl (AOp.fieldAddr rfl fo_31_2 rfl) ?_
      refine AOps.step ⟨60, rfl, .inl ⟨_, rfl, rfl⟩⟩ rfl rfl (AOp.load rfl sc_3 rfl) ?_
      refine AOps.step ⟨60, rfl, .inl ⟨_, rfl, rfl⟩⟩ rfl rfl (AOp.gtr rfl rfl rfl) ?_
      refine AOps.step rfl rfl rfl (AOp.pickT rfl rfl rfl) (.nil ?_)
      refine AWP.cond rfl (fun h7 => ?_) (fun h7 => ?_)
      · replace h7 := of_decide_eq_true h7
        obtain ⟨HY1, HY2⟩ := pot_yes hlt g60 (by omega)
        have HL : (lgB (sumI (pmf p) (unkR a (validR l))) (potW ((salesR a (validR l)).take (k + 1)) p)) = ((lgB (sumI (pmf p) (unkR a (validR l))) (potW ((salesR a (validR l)).take k) p)) || decide (1000000000 < (salesR a (validR l))[k].units)) := lg_next hlt g60 (by omega)
        refine AWP.seq ?_
        refine AWP.drawLTail 12 [⟨61, [12, 65, 71]⟩, ⟨62, [13, 72, 76]⟩] [(6, [12, 65, 71]), (11, [13, 72, 76])] (fun _ => True) (by kernel_rfl) (by kernel_rfl) (by kernel_rfl) (by kernel_rfl) ?_
        refine LRun.step rfl rfl rfl trivial (fun τ _ => AOp.moveO rfl rfl) ?_ rfl ⟨.inl rfl, .inr rfl, trivial⟩
        refine LRun.step rfl rfl rfl trivial (fun τ _ => AOp.fieldAddr (ds := (salesR a (validR l))[k].ds) rfl fo_31_0 rfl) ?_ rfl ⟨.inr rfl, .inr rfl, trivial⟩
        refine LRun.step rfl rfl rfl trivial (fun τ _ => AOp.load rfl sc_3 rfl) ?_ rfl ⟨.inr rfl, .inr rfl, trivial⟩
        refine LRun.step rfl rfl rfl trivial (fun τ _ => AOp.moveD rfl rfl) ?_ rfl ⟨.inr rfl, .inr rfl, trivial⟩
        refine LRun.step rfl rfl rfl trivial (fun τ _ => AOp.build rfl bu_31 (.cons rfl rfl (.cons rfl rfl .nil)) rfl) ?_ rfl ⟨.inr rfl, .inr rfl, trivial⟩
        refine LRun.step rfl rfl rfl trivial (fun τ _ => AOp.buildSlice rfl et_24 (.cons rfl rfl rfl .nil) rfl (by decide)) ?_ rfl ⟨.inr rfl, .inr rfl, trivial⟩
        refine LRun.eff rfl rfl trivial trivial (GE.append3 61 65 12 (.head _) (fun t h1 h2 h3 => by simp [h1, h2, h3]) (by decide) (by decide) (by decide) rfl rfl rfl rfl et_24 rfl (.tail _ (.head _)) rfl (fun y hy => by obtain rfl := List.mem_singleton.1 hy; rfl) (by simp; omega) (by simp; omega) rfl) ?_ (cl_triple2 rfl rfl rfl rfl rfl rfl)
        refine LRun.step rfl rfl rfl trivial (fun τ _ => AOp.moveO rfl rfl) ?_ rfl ⟨.inr rfl, .inl rfl, trivial⟩
        refine LRun.step rfl rfl rfl trivial (fun τ _ => AOp.fieldAddr (ds := (salesR a (validR l))[k].ds) rfl fo_31_2 rfl) ?_ rfl ⟨.inr rfl, .inr rfl, trivial⟩
        refine LRun.step rfl rfl rfl trivial (fun τ _ => AOp.load rfl sc_3 rfl) ?_ rfl ⟨.inr rfl, .inr rfl, trivial⟩
        refine LRun.step rfl rfl rfl trivial (fun τ _ => AOp.buildSlice rfl et_45 (.cons rfl rfl rfl .nil) rfl (by decide)) ?_ rfl ⟨.inr rfl, .inr rfl, trivial⟩
        refine LRun.eff rfl rfl trivial trivial (GE.append3 62 72 13 (.tail _ (.head _)) (fun t h1 h2 h3 => by simp [h1, h2, h3]) (by decide) (by decide) (by decide) rfl rfl rfl rfl et_45 rfl (.head _) rfl (fun y hy => by obtain rfl := List.mem_singleton.1 hy; rfl) (by simp; omega) (by simp; omega) rfl) ?_ (cl_triple2' rfl rfl rfl rfl rfl rfl)
        refine LRun.nil ?_
        refine AOps.step rfl rfl rfl (AOp.assignO rfl rfl) ?_
        refine AOps.step rfl rfl rfl (AOp.assignO rfl rfl) (.nil ?_)
        refine AWP.region ?_
        refine AOps.mD rfl rfl rfl rfl rfl ?_
        refine AOps.mD rfl rfl rfl rfl rfl ?_
        refine AOps.split 78 rfl (fun g8 => ?_) (fun g8 => ?_)
        · skip
          have g78 := g8
          refine AOps.pass ⟨78, rfl, .inl ⟨_, rfl, rfl⟩⟩ rfl rfl ?_
          refine AOps.pass ⟨78, rfl, .inl ⟨_, rfl, rfl⟩⟩ rfl rfl ?_
          refine AOps.pass ⟨78, rfl, .inl ⟨_, rfl, rfl⟩⟩ rfl rfl ?_
          refine AOps.step rfl rfl rfl (AOp.pickT rfl rfl rfl) ?_
          refine AOps.aD rfl rfl rfl rfl rfl (.nil ?_)
          refine AWP.region ?_
          refine AOps.step rfl rfl rfl (AOp.add64 rfl rfl rfl (by omega) (by omega)) ?_
          refine AOps.mD rfl rfl rfl rfl rfl (.nil ?_)
          refine ⟨k + 1, (by omega), (by dsimp only; omega), Sub.less ⟨(SLe.of_eq rfl), SLe.refl _, SLe.refl _, SLe.refl _, SLe.refl _, (SLe.of_eq (show S.d (D.v (.bool true)) = S.d (D.v (.bool (lgB (sumI (pmf p) (unkR a (validR l))) (potW ((salesR a (validR l)).take (k + 1)) p)))) by rw [HL, g78]; rfl)), SLe.refl _, SLe.refl _, trivial⟩ (rows_2 HY2 HY1)⟩
        have g78 := g8
        refine AOps.step ⟨78, rfl, .inl ⟨_, rfl, rfl⟩⟩ rfl rfl (AOp.fieldAddr rfl fo_31_2 rfl) ?_
        refine AOps.step ⟨78, rfl, .inl ⟨_, rfl, rfl⟩⟩ rfl rfl (AOp.load rfl sc_3 rfl) ?_
        refine AOps.step ⟨78, rfl, .inl ⟨_, rfl, rfl⟩⟩ rfl rfl (AOp.gtr rfl rfl rfl) ?_
        refine AOps.step rfl rfl rfl (AOp.pickF rfl rfl rfl) ?_
        refine AOps.aD rfl rfl rfl rfl rfl (.nil ?_)
        refine AWP.region ?_
        refine AOps.step rfl rfl rfl (AOp.add64 rfl rfl rfl (by omega) (by omega)) ?_
        refine AOps.mD rfl rfl rfl rfl rfl (.nil ?_)
        refine ⟨k + 1, (by omega), (by dsimp only; omega), Sub.less ⟨(SLe.of_eq rfl), SLe.refl _, SLe.refl _, SLe.refl _, SLe.refl _, (SLe.of_eq (show S.d (D.v (.bool (decide (1000000000 < (salesR a (validR l))[k].units)))) = S.d (D.v (.bool (lgB (sumI (pmf p) (unkR a (validR l))) (potW ((salesR a (validR l)).take (k + 1)) p)))) by rw [HL, g78]; rfl)), SLe.refl _, SLe.refl _, trivial⟩ (rows_2 HY2 HY1)⟩
      replace h7 := of_decide_eq_false h7
      obtain ⟨HY1, HY2⟩ := pot_no hlt (p := p) (fun hh => by omega)
      refine AWP.skip ?_
      refine AWP.region ?_
      refine AOps.step rfl rfl rfl (AOp.add64 rfl rfl rfl (by omega) (by omega)) ?_
      refine AOps.mD rfl rfl rfl rfl rfl (.nil ?_)
      refine ⟨k + 1, (by omega), (by dsimp only; omega), Sub.less ⟨(SLe.of_eq rfl), SLe.refl _, SLe.refl _, SLe.refl _, SLe.refl _, (SLe.of_eq (show S.d (D.v (.bool (lgB (sumI (pmf p) (unkR a (validR l))) (potW ((salesR a (validR l)).take k) p)))) = S.d (D.v (.bool (lgB (sumI (pmf p) (unkR a (validR l))) (potW ((salesR a (validR l)).take (k + 1)) p)))) by rw [HY2])), SLe.refl _, SLe.refl _, trivial⟩ (rows_2 (by rw [HY2]) (by rw [HY1]))⟩
    replace g6 := of_decide_eq_false g6
    obtain ⟨HY1, HY2⟩ := pot_no hlt (p := p) (fun hh => g6 hh.1)
    refine AOps.pass ⟨60, rfl, .inl ⟨_, rfl, rfl⟩⟩ rfl rfl ?_
    refine AOps.pass ⟨60, rfl, .inl ⟨_, rfl, rfl⟩⟩ rfl rfl ?_
    refine AOps.pass ⟨60, rfl, .inl ⟨_, rfl, rfl⟩⟩ rfl rfl ?_
    refine AOps.step rfl rfl rfl (AOp.pickF rfl rfl rfl) (.nil ?_)
    refine AWP.cond rfl (fun h => nomatch h) (fun _ => ?_)
    refine AWP.skip ?_
    refine AWP.region ?_
    refine AOps.step rfl rfl rfl (AOp.add64 rfl rfl rfl (by omega) (by omega)) ?_
    refine AOps.mD rfl rfl rfl rfl rfl (.nil ?_)
    refine ⟨k + 1, (by omega), (by dsimp only; omega), Sub.less ⟨(SLe.of_eq rfl), SLe.refl _, SLe.refl _, SLe.refl _, SLe.refl _, (SLe.of_eq (show S.d (D.v (.bool (lgB (sumI (pmf p) (unkR a (validR l))) (potW ((salesR a (validR l)).take k) p)))) = S.d (D.v (.bool (lgB (sumI (pmf p) (unkR a (validR l))) (potW ((salesR a (validR l)).take (k + 1)) p)))) by rw [HY2])), SLe.refl _, SLe.refl _, trivial⟩ (rows_2 (by rw [HY2]) (by rw [HY1]))⟩
  replace h5 := of_decide_eq_false h5
  rw [List.length_map] at h5
  obtain rfl : k = (salesR a (validR l)).length := by omega
  rw [List.take_length]
  have hwk := potW_le (salesR a (validR l)) p (salesR a (validR l)).length
  have hok := potO_len (salesR a (validR l)) p
  rw [List.take_length] at hwk
  refine AWP.exit ?_
  refine AWP.seq ?_
  refine AWP.seq (AWP.region ?_)
  refine AOps.step rfl rfl rfl (AOp.moveO rfl rfl) ?_
  refine AOps.step rfl rfl rfl (AOp.lenOwn rfl et_24.ht rfl (.tail _ (.head _))) ?_
  refine AOps.step rfl rfl rfl (AOp.eql rfl rfl rfl) (.nil ?_)
  refine AWP.cond rfl (fun h9 => ?_) (fun h9 => ?_)
  · replace h9 := of_decide_eq_true h9
    rw [List.length_map] at h9
    have HP : potF l a p = 9 := by unfold potF; rw [if_neg (by rw [h0]; simp), if_neg (by omega)]; exact if_pos (by omega)
    have HR : potR l a p = [] := if_neg (by rw [HP]; decide)
    rw [HR, HP]
    refine AWP.seq (AWP.region ?_)
    refine AOps.aD rfl rfl rfl rfl rfl ?_
    refine AOps.aD rfl rfl rfl rfl rfl (.nil ?_)
    refine AWP.ret ?_
    refine ⟨RetD.nil rfl, RetD.eq rfl ?_, trivial⟩
    all_goals (first | rfl | rw [HZ])
  replace h9 := of_decide_eq_false h9
  rw [List.length_map] at h9
  have hO0 : ¬ (potO (salesR a (validR l)) p).length = 0 := by omega
  have hw0 : 0 < (potW (salesR a (validR l)) p).length := by omega
  refine AWP.skip ?_
  refine AWP.seq ?_
  refine AWP.seq (AWP.region ?_)
  refine AOps.mD rfl rfl rfl rfl rfl ?_
  refine AOps.mD rfl rfl rfl rfl rfl ?_
  refine AOps.split 88 rfl (fun g10 => ?_) (fun g10 => ?_)
  · skip
    have g88 : lgB (sumI (pmf p) (unkR a (validR l))) (potW (salesR a (validR l)) p) = true := g10
    have hlg : potLg (sumI (pmf p) (unkR a (validR l))) (potW (salesR a (validR l)) p) := lgB_iff.2 (.inl g88)
    have HP : potF l a p = 2 := by unfold potF; rw [if_neg (by rw [h0]; simp), if_neg (by omega)]; exact (if_neg hO0).trans (if_pos hlg)
    have HR : potR l a p = [] := if_neg (by rw [HP]; decide)
    rw [HR, HP]
    refine AOps.pass ⟨88, rfl, .inl ⟨_, rfl, rfl⟩⟩ rfl rfl ?_
    refine AOps.pass ⟨88, rfl, .inl ⟨_, rfl, rfl⟩⟩ rfl rfl ?_
    refine AOps.pass ⟨88, rfl, .inl ⟨_, rfl, rfl⟩⟩ rfl rfl ?_
    refine AOps.step rfl rfl rfl (AOp.pickT rfl rfl rfl) (.nil ?_)
    refine AWP.cond rfl (fun _ => ?_) (fun h => nomatch h)
    refine AWP.seq (AWP.region ?_)
    refine AOps.aD rfl rfl rfl rfl rfl ?_
    refine AOps.aD rfl rfl rfl rfl rfl (.nil ?_)
    refine AWP.ret ?_
    refine ⟨RetD.nil rfl, RetD.eq rfl ?_, trivial⟩
    all_goals (first | rfl | rw [HZ])
  have g88 : lgB (sumI (pmf p) (unkR a (validR l))) (potW (salesR a (validR l)) p) = false := g10
  refine AOps.step ⟨88, rfl, .inl ⟨_, rfl, rfl⟩⟩ rfl rfl (AOp.moveO rfl rfl) ?_
  refine AOps.step ⟨88, rfl, .inl ⟨_, rfl, rfl⟩⟩ rfl rfl (AOp.lenOwn rfl et_24.ht rfl (.tail _ (.head _))) ?_
  refine AOps.step ⟨88, rfl, .inl ⟨_, rfl, rfl⟩⟩ rfl rfl (AOp.gtr rfl rfl rfl) ?_
  refine AOps.step rfl rfl rfl (AOp.pickF rfl rfl rfl) (.nil ?_)
  refine AWP.cond rfl (fun h11 => ?_) (fun h11 => ?_)
  · replace h11 := of_decide_eq_true h11
    have hlg : potLg (sumI (pmf p) (unkR a (validR l))) (potW (salesR a (validR l)) p) := lgB_iff.2 (.inr (by rw [List.length_map] at h11; omega))
    have HP : potF l a p = 2 := by unfold potF; rw [if_neg (by rw [h0]; simp), if_neg (by omega)]; exact (if_neg hO0).trans (if_pos hlg)
    have HR : potR l a p = [] := if_neg (by rw [HP]; decide)
    rw [HR, HP]
    refine AWP.seq (AWP.region ?_)
    refine AOps.aD rfl rfl rfl rfl rfl ?_
    refine AOps.aD rfl rfl rfl rfl rfl (.nil ?_)
    refine AWP.ret ?_
    refine ⟨RetD.nil rfl, RetD.eq rfl ?_, trivial⟩
    all_goals (first | rfl | rw [HZ])
  replace h11 := of_decide_eq_false h11
  have hlg : ¬ potLg (sumI (pmf p) (unkR a (validR l))) (potW (salesR a (validR l)) p) := (fun hh => (lgB_iff.1 hh).elim (fun h3 => by rw [g88] at h3; cases h3) fun h3 => by rw [List.length_map] at h11; omega)
  obtain ⟨HD1, HD2⟩ := pot_div hO0 hM0 hlg
  refine AWP.skip ?_
  refine AWP.seq (AWP.region ?_)
  refine AOps.mD rfl rfl rfl rfl rfl ?_
  refine AOps.step rfl rfl rfl (AOp.moveO rfl rfl) ?_
  refine AOps.freeze 95 rfl (.head _) ?_
  refine AOps.step rfl rfl rfl (AOp.call rfl (.cons (ArgOk.rfl' rfl) (.cons (ArgOk.rfl' rfl) .nil)) (c_rDiv _ _)) ?_
  rw [HD2, HD1]
  refine AOps.mD rfl rfl rfl rfl rfl ?_
  refine AOps.step rfl rfl rfl (AOp.extract rfl rfl rfl) ?_
  refine AOps.step rfl rfl rfl (AOp.extract rfl rfl rfl) ?_
  refine AOps.aD rfl rfl rfl rfl rfl ?_
  refine AOps.aD rfl rfl rfl rfl rfl (.nil ?_)
  refine AWP.seq ?_
  refine AWP.seq (AWP.region ?_)
  refine AOps.mD rfl rfl rfl rfl rfl ?_
  refine AOps.step rfl rfl rfl (AOp.lenSl rfl et_45.ht rfl) ?_
  refine AOps.mD rfl rfl rfl rfl rfl (.nil ?_)
  refine AWP.block ?_
  refine AWP.loop (G := Nat) (fun k => Env.of [(101, .d (.v (.int .i64 ((k : Int))))), (17, .d (.sl (rowF (outF (sumI (pmf p) (unkR a (validR l))) (potW (salesR a (validR l)) p) (leftTo (sumI (pmf p) (unkR a (validR l))) (potW (salesR a (validR l)) p) (potW (salesR a (validR l)) p).length).toNat) (potW (salesR a (validR l)) p).length))), (100, .d (.v (.int .i64 (((rowF (outF (sumI (pmf p) (unkR a (validR l))) (potW (salesR a (validR l)) p) (leftTo (sumI (pmf p) (unkR a (validR l))) (potW (salesR a (validR l)) p) (potW (salesR a (validR l)) p).length).toNat) (potW (salesR a (validR l)) p).length).length : Int))))), (18, .d (.v (.int .i64 (0)))), (12, .own 61)]) (fun k => [(61, .row 31 4 ((payTo (potO (salesR a (validR l)) p) (outF (sumI (pmf p) (unkR a (validR l))) (potW (salesR a (validR l)) p) (leftTo (sumI (pmf p) (unkR a (validR l))) (potW (salesR a (validR l)) p) (potW (salesR a (validR l)) p).length).toNat) k).map Sal.ds))]) (fun k => k ≤ (potW (salesR a (validR l)) p).length) (fun k => (potW (salesR a (validR l)) p).length - k) 0 (Nat.zero_le _) (Sub.less ⟨(SLe.of_eq rfl), SLe.refl _, SLe.refl _, SLe.refl _, SLe.refl _, trivial⟩ (row_sameM (by rw [payTo_0]))) ?_
  intro k hk
  refine AWP.seq (AWP.region ?_)
  refine AOps.step rfl rfl rfl (AOp.lss rfl rfl rfl) (.nil ?_)
  refine AWP.seq ?_
  refine AWP.cond rfl (fun h12 => ?_) (fun h12 => ?_)
  · replace h12 := of_decide_eq_true h12
    rw [rowF_len] at h12
    have hlt : k < (potW (salesR a (validR l)) p).length := by omega
    have hltO : k < (potO (salesR a (validR l)) p).length := by omega
    have HN := payTo_next (f := (outF (sumI (pmf p) (unkR a (validR l))) (potW (salesR a (validR l)) p) (leftTo (sumI (pmf p) (unkR a (validR l))) (potW (salesR a (validR l)) p) (potW (salesR a (validR l)) p).length).toNat)) hltO
    refine AWP.skip ?_
    refine AWP.seq ?_
    refine AWP.block ?_
    refine AWP.seq (AWP.region ?_)
    refine AOps.mD rfl rfl rfl rfl rfl ?_
    refine AOps.aD rfl rfl rfl rfl rfl (.nil ?_)
    refine AWP.region ?_
    refine AOps.step rfl rfl rfl (AOp.moveO rfl rfl) ?_
    refine AOps.mD rfl rfl rfl rfl rfl ?_
    refine AOps.mD rfl rfl rfl rfl rfl ?_
    refine AOps.mD rfl rfl rfl rfl rfl ?_
    refine AOps.step rfl rfl rfl (AOp.indexAddr rfl et_45 rfl rfl k rfl (rowF_at hlt) rfl) ?_
    refine AOps.step rfl rfl rfl (AOp.load rfl sc_3 rfl) ?_
    refine AOps.step rfl rfl rfl (AOp.indexOwn rfl et_24 rfl rfl (.head _) k rfl (by rw [List.length_map, payTo_len]; omega)) ?_
    refine AOps.step rfl rfl rfl (AOp.fieldAddrP rfl fo_31_3 rfl) ?_
    refine AOps.storeRow rfl rfl rfl sz_3 rfl (.head _) rfl rfl rfl k 3 rfl (payTo_ds hltO) (Nat.le_of_ble_eq_true rfl) (.nil ?_)
    refine AWP.region ?_
    refine AOps.step rfl rfl rfl (AOp.add64 rfl rfl rfl (by omega) (by omega)) ?_
    refine AOps.mD rfl rfl rfl rfl rfl (.nil ?_)
    refine ⟨k + 1, (by omega), (by dsimp only; omega), Sub.less ⟨(SLe.of_eq rfl), SLe.refl _, SLe.refl _, SLe.refl _, SLe.refl _, trivial⟩ (row_sameM HN)⟩
  replace h12 := of_decide_eq_false h12
  rw [rowF_len] at h12
  obtain rfl : k = (potW (salesR a (validR l)) p).length := by omega
  have HP : potF l a p = 0 := by unfold potF; rw [if_neg (by rw [h0]; simp), if_neg (by omega)]; exact (if_neg hO0).trans (if_neg hlg)
  have HR : potR l a p = potV (salesR a (validR l)) (unkR a (validR l)) p := if_pos HP
  rw [HR, HP]
  have HZ : payTo (potO (salesR a (validR l)) p) (outF (sumI (pmf p) (unkR a (validR l))) (potW (salesR a (validR l)) p) (leftTo (sumI (pmf p) (unkR a (validR l))) (potW (salesR a (validR l)) p) (potW (salesR a (validR l)) p).length).toNat) (potW (salesR a (validR l)) p).length = potV (salesR a (validR l)) (unkR a (validR l)) p := by unfold potV; rw [hok]
  refine AWP.exit ?_
  refine AWP.seq (AWP.region ?_)
  refine AOps.step rfl rfl rfl (AOp.moveO rfl rfl) ?_
  refine AOps.mD rfl rfl rfl rfl rfl ?_
  refine AOps.step rfl rfl rfl (AOp.assignO rfl rfl) ?_
  refine AOps.aD rfl rfl rfl rfl rfl (.nil ?_)
  refine AWP.ret ?_
  refine ⟨RetD.own rfl (.head _) ?_, RetD.eq rfl ?_, trivial⟩
  all_goals (first | rfl | rw [HZ])

end Go.Proofs.YtekenfknoakboaaGreatDoor


namespace Go.Proofs.YtekenfknoakboaaGreatDoor
open Go.RowKit
set_option linter.unusedVariables false

/-! Types. -/
namespace TyO10
theorem ag_31 : AggT Tryz.prog 31 4 := .of (by kernel_rfl)
theorem ag_37 : AggT Tryz.prog 37 5 := .of (by kernel_rfl)
theorem et_24 : ElemTy Tryz.prog 24 31 4 32 (.agg #[(.int .i64 0), (.int .i64 0), (.int .i64 0), (.int .i64 0)]) := ⟨by kernel_rfl, by kernel_rfl, by kernel_rfl, by decide⟩
theorem et_32 : ElemTy Tryz.prog 32 37 5 56 (.agg #[(.string ⟨#[]⟩), (.string ⟨#[]⟩), (.int .i64 0), (.int .i64 0), (.int .i64 0)]) := ⟨by kernel_rfl, by kernel_rfl, by kernel_rfl, by decide⟩
end TyO10
open TyO10

theorem eqT_Sal : EqT Tryz.prog 31 [.int .i64, .int .i64, .int .i64, .int .i64] := .of (by kernel_rfl)
theorem eq_Sal (x y : Sal) : EqD Tryz.prog 31 x.ds y.ds (decide (x = y)) := .of eqT_Sal [.int .i64 x.recd, .int .i64 x.per, .int .i64 x.units, .int .i64 x.money] [.int .i64 y.recd, .int .i64 y.per, .int .i64 y.units, .int .i64 y.money] rfl rfl rfl rfl (by
  cases x
  cases y
  simp [sameL, sameV])


set_option maxRecDepth 100000 in
set_option maxHeartbeats 1000000 in
theorem c_eqSal (l : List Sal) : ACall Tryz.prog 11 [.sl (l.map Sal.ds), .sl (l.map Sal.ds)] (.v (.bool true)) := by
  refine acall_of (n := 26) (ds' := [.v (.bool true)]) Tryz.func11 rfl (by kernel_rfl) rfl [4] rfl rfl ?_
  intro B w0 F0 fr
  refine AWP.bound 0 rfl (fun hbd0 => ?_)
  rw [List.length_map] at hbd0
  refine AWP.seq (AWP.region ?_)
  refine AOps.aD rfl rfl rfl rfl rfl (.nil ?_)
  refine AWP.seq ?_
  refine AWP.seq (AWP.region ?_)
  refine AOps.mD rfl rfl rfl rfl rfl ?_
  refine AOps.step rfl rfl rfl (AOp.lenSl rfl et_24.ht rfl) ?_
  refine AOps.mD rfl rfl rfl rfl rfl ?_
  refine AOps.step rfl rfl rfl (AOp.lenSl rfl et_24.ht rfl) ?_
  refine AOps.step rfl rfl rfl (AOp.neq rfl rfl rfl) (.nil ?_)
  refine AWP.cond rfl (fun h1 => ?_) (fun h1 => ?_)
  · replace h1 := of_decide_eq_true h1
    exact absurd rfl h1
  replace h1 := of_decide_eq_false h1
  refine AWP.skip ?_
  refine AWP.seq ?_
  refine AWP.seq (AWP.region ?_)
  refine AOps.mD rfl rfl rfl rfl rfl ?_
  refine AOps.step rfl rfl rfl (AOp.lenSl rfl et_24.ht rfl) ?_
  refine AOps.mD rfl rfl rfl rfl rfl (.nil ?_)
  refine AWP.block ?_
  refine AWP.loop (G := Nat) (fun k => Env.of [(13, .d (.v (.int .i64 (k : Int)))), (0, .d (.sl (l.map Sal.ds))), (1, .d (.sl (l.map Sal.ds))), (12, .d (.v (.int .i64 ((l.map Sal.ds).length : Int))))]) (fun k => []) (fun k => k ≤ l.length) (fun k => l.length - k) 0 (Nat.zero_le _) (Sub.less ⟨(SLe.of_eq rfl), SLe.refl _, SLe.refl _, SLe.refl _, trivial⟩ (fun _ h => h)) ?_
  intro k hk
  refine AWP.seq (AWP.region ?_)
  refine AOps.step rfl rfl rfl (AOp.lss rfl rfl rfl) (.nil ?_)
  refine AWP.seq ?_
  refine AWP.cond rfl (fun h2 => ?_) (fun h2 => ?_)
  · replace h2 := of_decide_eq_true h2
    rw [List.length_map] at h2
    have hlt : k < l.length := by omega
    refine AWP.skip ?_
    refine AWP.seq ?_
    refine AWP.block ?_
    refine AWP.seq (AWP.region ?_)
    refine AOps.mD rfl rfl rfl rfl rfl ?_
    refine AOps.aD rfl rfl rfl rfl rfl (.nil ?_)
    refine AWP.seq ?_
    refine AWP.draw (by kernel_rfl) (by kernel_rfl) ?_
    refine DRun.step rfl rfl rfl (AOp.moveD rfl rfl) ?_
    refine DRun.step rfl rfl rfl (AOp.moveD rfl rfl) ?_
    refine DRun.step rfl rfl rfl (AOp.indexAddr rfl et_24 rfl rfl k rfl (at_lst hlt) rfl) ?_
    refine DRun.step rfl rfl rfl (AOp.loadAgg rfl ag_31 rfl rfl) ?_
    refine DRun.step rfl rfl rfl (AOp.moveD rfl rfl) ?_
    refine DRun.step rfl rfl rfl (AOp.moveD rfl rfl) ?_
    refine DRun.step rfl rfl rfl (AOp.indexAddr rfl et_24 rfl rfl k rfl (at_lst hlt) rfl) ?_
    refine DRun.step rfl rfl rfl (AOp.loadAgg rfl ag_31 rfl rfl) ?_
    refine DRun.step rfl rfl rfl (AOp.aggNeq rfl rfl rfl (eq_Sal _ _)) ?_
    refine DRun.nil ?_
    refine AWP.cond rfl (fun h3 => ?_) (fun h3 => ?_)
    · replace h3 := bnot_t h3; replace h3 := of_decide_eq_false h3
      exact absurd rfl h3
    replace h3 := bnot_f h3; replace h3 := of_decide_eq_true h3
    refine AWP.skip ?_
    refine AWP.region ?_
    refine AOps.step rfl rfl rfl (AOp.add64 rfl rfl rfl (by omega) (by omega)) ?_
    refine AOps.mD rfl rfl rfl rfl rfl (.nil ?_)
    refine ⟨k + 1, (by omega), (by dsimp only; omega), Sub.less ⟨(SLe.of_eq rfl), SLe.refl _, SLe.refl _, SLe.refl _, trivial⟩ (fun _ h => h)⟩
  replace h2 := of_decide_eq_false h2
  refine AWP.exit ?_
  refine AWP.seq (AWP.region ?_)
  refine AOps.aD rfl rfl rfl rfl rfl (.nil ?_)
  refine AWP.ret ?_
  refine ⟨RetD.eq rfl ?_, trivial⟩
  all_goals (rfl)

theorem eqT_Unk : EqT Tryz.prog 37 [.str, .str, .int .i64, .int .i64, .int .i64] := .of (by kernel_rfl)
theorem eq_Unk (x y : Unk) : EqD Tryz.prog 37 x.ds y.ds (decide (x = y)) := .of eqT_Unk [.string x.source, .string x.title, .int .i64 x.per, .int .i64 x.units, .int .i64 x.money] [.string y.source, .string y.title, .int .i64 y.per, .int .i64 y.units, .int .i64 y.money] rfl rfl rfl rfl (by
  cases x
  cases y
  simp [sameL, sameV])


set_option maxRecDepth 100000 in
set_option maxHeartbeats 1000000 in
theorem c_eqUnk (l : List Unk) : ACall Tryz.prog 14 [.sl (l.map Unk.ds), .sl (l.map Unk.ds)] (.v (.bool true)) := by
  refine acall_of (n := 26) (ds' := [.v (.bool true)]) Tryz.func14 rfl (by kernel_rfl) rfl [4] rfl rfl ?_
  intro B w0 F0 fr
  refine AWP.bound 0 rfl (fun hbd0 => ?_)
  rw [List.length_map] at hbd0
  refine AWP.seq (AWP.region ?_)
  refine AOps.aD rfl rfl rfl rfl rfl (.nil ?_)
  refine AWP.seq ?_
  refine AWP.seq (AWP.region ?_)
  refine AOps.mD rfl rfl rfl rfl rfl ?_
  refine AOps.step rfl rfl rfl (AOp.lenSl rfl et_32.ht rfl) ?_
  refine AOps.mD rfl rfl rfl rfl rfl ?_
  refine AOps.step rfl rfl rfl (AOp.lenSl rfl et_32.ht rfl) ?_
  refine AOps.step rfl rfl rfl (AOp.neq rfl rfl rfl) (.nil ?_)
  refine AWP.cond rfl (fun h1 => ?_) (fun h1 => ?_)
  · replace h1 := of_decide_eq_true h1
    exact absurd rfl h1
  replace h1 := of_decide_eq_false h1
  refine AWP.skip ?_
  refine AWP.seq ?_
  refine AWP.seq (AWP.region ?_)
  refine AOps.mD rfl rfl rfl rfl rfl ?_
  refine AOps.step rfl rfl rfl (AOp.lenSl rfl et_32.ht rfl) ?_
  refine AOps.mD rfl rfl rfl rfl rfl (.nil ?_)
  refine AWP.block ?_
  refine AWP.loop (G := Nat) (fun k => Env.of [(13, .d (.v (.int .i64 (k : Int)))), (0, .d (.sl (l.map Unk.ds))), (1, .d (.sl (l.map Unk.ds))), (12, .d (.v (.int .i64 ((l.map Unk.ds).length : Int))))]) (fun k => []) (fun k => k ≤ l.length) (fun k => l.length - k) 0 (Nat.zero_le _) (Sub.less ⟨(SLe.of_eq rfl), SLe.refl _, SLe.refl _, SLe.refl _, trivial⟩ (fun _ h => h)) ?_
  intro k hk
  refine AWP.seq (AWP.region ?_)
  refine AOps.step rfl rfl rfl (AOp.lss rfl rfl rfl) (.nil ?_)
  refine AWP.seq ?_
  refine AWP.cond rfl (fun h2 => ?_) (fun h2 => ?_)
  · replace h2 := of_decide_eq_true h2
    rw [List.length_map] at h2
    have hlt : k < l.length := by omega
    refine AWP.skip ?_
    refine AWP.seq ?_
    refine AWP.block ?_
    refine AWP.seq (AWP.region ?_)
    refine AOps.mD rfl rfl rfl rfl rfl ?_
    refine AOps.aD rfl rfl rfl rfl rfl (.nil ?_)
    refine AWP.seq ?_
    refine AWP.draw (by kernel_rfl) (by kernel_rfl) ?_
    refine DRun.step rfl rfl rfl (AOp.moveD rfl rfl) ?_
    refine DRun.step rfl rfl rfl (AOp.moveD rfl rfl) ?_
    refine DRun.step rfl rfl rfl (AOp.indexAddr rfl et_32 rfl rfl k rfl (at_lst hlt) rfl) ?_
    refine DRun.step rfl rfl rfl (AOp.loadAgg rfl ag_37 rfl rfl) ?_
    refine DRun.step rfl rfl rfl (AOp.moveD rfl rfl) ?_
    refine DRun.step rfl rfl rfl (AOp.moveD rfl rfl) ?_
    refine DRun.step rfl rfl rfl (AOp.indexAddr rfl et_32 rfl rfl k rfl (at_lst hlt) rfl) ?_
    refine DRun.step rfl rfl rfl (AOp.loadAgg rfl ag_37 rfl rfl) ?_
    refine DRun.step rfl rfl rfl (AOp.aggNeq rfl rfl rfl (eq_Unk _ _)) ?_
    refine DRun.nil ?_
    refine AWP.cond rfl (fun h3 => ?_) (fun h3 => ?_)
    · replace h3 := bnot_t h3; replace h3 := of_decide_eq_false h3
      exact absurd rfl h3
    replace h3 := bnot_f h3; replace h3 := of_decide_eq_true h3
    refine AWP.skip ?_
    refine AWP.region ?_
    refine AOps.step rfl rfl rfl (AOp.add64 rfl rfl rfl (by omega) (by omega)) ?_
    refine AOps.mD rfl rfl rfl rfl rfl (.nil ?_)
    refine ⟨k + 1, (by omega), (by dsimp only; omega), Sub.less ⟨(SLe.of_eq rfl), SLe.refl _, SLe.refl _, SLe.refl _, trivial⟩ (fun _ h => h)⟩
  replace h2 := of_decide_eq_false h2
  refine AWP.exit ?_
  refine AWP.seq (AWP.region ?_)
  refine AOps.aD rfl rfl rfl rfl rfl (.nil ?_)
  refine AWP.ret ?_
  refine ⟨RetD.eq rfl ?_, trivial⟩
  all_goals (rfl)

set_option maxRecDepth 100000 in
set_option maxHeartbeats 4000000 in
theorem lawSales (l : List Rpt) (a : List Ali) (p : Int) (ho : ∀ x ∈ l, okRpt x) (ha : ∀ x ∈ a, x.source.size ≤ 9223372036854775807 ∧ x.title.size ≤ 9223372036854775807) : ACallT Tryz.prog MaxT 3 [.sl (l.map Rpt.ds), .sl (a.map Ali.ds), .v (.int .i64 p)] (.v (.bool true)) := by
  refine acall_ofT (n := 87) (ds' := [.v (.bool true)]) Tryz.func3 rfl (by kernel_rfl) rfl [6] rfl rfl ?_
  intro B w0 F0 hT
  refine AWP.seq (AWP.region ?_)
  refine AOps.aD rfl rfl rfl rfl rfl (.nil ?_)
  refine AWP.seq (AWP.region ?_)
  refine AOps.mD rfl rfl rfl rfl rfl ?_
  refine AOps.mD rfl rfl rfl rfl rfl ?_
  -- wants the world
  refine AOps.callT rfl rfl rfl hT maxT_stays rfl (.cons (ArgOk.rfl' rfl) (.cons (ArgOk.rfl' rfl) .nil)) (c_pMatch l a ho ha) ?_
  refine AOps.mD rfl rfl rfl rfl rfl ?_
  refine AOps.step rfl rfl rfl (AOp.extract rfl rfl rfl) ?_
  refine AOps.step rfl rfl rfl (AOp.extract rfl rfl rfl) ?_
  refine AOps.aD rfl rfl rfl rfl rfl ?_
  refine AOps.aD rfl rfl rfl rfl rfl (.nil ?_)
  refine AWP.seq (AWP.region ?_)
  refine AOps.mD rfl rfl rfl rfl rfl ?_
  refine AOps.mD rfl rfl rfl rfl rfl ?_
  -- wants the world
  refine AOps.callT rfl rfl rfl hT maxT_stays rfl (.cons (ArgOk.rfl' rfl) (.cons (ArgOk.rfl' rfl) .nil)) (c_rMatch l a ho ha) ?_
  refine AOps.mD rfl rfl rfl rfl rfl ?_
  refine AOps.step rfl rfl rfl (AOp.extract rfl rfl rfl) ?_
  refine AOps.step rfl rfl rfl (AOp.extract rfl rfl rfl) ?_
  refine AOps.aD rfl rfl rfl rfl rfl ?_
  refine AOps.aD rfl rfl rfl rfl rfl (.nil ?_)
  refine AWP.seq ?_
  refine AWP.seq (AWP.region ?_)
  refine AOps.mD rfl rfl rfl rfl rfl ?_
  -- wants the world
  refine AOps.callT rfl rfl rfl hT maxT_stays rfl (.cons (ArgOk.rfl' rfl) .nil) (c_pAlis a ha) ?_
  refine AOps.mD rfl rfl rfl rfl rfl ?_
  -- wants the world
  refine AOps.callT rfl rfl rfl hT maxT_stays rfl (.cons (ArgOk.rfl' rfl) .nil) (c_rAlis a ha) ?_
  refine AOps.step rfl rfl rfl (AOp.neq rfl rfl rfl) ?_
  refine AOps.mD rfl rfl rfl rfl rfl ?_
  refine AOps.split 30 rfl (fun g1 => ?_) (fun g1 => ?_)
  · replace g1 := of_decide_eq_true g1
    exact absurd rfl g1
  replace g1 := of_decide_eq_false g1
  refine AOps.step ⟨30, rfl, .inl ⟨_, rfl, rfl⟩⟩ rfl rfl (AOp.moveD rfl rfl) ?_
  refine AOps.step ⟨30, rfl, .inl ⟨_, rfl, rfl⟩⟩ rfl rfl (AOp.moveD rfl rfl) ?_
  refine AOps.step ⟨30, rfl, .inl ⟨_, rfl, rfl⟩⟩ rfl rfl (AOp.neq rfl rfl rfl) ?_
  refine AOps.step rfl rfl rfl (AOp.pickF rfl rfl rfl) ?_
  refine AOps.mD rfl rfl rfl rfl rfl ?_
  refine AOps.split 35 rfl (fun g2 => ?_) (fun g2 => ?_)
  · replace g2 := of_decide_eq_true g2
    exact absurd rfl g2
  replace g2 := of_decide_eq_false g2
  refine AOps.step ⟨35, rfl, .inl ⟨_, rfl, rfl⟩⟩ rfl rfl (AOp.moveD rfl rfl) ?_
  refine AOps.step ⟨35, rfl, .inl ⟨_, rfl, rfl⟩⟩ rfl rfl (AOp.moveD rfl rfl) ?_
  refine AOps.step ⟨35, rfl, .inl ⟨_, rfl, rfl⟩⟩ rfl rfl (AOp.call rfl (.cons (ArgOk.rfl' rfl) (.cons (ArgOk.rfl' rfl) .nil)) (c_eqSal _)) ?_
  refine AOps.step ⟨35, rfl, .inl ⟨_, rfl, rfl⟩⟩ rfl rfl (AOp.not rfl rfl) ?_
  refine AOps.step rfl rfl rfl (AOp.pickF rfl rfl rfl) (.nil ?_)
  refine AWP.cond rfl (fun h => nomatch h) (fun _ => ?_)
  refine AWP.skip ?_
  refine AWP.seq (AWP.region ?_)
  refine AOps.mD rfl rfl rfl rfl rfl ?_
  refine AOps.mD rfl rfl rfl rfl rfl ?_
  -- wants the world
  refine AOps.callT rfl rfl rfl hT maxT_stays rfl (.cons (ArgOk.rfl' rfl) (.cons (ArgOk.rfl' rfl) .nil)) (c_pOpen l a ho ha) ?_
  refine AOps.mD rfl rfl rfl rfl rfl ?_
  refine AOps.step rfl rfl rfl (AOp.extract rfl rfl rfl) ?_
  refine AOps.step rfl rfl rfl (AOp.extract rfl rfl rfl) ?_
  refine AOps.aD rfl rfl rfl rfl rfl ?_
  refine AOps.aD rfl rfl rfl rfl rfl (.nil ?_)
  refine AWP.seq (AWP.region ?_)
  refine AOps.mD rfl rfl rfl rfl rfl ?_
  refine AOps.mD rfl rfl rfl rfl rfl ?_
  -- wants the world
  refine AOps.callT rfl rfl rfl hT maxT_stays rfl (.cons (ArgOk.rfl' rfl) (.cons (ArgOk.rfl' rfl) .nil)) (c_rOpen l a ho ha) ?_
  refine AOps.mD rfl rfl rfl rfl rfl ?_
  refine AOps.step rfl rfl rfl (AOp.extract rfl rfl rfl) ?_
  refine AOps.step rfl rfl rfl (AOp.extract rfl rfl rfl) ?_
  refine AOps.aD rfl rfl rfl rfl rfl ?_
  refine AOps.aD rfl rfl rfl rfl rfl (.nil ?_)
  refine AWP.seq ?_
  refine AWP.seq (AWP.region ?_)
  refine AOps.mD rfl rfl rfl rfl rfl ?_
  refine AOps.mD rfl rfl rfl rfl rfl ?_
  refine AOps.step rfl rfl rfl (AOp.neq rfl rfl rfl) ?_
  refine AOps.mD rfl rfl rfl rfl rfl ?_
  refine AOps.split 56 rfl (fun g3 => ?_) (fun g3 => ?_)
  · replace g3 := of_decide_eq_true g3
    exact absurd rfl g3
  replace g3 := of_decide_eq_false g3
  refine AOps.step ⟨56, rfl, .inl ⟨_, rfl, rfl⟩⟩ rfl rfl (AOp.moveD rfl rfl) ?_
  refine AOps.step ⟨56, rfl, .inl ⟨_, rfl, rfl⟩⟩ rfl rfl (AOp.moveD rfl rfl) ?_
  refine AOps.step ⟨56, rfl, .inl ⟨_, rfl, rfl⟩⟩ rfl rfl (AOp.call rfl (.cons (ArgOk.rfl' rfl) (.cons (ArgOk.rfl' rfl) .nil)) (c_eqUnk _)) ?_
  refine AOps.step ⟨56, rfl, .inl ⟨_, rfl, rfl⟩⟩ rfl rfl (AOp.not rfl rfl) ?_
  refine AOps.step rfl rfl rfl (AOp.pickF rfl rfl rfl) (.nil ?_)
  refine AWP.cond rfl (fun h => nomatch h) (fun _ => ?_)
  refine AWP.skip ?_
  refine AWP.seq (AWP.region ?_)
  refine AOps.mD rfl rfl rfl rfl rfl ?_
  refine AOps.mD rfl rfl rfl rfl rfl ?_
  refine AOps.mD rfl rfl rfl rfl rfl ?_
  -- wants the world
  refine AOps.callT rfl rfl rfl hT maxT_stays rfl (.cons (ArgOk.rfl' rfl) (.cons (ArgOk.rfl' rfl) (.cons (ArgOk.rfl' rfl) .nil))) (c_pPot l a p ho ha) ?_
  refine AOps.mD rfl rfl rfl rfl rfl ?_
  refine AOps.step rfl rfl rfl (AOp.extract rfl rfl rfl) ?_
  refine AOps.step rfl rfl rfl (AOp.extract rfl rfl rfl) ?_
  refine AOps.aD rfl rfl rfl rfl rfl ?_
  refine AOps.aD rfl rfl rfl rfl rfl (.nil ?_)
  refine AWP.seq (AWP.region ?_)
  refine AOps.mD rfl rfl rfl rfl rfl ?_
  refine AOps.mD rfl rfl rfl rfl rfl ?_
  refine AOps.mD rfl rfl rfl rfl rfl ?_
  -- wants the world
  refine AOps.callT rfl rfl rfl hT maxT_stays rfl (.cons (ArgOk.rfl' rfl) (.cons (ArgOk.rfl' rfl) (.cons (ArgOk.rfl' rfl) .nil))) (c_rPot l a p ho ha) ?_
  refine AOps.mD rfl rfl rfl rfl rfl ?_
  refine AOps.step rfl rfl rfl (AOp.extract rfl rfl rfl) ?_
  refine AOps.step rfl rfl rfl (AOp.extract rfl rfl rfl) ?_
  refine AOps.aD rfl rfl rfl rfl rfl ?_
  refine AOps.aD rfl rfl rfl rfl rfl (.nil ?_)
  refine AWP.seq (AWP.region ?_)
  refine AOps.mD rfl rfl rfl rfl rfl ?_
  refine AOps.mD rfl rfl rfl rfl rfl ?_
  refine AOps.step rfl rfl rfl (AOp.eql rfl rfl rfl) ?_
  refine AOps.mD rfl rfl rfl rfl rfl ?_
  refine AOps.split 79 rfl (fun g4 => ?_) (fun g4 => ?_)
  · replace g4 := of_decide_eq_true g4
    refine AOps.step ⟨79, rfl, .inl ⟨_, rfl, rfl⟩⟩ rfl rfl (AOp.moveD rfl rfl) ?_
    refine AOps.step ⟨79, rfl, .inl ⟨_, rfl, rfl⟩⟩ rfl rfl (AOp.moveD rfl rfl) ?_
    refine AOps.step ⟨79, rfl, .inl ⟨_, rfl, rfl⟩⟩ rfl rfl (AOp.call rfl (.cons (ArgOk.rfl' rfl) (.cons (ArgOk.rfl' rfl) .nil)) (c_eqSal _)) ?_
    refine AOps.step rfl rfl rfl (AOp.pickT rfl rfl rfl) ?_
    refine AOps.mD rfl rfl rfl rfl rfl ?_
    refine AOps.step ⟨84, rfl, .inl ⟨_, rfl, rfl⟩⟩ rfl rfl (AOp.call rfl .nil c_awake) ?_
    refine AOps.step rfl rfl rfl (AOp.pickT rfl rfl rfl) ?_
    refine AOps.aD rfl rfl rfl rfl rfl (.nil ?_)
    refine AWP.ret ?_
    refine ⟨RetD.eq rfl ?_, trivial⟩
    all_goals (rfl)
  replace g4 := of_decide_eq_false g4
  exact absurd rfl g4

end Go.Proofs.YtekenfknoakboaaGreatDoor
