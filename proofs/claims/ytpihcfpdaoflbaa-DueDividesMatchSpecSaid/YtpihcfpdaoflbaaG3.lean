/- Walks over abstract values. Printed by tools/gen.py. No statement of the seat. -/
import Derived.Test.YtpihcfpdaoflbaaG2
namespace Go.Proofs.Ytpihcfpdaoflbaa
open Go.RowKit
set_option linter.unusedVariables false

/-! Types. -/
namespace TyG3
theorem et_22 : ElemTy Try.prog 22 3 1 8 (.int .i64 0) := ⟨by kernel_rfl, by kernel_rfl, by kernel_rfl, by decide⟩
theorem sc_3 : Scal Try.prog 3 := .of (by kernel_rfl)
theorem sz_3 : ∀ w, (sizeOf 3).run Try.prog w = .ok 1 w := SizeT.of (by kernel_rfl)
end TyG3
open TyG3


theorem fst_start (f : Nat → Int) : FstMax f 0 0 := fun i hi => by omega
theorem fst_up {f : Nat → Int} {i b : Nat} (h : FstMax f i b) (hlt : f i > f b) : FstMax f (i + 1) i := fun m hm => by
  by_cases e : m = i
  · subst e; exact .inr ⟨Int.le_refl _, Nat.le_refl _⟩
  · have := h m (by omega); left; omega
theorem fst_same {f : Nat → Int} {i b : Nat} (h : FstMax f i b) (hb : b ≤ i) (hlt : ¬ f i > f b) : FstMax f (i + 1) b := fun m hm => by
  by_cases e : m = i
  · subst e; exact .inr ⟨by omega, hb⟩
  · exact h m (by omega)
theorem sum_rng (f : Nat → Int) (n : Nat) : ((List.range (n + 1)).map f).sum = ((List.range n).map f).sum + f n := by rw [List.range_succ, List.map_append, List.sum_append]; simp
theorem sum_upd {f g : Nat → Int} {b : Nat} (h : ∀ i, g i = if i = b then f b + 1 else f i) : ∀ n, ((List.range n).map g).sum = ((List.range n).map f).sum + if b < n then 1 else 0
  | 0 => by simp
  | n + 1 => by
    rw [sum_rng, sum_rng, sum_upd h n, h n]
    by_cases e : n = b
    · subst e; rw [if_neg (Nat.lt_irrefl n), if_pos rfl, if_pos (by omega)]; omega
    · rw [if_neg e]
      by_cases h2 : b < n
      · rw [if_pos h2, if_pos (by omega)]; omega
      · rw [if_neg h2, if_neg (by omega)]; omega
theorem out_sum {t : Int} {ws : List Int} : ∀ j, j ≤ ws.length → ((List.range ws.length).map (outF t ws j)).sum = ((List.range ws.length).map (qAt t ws)).sum + j
  | 0, _ => by
    have : outF t ws 0 = qAt t ws := by funext i; unfold outF pick; simp
    rw [this]; simp
  | j + 1, hj => by
    have hjo : j < (ordL t ws).length := by rw [ordL_len]; omega
    rw [sum_upd (fun i => outF_succ hjo i), out_sum j (by omega), if_pos (ordL t ws)[j].1.isLt]
    omega
theorem out_total {t : Int} {ws : List Int} (ok : DivOk t ws) {L : Nat} (hL : leftTo t ws ws.length = (L : Int)) : ((List.range ws.length).map (outF t ws L)).sum = t := by
  have hlN := ok.leftN
  rw [hL] at hlN
  rw [out_sum L (by omega)]
  unfold leftTo at hL
  omega


set_option maxRecDepth 100000 in
set_option maxHeartbeats 1000000 in
theorem c_rDiv (t : Int) (ws : List Int) : ACall Try.prog 7 [.v (.int .i64 t), .sl (ws.map intD)] (.tup [.sl (divR t ws), .v (.int .i64 (divFault t ws))]) := by
  refine acall_of (n := 107) (ds' := [.sl (divR t ws), .v (.int .i64 (divFault t ws))]) Try.func7 rfl (by kernel_rfl) rfl [4, 5] rfl rfl ?_
  intro B w0 F0 fr
  refine AWP.seq ?_
  refine AWP.region ?_
  refine AOps.step rfl rfl rfl (AOp.assignD rfl rfl) ?_
  refine AOps.step rfl rfl rfl (AOp.assignD rfl rfl) ?_
  refine AOps.nil ?_
  refine AWP.seq ?_
  refine AWP.seq ?_
  refine AWP.region ?_
  refine AOps.step rfl rfl rfl (AOp.moveD rfl rfl) ?_
  refine AOps.step rfl rfl rfl (AOp.lenSl rfl et_22.ht rfl) ?_
  refine AOps.step rfl rfl rfl (AOp.eql rfl rfl rfl) ?_
  refine AOps.nil ?_
  refine AWP.cond rfl (fun h1 => ?_) (fun h1 => ?_)
  · replace h1 := of_decide_eq_true h1
    rw [List.length_map] at h1
    have HF := div_9 (t := t) h1
    have HR := divR_bad (t := t) (ws := ws) (by rw [HF]; decide)
    rw [HR, HF]
    refine AWP.seq ?_
    refine AWP.region ?_
    refine AOps.step rfl rfl rfl (AOp.assignD rfl rfl) ?_
    refine AOps.step rfl rfl rfl (AOp.assignD rfl rfl) ?_
    refine AOps.nil ?_
    refine AWP.ret ?_
    refine ⟨RetD.nil rfl, RetD.eq rfl ?_, trivial⟩
    all_goals (first | rfl | (rw [Int.toNat_natCast]))
  · replace h1 := of_decide_eq_false h1
    rw [List.length_map] at h1
    have g0 := h1
    refine AWP.skip ?_
    refine AWP.seq ?_
    refine AWP.seq ?_
    refine AWP.region ?_
    refine AOps.step rfl rfl rfl (AOp.moveD rfl rfl) ?_
    refine AOps.step rfl rfl rfl (AOp.lenSl rfl et_22.ht rfl) ?_
    refine AOps.step rfl rfl rfl (AOp.gtr rfl rfl rfl) ?_
    refine AOps.nil ?_
    refine AWP.cond rfl (fun h2 => ?_) (fun h2 => ?_)
    · replace h2 := of_decide_eq_true h2
      rw [List.length_map] at h2
      have HF := div_2 (t := t) g0 h2
      have HR := divR_bad (t := t) (ws := ws) (by rw [HF]; decide)
      rw [HR, HF]
      refine AWP.seq ?_
      refine AWP.region ?_
      refine AOps.step rfl rfl rfl (AOp.assignD rfl rfl) ?_
      refine AOps.step rfl rfl rfl (AOp.assignD rfl rfl) ?_
      refine AOps.nil ?_
      refine AWP.ret ?_
      refine ⟨RetD.nil rfl, RetD.eq rfl ?_, trivial⟩
      all_goals (first | rfl | (rw [Int.toNat_natCast]))
    · replace h2 := of_decide_eq_false h2
      rw [List.length_map] at h2
      have g1 := h2
      refine AWP.skip ?_
      refine AWP.seq ?_
      refine AWP.seq ?_
      refine AWP.region ?_
      refine AOps.step rfl rfl rfl (AOp.moveD rfl rfl) ?_
      refine AOps.step rfl rfl rfl (AOp.call rfl (.cons (ArgOk.rfl' rfl) (.cons (ArgOk.rfl' rfl) (.cons (ArgOk.rfl' rfl) .nil))) (c_rWithin _ _ _)) ?_
      refine AOps.step rfl rfl rfl (AOp.not rfl rfl) ?_
      refine AOps.nil ?_
      refine AWP.cond rfl (fun h3 => ?_) (fun h3 => ?_)
      · replace h3 := bnot_t h3; replace h3 := of_decide_eq_false h3
        have HF := div_1 g0 g1 h3
        have HR := divR_bad (t := t) (ws := ws) (by rw [HF]; decide)
        rw [HR, HF]
        refine AWP.seq ?_
        refine AWP.region ?_
        refine AOps.step rfl rfl rfl (AOp.assignD rfl rfl) ?_
        refine AOps.step rfl rfl rfl (AOp.assignD rfl rfl) ?_
        refine AOps.nil ?_
        refine AWP.ret ?_
        refine ⟨RetD.nil rfl, RetD.eq rfl ?_, trivial⟩
        all_goals (first | rfl | (rw [Int.toNat_natCast]))
      · replace h3 := bnot_f h3; replace h3 := of_decide_eq_true h3
        have g2 := h3
        refine AWP.skip ?_
        refine AWP.seq ?_
        refine AWP.region ?_
        refine AOps.step rfl rfl rfl (AOp.assignD rfl rfl) ?_
        refine AOps.nil ?_
        refine AWP.seq ?_
        refine AWP.seq ?_
        refine AWP.region ?_
        refine AOps.step rfl rfl rfl (AOp.moveD rfl rfl) ?_
        refine AOps.step rfl rfl rfl (AOp.lenSl rfl et_22.ht rfl) ?_
        refine AOps.step rfl rfl rfl (AOp.moveD rfl rfl) ?_
        refine AOps.nil ?_
        refine AWP.block ?_
        refine AWP.loop (G := Nat) (fun k => Env.of [(28, .d (.v (.int .i64 (k : Int)))), (26, .d (.sl (ws.map intD))), (27, .d (.v (.int .i64 ((ws.map intD).length : Int)))), (6, .d (.v (.int .i64 (ws.take k).sum))), (0, .d (.v (.int .i64 t))), (1, .d (.sl (ws.map intD)))]) (fun k => []) (fun k => k ≤ ws.length ∧ ∀ w ∈ ws.take k, 0 ≤ w ∧ w ≤ 1000000000) (fun k => ws.length - k) 0 ⟨Nat.zero_le _, fun w hw => by simp at hw⟩ (Sub.less ⟨(SLe.of_eq rfl), SLe.refl _, SLe.refl _, (SLe.i64 rfl), SLe.refl _, SLe.refl _, trivial⟩ (fun _ h => h)) ?_
        intro k hk
        refine AWP.seq ?_
        refine AWP.region ?_
        refine AOps.step rfl rfl rfl (AOp.lss rfl rfl rfl) ?_
        refine AOps.nil ?_
        refine AWP.seq ?_
        refine AWP.cond rfl (fun h4 => ?_) (fun h4 => ?_)
        · replace h4 := of_decide_eq_true h4
          rw [List.length_map] at h4
          have hlt : k < ws.length := by omega
          have hsb := sum_bnd (l := ws.take k) hk.2
          have htl : ((ws.take k).length : Int) ≤ 500 := by rw [List.length_take]; omega
          have hts := take_sum hlt
          refine AWP.skip ?_
          refine AWP.seq ?_
          refine AWP.block ?_
          refine AWP.seq ?_
          refine AWP.region ?_
          refine AOps.step rfl rfl rfl (AOp.indexAddr rfl et_22 rfl rfl k rfl (at_list hlt) rfl) ?_
          refine AOps.step rfl rfl rfl (AOp.load rfl sc_3 rfl) ?_
          refine AOps.step rfl rfl rfl (AOp.assignD rfl rfl) ?_
          refine AOps.nil ?_
          refine AWP.seq ?_
          refine AWP.seq ?_
          refine AWP.region ?_
          refine AOps.step rfl rfl rfl (AOp.moveD rfl rfl) ?_
          refine AOps.step rfl rfl rfl (AOp.call rfl (.cons (ArgOk.rfl' rfl) (.cons (ArgOk.rfl' rfl) (.cons (ArgOk.rfl' rfl) .nil))) (c_rWithin _ _ _)) ?_
          refine AOps.step rfl rfl rfl (AOp.not rfl rfl) ?_
          refine AOps.nil ?_
          refine AWP.cond rfl (fun h5 => ?_) (fun h5 => ?_)
          · replace h5 := bnot_t h5; replace h5 := of_decide_eq_false h5
            have HF := div_1w (t := t) g0 g1 g2 ⟨_, List.getElem_mem hlt, h5⟩
            have HR := divR_bad (t := t) (ws := ws) (by rw [HF]; decide)
            rw [HR, HF]
            refine AWP.seq ?_
            refine AWP.region ?_
            refine AOps.step rfl rfl rfl (AOp.assignD rfl rfl) ?_
            refine AOps.step rfl rfl rfl (AOp.assignD rfl rfl) ?_
            refine AOps.nil ?_
            refine AWP.ret ?_
            refine ⟨RetD.nil rfl, RetD.eq rfl ?_, trivial⟩
            all_goals (first | rfl | (rw [Int.toNat_natCast]))
          · replace h5 := bnot_f h5; replace h5 := of_decide_eq_true h5
            have hN := take_next hlt hk.2 h5
            refine AWP.skip ?_
            refine AWP.region ?_
            refine AOps.step rfl rfl rfl (AOp.moveD rfl rfl) ?_
            refine AOps.step rfl rfl rfl (AOp.moveD rfl rfl) ?_
            refine AOps.step rfl rfl rfl (AOp.add64 rfl rfl rfl (by omega) (by omega)) ?_
            refine AOps.step rfl rfl rfl (AOp.assignD rfl rfl) ?_
            refine AOps.nil ?_
            refine AWP.region ?_
            refine AOps.step rfl rfl rfl (AOp.add64 rfl rfl rfl (by omega) (by omega)) ?_
            refine AOps.step rfl rfl rfl (AOp.moveD rfl rfl) ?_
            refine AOps.nil ?_
            refine ⟨k + 1, ⟨by omega, hN⟩, (by dsimp only; omega), Sub.less ⟨(SLe.of_eq rfl), SLe.refl _, SLe.refl _, (SLe.i64 (by rw [hts])), SLe.refl _, SLe.refl _, trivial⟩ (fun _ h => h)⟩
        · replace h4 := of_decide_eq_false h4
          rw [List.length_map] at h4
          obtain rfl : k = ws.length := by omega
          rw [List.take_length]
          have hall := all_take hk.2
          have HD := div_in (t := t) g0 g1 g2 hall
          have hsb := sum_bnd hall
          refine AWP.exit ?_
          refine AWP.seq ?_
          refine AWP.seq ?_
          refine AWP.region ?_
          refine AOps.step rfl rfl rfl (AOp.moveD rfl rfl) ?_
          refine AOps.step rfl rfl rfl (AOp.eql rfl rfl rfl) ?_
          refine AOps.nil ?_
          refine AWP.cond rfl (fun h6 => ?_) (fun h6 => ?_)
          · replace h6 := of_decide_eq_true h6
            have HF : divFault t ws = 13 := HD.trans (if_pos h6)
            have HR := divR_bad (t := t) (ws := ws) (by rw [HF]; decide)
            rw [HR, HF]
            refine AWP.seq ?_
            refine AWP.region ?_
            refine AOps.step rfl rfl rfl (AOp.assignD rfl rfl) ?_
            refine AOps.step rfl rfl rfl (AOp.assignD rfl rfl) ?_
            refine AOps.nil ?_
            refine AWP.ret ?_
            refine ⟨RetD.nil rfl, RetD.eq rfl ?_, trivial⟩
            all_goals (first | rfl | (rw [Int.toNat_natCast]))
          · replace h6 := of_decide_eq_false h6
            have HF : divFault t ws = 0 := HD.trans (if_neg h6)
            have ok : DivOk t ws := ⟨by omega, by omega, g2, hall, by omega⟩
            have hs := ok.s0
            have hn0 := ok.n0
            have hn1 := ok.n1
            have HR : divR t ws = rowF (outF t ws (leftTo t ws ws.length).toNat) ws.length := if_pos HF
            rw [HR, HF]
            refine AWP.skip ?_
            refine AWP.seq ?_
            refine AWP.drawFresh 8 [⟨43, 101, .own 101, .row 3 1 (List.replicate ws.length [.v (.int .i64 0)])⟩, ⟨46, 102, .own 102, .row 3 1 (List.replicate ws.length [.v (.int .i64 0)])⟩] (FrOk.two rfl (by simp) rfl rfl rfl rfl (by simp) rfl rfl rfl (Nat.ne_of_beq_eq_false rfl) (Nat.ne_of_beq_eq_false rfl) rfl rfl rfl rfl) (by kernel_rfl) (by kernel_rfl) (by kernel_rfl) (by kernel_rfl) ?_
            refine XRun.step rfl rfl rfl (AOp.moveD rfl rfl) ?_
            refine XRun.step rfl rfl rfl (AOp.lenSl rfl et_22.ht rfl) ?_
            refine XRun.make _ (.head _) ws.length rfl rfl rfl rfl rfl et_22 rfl rfl (by rw [List.length_map]) (by omega) (by omega) rfl rfl rfl ?_
            refine XRun.step rfl rfl rfl (AOp.moveD rfl rfl) ?_
            refine XRun.step rfl rfl rfl (AOp.lenSl rfl et_22.ht rfl) ?_
            refine XRun.make _ (.tail _ (.head _)) ws.length rfl rfl rfl rfl rfl et_22 rfl rfl (by rw [List.length_map]) (by omega) (by omega) rfl rfl rfl ?_
            refine XRun.step rfl rfl rfl (AOp.assignO rfl rfl) ?_
            refine XRun.step rfl rfl rfl (AOp.assignO rfl rfl) ?_
            refine XRun.nil ⟨rfl, rfl, trivial⟩ ?_
            refine AOps.nil ?_
            refine AWP.seq ?_
            refine AWP.region ?_
            refine AOps.step rfl rfl rfl (AOp.moveD rfl rfl) ?_
            refine AOps.step rfl rfl rfl (AOp.assignD rfl rfl) ?_
            refine AOps.nil ?_
            refine AWP.seq ?_
            refine AWP.seq ?_
            refine AWP.region ?_
            refine AOps.step rfl rfl rfl (AOp.moveD rfl rfl) ?_
            refine AOps.step rfl rfl rfl (AOp.lenSl rfl et_22.ht rfl) ?_
            refine AOps.step rfl rfl rfl (AOp.moveD rfl rfl) ?_
            refine AOps.nil ?_
            refine AWP.block ?_
            refine AWP.loop (G := Nat) (fun k => Env.of [(50, .d (.v (.int .i64 (k : Int)))), (48, .d (.sl (ws.map intD))), (49, .d (.v (.int .i64 ((ws.map intD).length : Int)))), (9, .own 101), (10, .own 102), (11, .d (.v (.int .i64 (leftTo t ws k)))), (6, .d (.v (.int .i64 ws.sum))), (0, .d (.v (.int .i64 t))), (1, .d (.sl (ws.map intD)))]) (fun k => [(101, .row 3 1 (rowF (fun i => if i < k then qAt t ws i else 0) ws.length)), (102, .row 3 1 (rowF (fun i => if i < k then rAt t ws i else 0) ws.length))]) (fun k => k ≤ ws.length) (fun k => ws.length - k) 0 (Nat.zero_le _) (Sub.less ⟨(SLe.of_eq rfl), SLe.refl _, SLe.refl _, SLe.refl _, SLe.refl _, (SLe.i64 (by simp [leftTo])), SLe.refl _, SLe.refl _, SLe.refl _, trivial⟩ (rows_2 ((rowF_zero _).trans (rowF_congr fun i _ => by simp)) ((rowF_zero _).trans (rowF_congr fun i _ => by simp)))) ?_
            intro k hk
            refine AWP.seq ?_
            refine AWP.region ?_
            refine AOps.step rfl rfl rfl (AOp.lss rfl rfl rfl) ?_
            refine AOps.nil ?_
            refine AWP.seq ?_
            refine AWP.cond rfl (fun h7 => ?_) (fun h7 => ?_)
            · replace h7 := of_decide_eq_true h7
              rw [List.length_map] at h7
              have hlt : k < ws.length := by omega
              have m1 := mul_bnd g2 (hall _ (List.getElem_mem hlt))
              have hq : qAt t ws k = t * ws[k] / ws.sum := by unfold qAt; rw [wAt_eq hlt]
              have hqb := ok.qB hlt
              have hl1 := ok.leftB (k := k) (by omega)
              have hl2 := leftTo_succ t ws k
              rw [hq] at hqb hl2
              have hr : rAt t ws k = t * ws[k] % ws.sum := by unfold rAt; rw [wAt_eq hlt]
              refine AWP.skip ?_
              refine AWP.seq ?_
              refine AWP.block ?_
              refine AWP.seq ?_
              refine AWP.region ?_
              refine AOps.step rfl rfl rfl (AOp.moveD rfl rfl) ?_
              refine AOps.step rfl rfl rfl (AOp.indexAddr rfl et_22 rfl rfl k rfl (at_list hlt) rfl) ?_
              refine AOps.step rfl rfl rfl (AOp.load rfl sc_3 rfl) ?_
              refine AOps.step rfl rfl rfl (AOp.assignD rfl rfl) ?_
              refine AOps.step rfl rfl rfl (AOp.assignD rfl rfl) ?_
              refine AOps.nil ?_
              refine AWP.seq ?_
              refine AWP.drawG (fun k => (Nat.beq k 15 || Nat.beq k 17) || (Nat.beq k 14 || Nat.beq k 16)) (fun k => Nat.beq k 15 || Nat.beq k 17) (fun k h => Bool.or_eq_true_iff.2 (.inl h)) (by kernel_rfl) (by kernel_rfl) (by kernel_rfl) ?_
              refine GRun.step rfl rfl rfl (fun _ => AOp.moveO rfl rfl) ?_
              refine GRun.step rfl rfl rfl (fun _ => AOp.moveD rfl rfl) ?_
              refine GRun.step rfl rfl rfl (fun _ => AOp.moveO rfl rfl) ?_
              refine GRun.step rfl rfl rfl (fun _ => AOp.moveD rfl rfl) ?_
              refine GRun.step rfl rfl rfl (fun _ => AOp.moveD rfl rfl) ?_
              refine GRun.step rfl rfl rfl (fun _ => AOp.moveD rfl rfl) ?_
              refine GRun.step rfl rfl rfl (fun _ => AOp.mul64 rfl rfl rfl (by omega) (by omega)) ?_
              refine GRun.step rfl rfl rfl (fun _ => AOp.moveD rfl rfl) ?_
              refine GRun.step rfl rfl rfl (fun _ => AOp.quo64 rfl rfl rfl (by omega) (by omega) (by omega)) ?_
              refine GRun.step rfl rfl rfl (fun _ => AOp.moveD rfl rfl) ?_
              refine GRun.step rfl rfl rfl (fun _ => AOp.moveD rfl rfl) ?_
              refine GRun.step rfl rfl rfl (fun _ => AOp.mul64 rfl rfl rfl (by omega) (by omega)) ?_
              refine GRun.step rfl rfl rfl (fun _ => AOp.moveD rfl rfl) ?_
              refine GRun.step rfl rfl rfl (fun _ => AOp.rem64 rfl rfl rfl (by omega) (by omega)) ?_
              refine GRun.stepS rfl rfl rfl rfl (AOp.indexOwn rfl et_22 rfl rfl (.head _) k rfl (by rw [rowF_len]; exact hlt)) ?_
              refine GRun.eff rfl rfl rfl (EOp.storeRow rfl rfl sz_3 rfl (.head _) rfl rfl rfl k 0 rfl (rowF_at hlt) (Nat.le_of_ble_eq_true rfl)) ?_
              refine GRun.stepS rfl rfl rfl rfl (AOp.indexOwn rfl et_22 rfl rfl (.tail _ (.head _)) k rfl (by rw [rowF_len]; exact hlt)) ?_
              refine GRun.eff rfl rfl rfl (EOp.storeRow rfl rfl sz_3 rfl (.tail _ (.head _)) rfl rfl rfl k 0 rfl (rowF_at hlt) (Nat.le_of_ble_eq_true rfl)) ?_
              refine GRun.nil ?_
              refine AWP.region ?_
              refine AOps.step rfl rfl rfl (AOp.moveD rfl rfl) ?_
              refine AOps.step rfl rfl rfl (AOp.moveO rfl rfl) ?_
              refine AOps.step rfl rfl rfl (AOp.moveD rfl rfl) ?_
              refine AOps.step rfl rfl rfl (AOp.indexOwn rfl et_22 rfl rfl (.head _) k rfl (by rw [List.length_set, rowF_len]; exact hlt)) ?_
              refine AOps.step rfl rfl rfl (AOp.loadRow rfl sc_3 rfl (.head _) k 0 rfl (List.getElem?_set_self (by rw [rowF_len]; exact hlt)) rfl) ?_
              refine AOps.step rfl rfl rfl (AOp.sub64 rfl rfl rfl (by omega) (by omega)) ?_
              refine AOps.step rfl rfl rfl (AOp.assignD rfl rfl) ?_
              refine AOps.nil ?_
              refine AWP.region ?_
              refine AOps.step rfl rfl rfl (AOp.add64 rfl rfl rfl (by omega) (by omega)) ?_
              refine AOps.step rfl rfl rfl (AOp.moveD rfl rfl) ?_
              refine AOps.nil ?_
              refine ⟨k + 1, (by omega), (by dsimp only; omega), Sub.less ⟨(SLe.of_eq rfl), SLe.refl _, SLe.refl _, SLe.refl _, SLe.refl _, (SLe.i64 (by rw [hl2])), SLe.refl _, SLe.refl _, SLe.refl _, trivial⟩ (rows_2 (rowF_set hlt fun i _ => by rw [← hq]; exact step_if (qAt t ws) k i) (rowF_set hlt fun i _ => by rw [← hr]; exact step_if (rAt t ws) k i))⟩
            · replace h7 := of_decide_eq_false h7
              rw [List.length_map] at h7
              obtain rfl : k = ws.length := by omega
              have hl1 := ok.leftB (k := ws.length) (Nat.le_refl _)
              have hlN := ok.leftN
              obtain ⟨L, hL⟩ : ∃ L : Nat, leftTo t ws ws.length = (L : Int) := ⟨(leftTo t ws ws.length).toNat, by omega⟩
              rw [hL] at hlN
              have hol := ordL_len t ws
              rw [hL]
              have HO : rowF (fun i => if i < ws.length then rAt t ws i else 0) ws.length = rowF (restF t ws 0) ws.length := rowF_congr fun i hi => by rw [if_pos hi]; unfold restF pick; simp
              have HQ : rowF (fun i => if i < ws.length then qAt t ws i else 0) ws.length = rowF (outF t ws 0) ws.length := rowF_congr fun i hi => by rw [if_pos hi]; unfold outF pick; simp
              rw [HO, HQ]
              refine AWP.exit ?_
              refine AWP.seq ?_
              refine AWP.seq ?_
              refine AWP.region ?_
              refine AOps.step rfl rfl rfl (AOp.moveD rfl rfl) ?_
              refine AOps.step rfl rfl rfl (AOp.moveD rfl rfl) ?_
              refine AOps.nil ?_
              refine AWP.block ?_
              refine AWP.loop (G := Nat) (fun j => Env.of [(79, .d (.v (.int .i64 (j : Int)))), (78, .d (.v (.int .i64 (L : Int)))), (9, .own 101), (10, .own 102)]) (fun j => [(101, .row 3 1 (rowF (outF t ws j) ws.length)), (102, .row 3 1 (rowF (restF t ws j) ws.length))]) (fun j => j ≤ L) (fun j => L - j) 0 (Nat.zero_le _) (Sub.less ⟨(SLe.i64 rfl), SLe.refl _, SLe.refl _, SLe.refl _, trivial⟩ (rows_2 rfl rfl)) ?_
              intro j hj
              refine AWP.seq ?_
              refine AWP.region ?_
              refine AOps.step rfl rfl rfl (AOp.lss rfl rfl rfl) ?_
              refine AOps.nil ?_
              refine AWP.seq ?_
              refine AWP.cond rfl (fun h8 => ?_) (fun h8 => ?_)
              · replace h8 := of_decide_eq_true h8
                have hjL : j < L := by omega
                have hjo : j < (ordL t ws).length := by omega
                refine AWP.skip ?_
                refine AWP.seq ?_
                refine AWP.block ?_
                refine AWP.seq ?_
                refine AWP.region ?_
                refine AOps.step rfl rfl rfl (AOp.assignD rfl rfl) ?_
                refine AOps.nil ?_
                refine AWP.seq ?_
                refine AWP.seq ?_
                refine AWP.region ?_
                refine AOps.step rfl rfl rfl (AOp.moveO rfl rfl) ?_
                refine AOps.step rfl rfl rfl (AOp.lenOwn rfl et_22.ht rfl (.tail _ (.head _))) ?_
                refine AOps.step rfl rfl rfl (AOp.moveD rfl rfl) ?_
                refine AOps.nil ?_
                refine AWP.block ?_
                refine AWP.loop (G := Nat × Nat) (fun g => Env.of [(83, .d (.v (.int .i64 (g.1 : Int)))), (14, .d (.v (.int .i64 (g.2 : Int)))), (81, .own 102), (82, .d (.v (.int .i64 (((rowF (restF t ws j) ws.length).length : Nat) : Int)))), (79, .d (.v (.int .i64 (j : Int)))), (78, .d (.v (.int .i64 (L : Int)))), (9, .own 101), (10, .own 102)]) (fun g => [(101, .row 3 1 (rowF (outF t ws j) ws.length)), (102, .row 3 1 (rowF (restF t ws j) ws.length))]) (fun g => g.1 ≤ ws.length ∧ g.2 < ws.length ∧ g.2 ≤ g.1 ∧ FstMax (restF t ws j) g.1 g.2) (fun g => ws.length - g.1) (0, 0) ⟨Nat.zero_le _, hn0, Nat.le_refl _, fst_start _⟩ (Sub.less ⟨(SLe.i64 rfl), (SLe.i64 rfl), SLe.refl _, SLe.refl _, SLe.refl _, SLe.refl _, SLe.refl _, SLe.refl _, trivial⟩ (rows_2 rfl rfl)) ?_
                rintro ⟨i, b⟩ ⟨hi, hb, hbi, hF⟩
                dsimp only at hi hb hbi hF ⊢
                refine AWP.seq ?_
                refine AWP.region ?_
                refine AOps.step rfl rfl rfl (AOp.lss rfl rfl rfl) ?_
                refine AOps.nil ?_
                refine AWP.seq ?_
                refine AWP.cond rfl (fun h9 => ?_) (fun h9 => ?_)
                · replace h9 := of_decide_eq_true h9
                  rw [rowF_len] at h9
                  have hin : i < ws.length := by omega
                  refine AWP.skip ?_
                  refine AWP.seq ?_
                  refine AWP.block ?_
                  refine AWP.seq ?_
                  refine AWP.region ?_
                  refine AOps.step rfl rfl rfl (AOp.moveD rfl rfl) ?_
                  refine AOps.step rfl rfl rfl (AOp.indexOwn rfl et_22 rfl rfl (.tail _ (.head _)) i rfl (by rw [rowF_len]; exact hin)) ?_
                  refine AOps.step rfl rfl rfl (AOp.loadRow rfl sc_3 rfl (.tail _ (.head _)) i 0 rfl (rowF_at hin) rfl) ?_
                  refine AOps.step rfl rfl rfl (AOp.assignD rfl rfl) ?_
                  refine AOps.step rfl rfl rfl (AOp.assignD rfl rfl) ?_
                  refine AOps.nil ?_
                  refine AWP.seq ?_
                  refine AWP.region ?_
                  refine AOps.step rfl rfl rfl (AOp.moveD rfl rfl) ?_
                  refine AOps.step rfl rfl rfl (AOp.moveO rfl rfl) ?_
                  refine AOps.step rfl rfl rfl (AOp.moveD rfl rfl) ?_
                  refine AOps.step rfl rfl rfl (AOp.indexOwn rfl et_22 rfl rfl (.tail _ (.head _)) b rfl (by rw [rowF_len]; exact hb)) ?_
                  refine AOps.step rfl rfl rfl (AOp.loadRow rfl sc_3 rfl (.tail _ (.head _)) b 0 rfl (rowF_at hb) rfl) ?_
                  refine AOps.step rfl rfl rfl (AOp.gtr rfl rfl rfl) ?_
                  refine AOps.nil ?_
                  refine AWP.cond rfl (fun h10 => ?_) (fun h10 => ?_)
                  · replace h10 := of_decide_eq_true h10
                    have HN := fst_up hF h10
                    refine AWP.region ?_
                    refine AOps.step rfl rfl rfl (AOp.moveD rfl rfl) ?_
                    refine AOps.step rfl rfl rfl (AOp.assignD rfl rfl) ?_
                    refine AOps.nil ?_
                    refine AWP.region ?_
                    refine AOps.step rfl rfl rfl (AOp.add64 rfl rfl rfl (by omega) (by omega)) ?_
                    refine AOps.step rfl rfl rfl (AOp.moveD rfl rfl) ?_
                    refine AOps.nil ?_
                    refine ⟨(i + 1, i), ⟨by dsimp only; omega, by dsimp only; omega, by dsimp only; omega, HN⟩, (by dsimp only; omega), Sub.less ⟨(SLe.i64 rfl), SLe.refl _, SLe.refl _, SLe.refl _, SLe.refl _, SLe.refl _, SLe.refl _, SLe.refl _, trivial⟩ (rows_2 rfl rfl)⟩
                  · replace h10 := of_decide_eq_false h10
                    have HN := fst_same hF hbi h10
                    refine AWP.skip ?_
                    refine AWP.region ?_
                    refine AOps.step rfl rfl rfl (AOp.add64 rfl rfl rfl (by omega) (by omega)) ?_
                    refine AOps.step rfl rfl rfl (AOp.moveD rfl rfl) ?_
                    refine AOps.nil ?_
                    refine ⟨(i + 1, b), ⟨by dsimp only; omega, hb, by dsimp only; omega, HN⟩, (by dsimp only; omega), Sub.less ⟨(SLe.i64 rfl), SLe.refl _, SLe.refl _, SLe.refl _, SLe.refl _, SLe.refl _, SLe.refl _, SLe.refl _, trivial⟩ (rows_2 rfl rfl)⟩
                · replace h9 := of_decide_eq_false h9
                  rw [rowF_len] at h9
                  obtain rfl : i = ws.length := by omega
                  have hbe : b = (ordL t ws)[j].1.val := fstMax_one hb (ordL t ws)[j].1.isLt hF (next_max hs hjo)
                  subst hbe
                  have hob := ok.outB j (ordL t ws)[j].1.isLt
                  refine AWP.exit ?_
                  refine AWP.seq ?_
                  refine AWP.region ?_
                  refine AOps.step rfl rfl rfl (AOp.moveO rfl rfl) ?_
                  refine AOps.step rfl rfl rfl (AOp.moveD rfl rfl) ?_
                  refine AOps.step rfl rfl rfl (AOp.indexOwn rfl et_22 rfl rfl (.head _) (ordL t ws)[j].1.val rfl (by rw [rowF_len]; exact hb)) ?_
                  refine AOps.step rfl rfl rfl (AOp.loadRow rfl sc_3 rfl (.head _) (ordL t ws)[j].1.val 0 rfl (rowF_at hb) rfl) ?_
                  refine AOps.step rfl rfl rfl (AOp.add64 rfl rfl rfl (by omega) (by omega)) ?_
                  refine AOps.step rfl rfl rfl (AOp.indexOwn rfl et_22 rfl rfl (.head _) (ordL t ws)[j].1.val rfl (by rw [rowF_len]; exact hb)) ?_
                  refine AOps.storeRow rfl rfl rfl sz_3 rfl (.head _) rfl rfl rfl (ordL t ws)[j].1.val 0 rfl (rowF_at hb) (Nat.le_of_ble_eq_true rfl) ?_
                  refine AOps.nil ?_
                  refine AWP.region ?_
                  refine AOps.step rfl rfl rfl (AOp.moveO rfl rfl) ?_
                  refine AOps.step rfl rfl rfl (AOp.moveD rfl rfl) ?_
                  refine AOps.step rfl rfl rfl (AOp.indexOwn rfl et_22 rfl rfl (.tail _ (.head _)) (ordL t ws)[j].1.val rfl (by rw [rowF_len]; exact hb)) ?_
                  refine AOps.storeRow rfl rfl rfl sz_3 rfl (.tail _ (.head _)) rfl rfl rfl (ordL t ws)[j].1.val 0 rfl (rowF_at hb) (Nat.le_of_ble_eq_true rfl) ?_
                  refine AOps.nil ?_
                  refine AWP.region ?_
                  refine AOps.step rfl rfl rfl (AOp.add64 rfl rfl rfl (by omega) (by omega)) ?_
                  refine AOps.step rfl rfl rfl (AOp.moveD rfl rfl) ?_
                  refine AOps.nil ?_
                  refine ⟨j + 1, (by omega), (by dsimp only; omega), Sub.less ⟨(SLe.i64 rfl), SLe.refl _, SLe.refl _, SLe.refl _, trivial⟩ (rows_2 (rowF_set hb fun i _ => outF_succ hjo i) (rowF_set hb fun i _ => restF_succ hjo i))⟩
              · replace h8 := of_decide_eq_false h8
                obtain rfl : j = L := by omega
                refine AWP.exit ?_
                refine AWP.seq ?_
                refine AWP.region ?_
                refine AOps.step rfl rfl rfl (AOp.moveO rfl rfl) ?_
                refine AOps.step rfl rfl rfl (AOp.assignO rfl rfl) ?_
                refine AOps.step rfl rfl rfl (AOp.assignD rfl rfl) ?_
                refine AOps.nil ?_
                refine AWP.ret ?_
                refine ⟨RetD.own rfl (.head _) ?_, RetD.eq rfl ?_, trivial⟩
                all_goals (first | rfl | (rw [Int.toNat_natCast]))

end Go.Proofs.Ytpihcfpdaoflbaa
