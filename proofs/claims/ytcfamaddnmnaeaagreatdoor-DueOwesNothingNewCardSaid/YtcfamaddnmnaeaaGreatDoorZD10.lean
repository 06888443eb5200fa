/- Walks and laws over abstract values, merged by tools/merge.py. No statement of the seat. -/
import Derived.Test.YtcfamaddnmnaeaaGreatDoorZD9

namespace Go.Proofs.YtcfamaddnmnaeaaGreatDoor
open Go.RowKit
set_option linter.unusedVariables false

/-! Types. -/
namespace TyIL
theorem bu_108 : StructT Tryz.prog 108 (fun i => (#[(0, 7), (7, 1), (8, 1)] : Array (Nat × Nat))[i]?) [(.slice none 0 0), (.slice none 0 0), (.slice none 0 0), (.int .i64 0), (.slice none 0 0), (.slice none 0 0), (.slice none 0 0), (.slice none 0 0), (.slice none 0 0)] := .of (by kernel_rfl) (by kernel_rfl) (by decide)
theorem bu_40 : StructT Tryz.prog 40 (fun i => (#[(0, 3), (3, 1), (4, 1), (5, 1), (6, 1)] : Array (Nat × Nat))[i]?) [(.slice none 0 0), (.slice none 0 0), (.slice none 0 0), (.int .i64 0), (.slice none 0 0), (.slice none 0 0), (.slice none 0 0)] := .of (by kernel_rfl) (by kernel_rfl) (by decide)
theorem et_41 : ElemTy Tryz.prog 41 59 7 96 (.agg #[(.int .i64 0), (.string ⟨#[]⟩), (.slice none 0 0), (.int .i64 0), (.int .i64 0), (.slice none 0 0), (.int .i64 0)]) := ⟨by kernel_rfl, by kernel_rfl, by kernel_rfl, by decide⟩
theorem sz_40 : ∀ w, (sizeOf 40).run Tryz.prog w = .ok 7 w := SizeT.of (by kernel_rfl)
theorem zt_40 : (Tryz.prog.info? 40).bind (·.zero) = some (.agg #[(.slice none 0 0), (.slice none 0 0), (.slice none 0 0), (.int .i64 0), (.slice none 0 0), (.slice none 0 0), (.slice none 0 0)]) := by kernel_rfl
end TyIL
open TyF0 TyF1 TyF2 TyF3 TyF4 TyF5 TyF6 TyF11 TyG1 TyG2 TyG5 TyU1 TyU2 TyU3 TyU4 TyM1 TyM2 TyM3 TyM7 TyM8 TyM9 TyO1 TyM10 TyO2 TyU5 TyU6 TyU7 TyU8 TyIA TyIC TyIB TyID TyO3 TyM11 TyO6 TyO7 TyG3 TyIE TyIF TyIG TyIJ TyIK TyIH TyIL

open Go.Lib
set_option linter.unusedSimpArgs false
theorem AWP.forget {cx : Cx} {c : Code} {e : Env} {σ : Obs} {Q : Post} (id off : Nat) {ss : List S} {s : S} (hm : (id, Ob.cells ss) ∈ σ) (hs : ss[off]? = some s) (k : AWP cx c e (Obs.upd id (.cells (ss.set off (.d .any))) σ) Q) : AWP cx c e σ Q := fun a w ⟨F, ρ, hr⟩ => k a w ⟨F, ρ, hr.recell hm hs (fun x _ => .d (.any _))⟩
theorem in7 {σ : Obs} {n o p q r s t : Nat × Ob} (hn : n ∈ σ) (h0 : o ∈ σ) (h1 : p ∈ σ) (h2 : q ∈ σ) (h3 : r ∈ σ) (h4 : s ∈ σ) (h5 : t ∈ σ) : ∀ x ∈ [n, o, p, q, r, s, t], x ∈ σ := fun x hx => by
  rcases List.mem_cons.1 hx with rfl | hx
  · exact hn
  · exact in6 h0 h1 h2 h3 h4 h5 x hx
theorem iss_ask {b : Bks} {l : List Rpt} (h : askB b l ≠ 0) : issF b l = askB b l := if_pos h
theorem iss_11 {b : Bks} {l : List Rpt} (h : ¬ askB b l ≠ 0) (h1 : 2400 < b.next) : issF b l = 11 := (if_neg h).trans (if_pos h1)
theorem iss_d {b : Bks} {l : List Rpt} (h : ¬ askB b l ≠ 0) (h1 : ¬ 2400 < b.next) (h2 : ffst (dlK (salB b l) b) b.ctr.deals.length ≠ 0) : issF b l = ffst (dlK (salB b l) b) b.ctr.deals.length := (if_neg h).trans ((if_neg h1).trans (if_pos h2))
theorem iss_g {b : Bks} {l : List Rpt} (h : ¬ askB b l ≠ 0) (h1 : ¬ 2400 < b.next) (h2 : ffst (dlK (salB b l) b) b.ctr.deals.length = 0) : issF b l = ffst (gpK (salB b l) b) b.ctr.groups.length := (if_neg h).trans ((if_neg h1).trans (if_neg (fun hh => hh h2)))
theorem issB_bad {b : Bks} {l : List Rpt} (h : issF b l ≠ 0) : issB b l = zBks := if_neg h
theorem issS_bad {b : Bks} {l : List Rpt} (h : issF b l ≠ 0) : issS b l = [] := if_neg h
theorem issB_ok {b : Bks} {l : List Rpt} (h : issF b l = 0) : issB b l = ⟨b.ctr, b.next + 1, nowsB (salB b l) b, hldR (salB b l) b.next b.held (dls b), balsB (salB b l) b⟩ := if_pos h
theorem issS_ok {b : Bks} {l : List Rpt} (h : issF b l = 0) : issS b l = stmsB (salB b l) b := if_pos h

set_option maxRecDepth 100000 in
set_option maxHeartbeats 8000000 in
theorem c_pIss (b : Bks) (l : List Rpt) (hb : okBks b) (ho : ∀ x ∈ l, okRpt x) : ACallT Tryz.prog MaxT 14 [.agg b.ds, .sl (l.map Rpt.ds)] (.tup [.agg (issB b l).ds, .sl ((issS b l).map Stm.ds), .v (.int .i64 (issF b l))]) := by
 refine acall_ofRT (n := 107) (ds' := [.agg (issB b l).ds, .sl ((issS b l).map Stm.ds), .v (.int .i64 (issF b l))]) Tryz.func14 rfl (by kernel_rfl) rfl [.cell 4 40, .tmp 5, .tmp 6] rfl rfl ?_
 intro B w0 F0 hT
 refine .sr ?_
 refine .boxOwn 700 rfl rfl rfl rfl rfl rfl rfl ?_
 refine .alloc 710 rfl rfl rfl rfl zt_40 rfl rfl rfl ?_
 refine .aA ?_
 refine .aA (.nil ?_)
 refine .seq ?_
 refine .sr ?_
 refine .sA (.loadPU rfl ag_40 rfl (.tail _ (.head _)) rfl rfl) ?_
 refine .mA ?_
 -- wants the world
 refine .callT rfl rfl rfl hT maxT_stays rfl (.cons (.rfl' rfl) (.cons (.rfl' rfl) .nil)) (c_pCkI b l hb ho) ?_
 refine .aA (.nil ?_)
 refine .sr ?_
 refine .mA ?_
 refine .sA (.neq rfl rfl rfl) (.nil ?_)
 refine .cond rfl (fun h1 => ?_) (fun h1 => ?_)
 ·replace h1 := of_decide_eq_true h1
  have HF := iss_ask h1
  rw [issB_bad (by rw [HF]; exact h1), issS_bad (by rw [HF]; exact h1), HF]
  refine .sr ?_
  refine .sA (.build rfl bu_40 .nil rfl) ?_
  refine .mA ?_
  refine .store rfl rfl rfl sz_40 rfl (.head _) rfl rfl rfl (Nat.le_of_ble_eq_true rfl) ?_
  refine .aA ?_
  refine .aA (.nil ?_)
  refine .ret ?_
  refine ⟨RetR.agg rfl (.head _) ag_40 rfl (.cons (by first | exact CellD.nil | exact CellD.d | exact CellD.eq (by simp) | (refine CellD.own (by first | exact .head _ | exact .tail _ (.head _)) ?_; rfl)) (.cons (by first | exact CellD.nil | exact CellD.d | exact CellD.eq (by simp) | (refine CellD.own (by first | exact .head _ | exact .tail _ (.head _)) ?_; rfl)) (.cons (by first | exact CellD.nil | exact CellD.d | exact CellD.eq (by simp) | (refine CellD.own (by first | exact .head _ | exact .tail _ (.head _)) ?_; rfl)) (.cons (by first | exact CellD.nil | exact CellD.d | exact CellD.eq (by simp) | (refine CellD.own (by first | exact .head _ | exact .tail _ (.head _)) ?_; rfl)) (.cons (by first | exact CellD.nil | exact CellD.d | exact CellD.eq (by simp) | (refine CellD.own (by first | exact .head _ | exact .tail _ (.head _)) ?_; rfl)) (.cons (by first | exact CellD.nil | exact CellD.d | exact CellD.eq (by simp) | (refine CellD.own (by first | exact .head _ | exact .tail _ (.head _)) ?_; rfl)) (.cons (by first | exact CellD.nil | exact CellD.d | exact CellD.eq (by simp) | (refine CellD.own (by first | exact .head _ | exact .tail _ (.head _)) ?_; rfl)) .nil))))))), RetD.nil rfl, RetD.eq rfl ?_, trivial⟩
  all_goals (first | rfl)
 replace h1 := of_decide_eq_false h1
 have h0 : ¬ askB b l ≠ 0 := h1
 obtain ⟨hbz, hlz⟩ := ask_0 (Decidable.not_not.1 h0)
 have okb := bkOk hbz
 have hlog := log_of hlz
 have okS : SalsOk (salB b l) := sals_ok hlog ho okb.als
 have hnx := okb.next
 have hdl := okb.dl
 have hgl := okb.gl
 have hzl := dls_len okb
 have hgz := gps_len okb
 refine .skip ?_
 refine .seq ?_
 refine .sr ?_
 refine .sA (.fieldAddrP rfl fo_40_1 rfl) ?_
 refine .sA (.loadP rfl sc_3 rfl (.tail _ (.head _)) rfl) ?_
 refine .sA (.gtr rfl rfl rfl) (.nil ?_)
 refine .cond rfl (fun h2 => ?_) (fun h2 => ?_)
 ·replace h2 := of_decide_eq_true h2
  have HF := iss_11 h0 h2
  rw [issB_bad (by rw [HF]; decide), issS_bad (by rw [HF]; decide), HF]
  refine .sr ?_
  refine .sA (.build rfl bu_40 .nil rfl) ?_
  refine .store rfl rfl rfl sz_40 rfl (.head _) rfl rfl rfl (Nat.le_of_ble_eq_true rfl) ?_
  refine .aA ?_
  refine .aA (.nil ?_)
  refine .ret ?_
  refine ⟨RetR.agg rfl (.head _) ag_40 rfl (.cons (by first | exact CellD.nil | exact CellD.d | exact CellD.eq (by simp) | (refine CellD.own (by first | exact .head _ | exact .tail _ (.head _)) ?_; rfl)) (.cons (by first | exact CellD.nil | exact CellD.d | exact CellD.eq (by simp) | (refine CellD.own (by first | exact .head _ | exact .tail _ (.head _)) ?_; rfl)) (.cons (by first | exact CellD.nil | exact CellD.d | exact CellD.eq (by simp) | (refine CellD.own (by first | exact .head _ | exact .tail _ (.head _)) ?_; rfl)) (.cons (by first | exact CellD.nil | exact CellD.d | exact CellD.eq (by simp) | (refine CellD.own (by first | exact .head _ | exact .tail _ (.head _)) ?_; rfl)) (.cons (by first | exact CellD.nil | exact CellD.d | exact CellD.eq (by simp) | (refine CellD.own (by first | exact .head _ | exact .tail _ (.head _)) ?_; rfl)) (.cons (by first | exact CellD.nil | exact CellD.d | exact CellD.eq (by simp) | (refine CellD.own (by first | exact .head _ | exact .tail _ (.head _)) ?_; rfl)) (.cons (by first | exact CellD.nil | exact CellD.d | exact CellD.eq (by simp) | (refine CellD.own (by first | exact .head _ | exact .tail _ (.head _)) ?_; rfl)) .nil))))))), RetD.nil rfl, RetD.eq rfl ?_, trivial⟩
  all_goals (first | rfl)
 replace h2 := of_decide_eq_false h2
 have h1n : ¬ 2400 < b.next := h2
 refine .skip ?_
 refine .sr ?_
 refine .mA ?_
 refine .sA (.fieldAddrP rfl fo_40_0 rfl) ?_
 refine .sA (.fieldAddrP rfl fo_36_0 rfl) ?_
 refine .sA (.loadP rfl sc_32 rfl (.tail _ (.head _)) rfl) ?_
 refine .sA (.call rfl (.cons (.rfl' rfl) (.cons (.rfl' rfl) .nil)) (c_sums l b.ctr.als hlog ho okb.als)) ?_
 refine .mA ?_
 refine .sA (.extract rfl rfl rfl) ?_
 refine .sA (.extract rfl rfl rfl) ?_
 refine .aA ?_
 refine .aA (.nil ?_)
 refine .seq ?_
 refine .drawFresh 13 [⟨41, 501, .own 501, .row 3 1 (b.stated.map intD)⟩, ⟨44, 502, .own 502, .row 105 3 (b.held.map Hld.ds)⟩, ⟨47, 503, .own 503, .row 3 1 (b.bal.map intD)⟩] (FrOk.three rfl (by simp) rfl rfl rfl rfl (by simp) rfl rfl rfl rfl (by simp) rfl rfl rfl (Nat.ne_of_beq_eq_false rfl) (Nat.ne_of_beq_eq_false rfl) (Nat.ne_of_beq_eq_false rfl) (Nat.ne_of_beq_eq_false rfl) (Nat.ne_of_beq_eq_false rfl) (Nat.ne_of_beq_eq_false rfl) ⟨rfl, rfl⟩ ⟨rfl, rfl⟩ ⟨rfl, rfl⟩ ⟨rfl, rfl⟩ ⟨rfl, rfl⟩ ⟨rfl, rfl⟩) (by kernel_rfl) (by kernel_rfl) (by kernel_rfl) (by kernel_rfl) ?_
 refine .step rfl rfl rfl (.fieldAddrP rfl fo_40_0 rfl) ?_ (hs := ⟨.inl rfl, .inl rfl, .inl rfl, trivial⟩)
 refine .step rfl rfl rfl (.loadPU rfl ag_36 rfl (.tail _ (.head _)) rfl rfl) ?_ (hs := ⟨.inl rfl, .inl rfl, .inl rfl, trivial⟩)
 refine .step rfl rfl rfl (.call rfl (.cons (.rfl' rfl) .nil) (c_ownCtr b.ctr (ctr_ok okb.ctr))) ?_ (hs := ⟨.inl rfl, .inl rfl, .inl rfl, trivial⟩)
 refine .step rfl rfl rfl (.fieldAddrP rfl fo_40_2 rfl) ?_ (hs := ⟨.inl rfl, .inl rfl, .inl rfl, trivial⟩)
 refine .step rfl rfl rfl (.loadP rfl sc_37 rfl (.tail _ (.head _)) rfl) ?_ (hs := ⟨.inl rfl, .inl rfl, .inl rfl, trivial⟩)
 refine .callO _ (.head _) rfl rfl rfl rfl rfl (.cons (.rfl' rfl) .nil) (c_clInt b.stated (by have := okb.sl; have := okb.dl; omega)) rfl rfl ?_
 refine .step rfl rfl rfl (.fieldAddrP rfl fo_40_3 rfl) ?_ (hs := ⟨.inl rfl, .inl rfl, .inl rfl, trivial⟩)
 refine .step rfl rfl rfl (.loadP rfl sc_38 rfl (.tail _ (.head _)) rfl) ?_ (hs := ⟨.inl rfl, .inl rfl, .inl rfl, trivial⟩)
 refine .callO _ (.tail _ (.head _)) rfl rfl rfl rfl rfl (.cons (.rfl' rfl) .nil) (c_clHld b.held (by have := held_len okb; omega)) rfl rfl ?_
 refine .step rfl rfl rfl (.fieldAddrP rfl fo_40_4 rfl) ?_ (hs := ⟨.inl rfl, .inl rfl, .inl rfl, trivial⟩)
 refine .step rfl rfl rfl (.loadP rfl sc_37 rfl (.tail _ (.head _)) rfl) ?_ (hs := ⟨.inl rfl, .inl rfl, .inl rfl, trivial⟩)
 refine .callO _ (.tail _ (.tail _ (.head _))) rfl rfl rfl rfl rfl (.cons (.rfl' rfl) .nil) (c_clInt b.bal (by have := okb.bl; have := okb.gl; omega)) rfl rfl ?_
 refine .step rfl rfl rfl (.fieldAddrP rfl fo_40_0 rfl) ?_ (hs := ⟨.inl rfl, .inl rfl, .inl rfl, trivial⟩)
 refine .nil ⟨rfl, rfl, rfl, trivial⟩ ?_
 refine .store rfl rfl rfl sz_36 rfl (.tail _ (.tail _ (.tail _ (.tail _ (.head _))))) rfl rfl rfl (Nat.le_of_ble_eq_true rfl) ?_
 refine .sA (.fieldAddrP rfl fo_40_2 rfl) ?_
 refine .storeS rfl rfl rfl sz_37 rfl (.tail _ (.tail _ (.tail _ (.tail _ (.head _))))) rfl (.head _) (Nat.le_of_ble_eq_true rfl) ?_
 refine .sA (.fieldAddrP rfl fo_40_3 rfl) ?_
 refine .storeS rfl rfl rfl sz_38 rfl (.tail _ (.tail _ (.tail _ (.tail _ (.head _))))) rfl (.tail _ (.head _)) (Nat.le_of_ble_eq_true rfl) ?_
 refine .sA (.fieldAddrP rfl fo_40_4 rfl) ?_
 refine .storeS rfl rfl rfl sz_37 rfl (.tail _ (.tail _ (.tail _ (.tail _ (.head _))))) rfl (.tail _ (.tail _ (.head _))) (Nat.le_of_ble_eq_true rfl) (.nil ?_)
 refine .sr ?_
 refine .loadVal 720 rfl rfl rfl rfl ag_40 rfl (.tail _ (.tail _ (.tail _ (.tail _ (.head _))))) (Nat.le_of_ble_eq_true rfl) rfl ?_
 refine .mA ?_
 refine .buildV 721 rfl rfl rfl rfl bu_108 rfl rfl rfl rfl rfl rfl rfl (.head _) rfl rfl rfl rfl ?_
 refine .boxVal 600 rfl rfl rfl rfl rfl (.head _) rfl ?_
 refine .sA (.assignP rfl rfl) (.nil ?_)
 refine .seq ?_
 refine .seq ?_
 refine .forget 700 4 (.tail _ (.tail _ (.tail _ (.tail _ (.tail _ (.tail _ (.tail _ (.head _)))))))) rfl ?_
 refine .forget 700 5 (.tail _ (.tail _ (.tail _ (.tail _ (.tail _ (.tail _ (.tail _ (.head _)))))))) rfl ?_
 refine .forget 700 6 (.tail _ (.tail _ (.tail _ (.tail _ (.tail _ (.tail _ (.tail _ (.head _)))))))) rfl ?_
 refine .adoptCell 504 114 5 600 8 (.head _) rfl rfl ?_
 refine .region ?_
 refine .sA (.fieldAddrP rfl fo_40_0 rfl) ?_
 refine .sA (.fieldAddrP rfl fo_36_1 rfl) ?_
 refine .sA (.loadP rfl sc_33 rfl (.tail _ (.tail _ (.tail _ (.tail _ (.tail _ (.tail _ (.tail _ (.tail _ (.head _))))))))) rfl) ?_
 refine .sA (.lenSl rfl et_33.ht rfl) ?_
 refine .mA (.nil ?_)
 refine .block ?_
 refine .loop (G := Nat) (fun k => Env.of [(60, .d (.v (.int .i64 (k : Int)))), (59, .d (.v (.int .i64 ((b.ctr.deals.map Deal.ds).length : Int)))), (10, .ptr 600 0), (4, .ptr 710 0), (2, .ptr 700 0)]) (fun k => [isC b.ctr b.next (salB b l), isT (tK (salB b l) b k), isH (lK (salB b l) b k), isB b.bal, isR (rK (salB b l) b k), (700, .cells [.d (.sl (b.ctr.als.map Ali.ds)), .d (.sl (b.ctr.deals.map Deal.ds)), .d (.sl (b.ctr.groups.map Grp.ds)), .d (.v (.int .i64 b.next)), .d .any, .d .any, .d .any]), (710, .cells [.d (.v (.slice none 0 0)), .d (.v (.slice none 0 0)), .d (.v (.slice none 0 0)), .d (.v (.int .i64 0)), .d (.v (.slice none 0 0)), .d (.v (.slice none 0 0)), .d (.v (.slice none 0 0))])]) (fun k => k ≤ b.ctr.deals.length ∧ ffst (dlK (salB b l) b) k = 0) (fun k => b.ctr.deals.length - k) 0 ⟨Nat.zero_le _, rfl⟩ (Sub.less ⟨(SLe.of_eq rfl), SLe.refl _, SLe.refl _, SLe.refl _, SLe.refl _, trivial⟩ (in7 (.tail _ (.head _)) (.tail _ (.tail _ (.tail _ (.tail _ (.head _))))) (.tail _ (.tail _ (.tail _ (.tail _ (.tail _ (.head _)))))) (.tail _ (.tail _ (.tail _ (.tail _ (.tail _ (.tail _ (.head _))))))) (.head _) (.tail _ (.tail _ (.tail _ (.tail _ (.tail _ (.tail _ (.tail _ (.tail _ (.head _))))))))) (.tail _ (.tail _ (.tail _ (.tail _ (.tail _ (.tail _ (.tail _ (.head _)))))))))) ?_
 intro k hk
 refine .sr ?_
 refine .sA (.lss rfl rfl rfl) (.nil ?_)
 refine .seq ?_
 refine .cond rfl (fun h3 => ?_) (fun h3 => ?_)
 ·replace h3 := of_decide_eq_true h3
  rw [List.length_map] at h3
  have hlt : k < b.ctr.deals.length := by omega
  have hz : k < (dls b).length := by omega
  have hda : b.ctr.deals[k]? = some (dls b)[k].1 := by rw [dls_at hz]; exact List.getElem?_eq_getElem hlt
  have hD := okb.deal _ (dls_mem (List.getElem_mem hz)).1
  have hS := okb.st _ (dls_mem (List.getElem_mem hz)).2
  have hL := lK_ok (S := (salB b l)) okb k
  have hRl : (rK (salB b l) b k).length ≤ 40 := by unfold rK; rw [List.length_take, rowsB_len okb]; omega
  have HK : dlK (salB b l) b k = dlF (salB b l) b.next b.held ((dls b)[k].1, (dls b)[k].2) := dif_pos hz
  refine .skip ?_
  refine .seq ?_
  refine .block ?_
  refine .sr ?_
  refine .mA ?_
  refine .aA (.nil ?_)
  refine .sr ?_
  refine .sA (.moveP rfl rfl) ?_
  refine .mA ?_
  -- writes 600 501 502 504
  refine .callX rfl rfl rfl (.cons (SLe.refl _) (.cons (SLe.refl _) .nil)) (c_deal b.ctr b.next (salB b l) b.held (lK (salB b l) b k) (tK (salB b l) b k) (rK (salB b l) b k) k (dls b)[k].1 (dls b)[k].2 hda (tK_at okb hz) okS hD.1 hL.1 (by omega) (fun q => lK_cen okb hz q) (fun q => cen_rng okb.held (fun x hx => (okb.hr x hx).2.2) _) hS (by omega) ⟨hD.2.2.2.1, hD.2.2.2.2⟩ hRl) ⟨(.head _), (.tail _ (.head _)), (.tail _ (.tail _ (.head _))), (.tail _ (.tail _ (.tail _ (.tail _ (.head _))))), trivial⟩ rfl rfl (fun _ h => rfl) ?_
  rw [← HK]
  refine .aA (.nil ?_)
  refine .sr ?_
  refine .mA ?_
  refine .sA (.neq rfl rfl rfl) (.nil ?_)
  refine .cond rfl (fun h4 => ?_) (fun h4 => ?_)
  ·replace h4 := of_decide_eq_true h4
   have HX := ffst_hit (f := dlK (salB b l) b) hk.2 h4 _ hlt
   have HF := (iss_d h0 h1n (by rw [HX]; exact h4)).trans HX
   rw [issB_bad (by rw [HF]; exact h4), issS_bad (by rw [HF]; exact h4), HF]
   refine .sr ?_
   refine .sA (.build rfl bu_40 .nil rfl) ?_
   refine .mA ?_
   refine .store rfl rfl rfl sz_40 rfl (.tail _ (.tail _ (.tail _ (.tail _ (.tail _ (.tail _ (.head _))))))) rfl rfl rfl (Nat.le_of_ble_eq_true rfl) ?_
   refine .aA ?_
   refine .aA (.nil ?_)
   refine .ret ?_
   refine ⟨RetR.agg rfl (.tail _ (.tail _ (.tail _ (.tail _ (.tail _ (.tail _ (.head _))))))) ag_40 rfl (.cons (by first | exact CellD.nil | exact CellD.d | exact CellD.eq (by simp) | (refine CellD.own (by first | exact .head _ | exact .tail _ (.head _)) ?_; rfl)) (.cons (by first | exact CellD.nil | exact CellD.d | exact CellD.eq (by simp) | (refine CellD.own (by first | exact .head _ | exact .tail _ (.head _)) ?_; rfl)) (.cons (by first | exact CellD.nil | exact CellD.d | exact CellD.eq (by simp) | (refine CellD.own (by first | exact .head _ | exact .tail _ (.head _)) ?_; rfl)) (.cons (by first | exact CellD.nil | exact CellD.d | exact CellD.eq (by simp) | (refine CellD.own (by first | exact .head _ | exact .tail _ (.head _)) ?_; rfl)) (.cons (by first | exact CellD.nil | exact CellD.d | exact CellD.eq (by simp) | (refine CellD.own (by first | exact .head _ | exact .tail _ (.head _)) ?_; rfl)) (.cons (by first | exact CellD.nil | exact CellD.d | exact CellD.eq (by simp) | (refine CellD.own (by first | exact .head _ | exact .tail _ (.head _)) ?_; rfl)) (.cons (by first | exact CellD.nil | exact CellD.d | exact CellD.eq (by simp) | (refine CellD.own (by first | exact .head _ | exact .tail _ (.head _)) ?_; rfl)) .nil))))))), RetD.nil rfl, RetD.eq rfl ?_, trivial⟩
   all_goals (first | rfl)
  replace h4 := of_decide_eq_false h4
  have HZ : dlK (salB b l) b k = 0 := Decidable.not_not.1 h4
  have HB : ¬ 1000000000000 < basV (dls b)[k].1 b.next (salB b l) := fun hh => by
   rw [HK] at HZ
   unfold dlF at HZ
   rw [if_pos hh] at HZ
   exact absurd HZ (by decide)
  have HT := tK_next (S := (salB b l)) okb hz
  have HL := lK_next (S := (salB b l)) hz
  have HR := rK_next (S := (salB b l)) hz
  simp only [if_neg HB]
  refine .skip ?_
  refine .region ?_
  refine .sA (.add64 rfl rfl rfl (by omega) (by omega)) ?_
  refine .mA (.nil ?_)
  refine ⟨k + 1, ⟨by omega, ffst_next hk.2 HZ⟩, (by dsimp only; omega), Sub.less ⟨(SLe.of_eq rfl), SLe.refl _, SLe.refl _, SLe.refl _, SLe.refl _, trivial⟩ (in7 (.head _) (mem_ob_eq (.tail _ (.head _)) (by rw [HT])) (mem_ob_eq (.tail _ (.tail _ (.head _))) (by rw [HL]; first | done | rfl)) (.tail _ (.tail _ (.tail _ (.tail _ (.head _))))) (mem_ob_eq (.tail _ (.tail _ (.tail _ (.head _)))) (by rw [HR]; first | done | rfl)) (.tail _ (.tail _ (.tail _ (.tail _ (.tail _ (.head _)))))) (.tail _ (.tail _ (.tail _ (.tail _ (.tail _ (.tail _ (.head _))))))))⟩
 replace h3 := of_decide_eq_false h3
 rw [List.length_map] at h3
 obtain rfl : k = b.ctr.deals.length := by omega
 rw [tK_end okb, lK_end okb, rK_end okb]
 have hdz := ffst_all _ hk.2
 have hRw := rows_ok okS okb hdz
 refine .exit ?_
 refine .sr ?_
 refine .aA (.nil ?_)
 refine .seq ?_
 refine .seq ?_
 refine .freezeIn 600 4 rfl (.head _) (.tail _ (.head _)) ?_
 refine .freezeIn 600 5 rfl (.head _) (.tail _ (.head _)) ?_
 refine .freezeIn 600 8 rfl (.head _) (.tail _ (.tail _ (.head _))) ?_
 refine .region ?_
 refine .sA (.fieldAddrP rfl fo_40_0 rfl) ?_
 refine .sA (.fieldAddrP rfl fo_36_2 rfl) ?_
 refine .sA (.loadP rfl sc_34 rfl (.tail _ (.tail _ (.head _))) rfl) ?_
 refine .sA (.lenSl rfl et_34.ht rfl) ?_
 refine .mA (.nil ?_)
 refine .block ?_
 refine .adopt 13 505 59 7 rfl rfl ?_
 have hd0 := hk.2
 refine .loop (G := Nat) (fun k => Env.of [(75, .d (.v (.int .i64 (k : Int)))), (74, .d (.v (.int .i64 ((b.ctr.groups.map Grp.ds).length : Int)))), (10, .ptr 600 0), (4, .ptr 710 0), (13, .own 505)]) (fun k => [(505, .row 59 7 (((stmsB (salB b l) b).take k).map Stm.ds)), isG b.ctr b.next (nowsB (salB b l) b) (hldR (salB b l) b.next b.held (dls b)) (salB b l) (rowsB (salB b l) b), isB (bK (salB b l) b k), (710, .cells [.d (.v (.slice none 0 0)), .d (.v (.slice none 0 0)), .d (.v (.slice none 0 0)), .d (.v (.int .i64 0)), .d (.v (.slice none 0 0)), .d (.v (.slice none 0 0)), .d (.v (.slice none 0 0))])]) (fun k => k ≤ b.ctr.groups.length ∧ ffst (gpK (salB b l) b) k = 0) (fun k => b.ctr.groups.length - k) 0 ⟨Nat.zero_le _, rfl⟩ (Sub.less ⟨(SLe.of_eq rfl), SLe.refl _, SLe.refl _, SLe.refl _, SLe.refl _, trivial⟩ (in4 (.head _) (.tail _ (.head _)) (.tail _ (.tail _ (.head _))) (.tail _ (.tail _ (.tail _ (.tail _ (.head _))))))) ?_
 intro k hk
 refine .sr ?_
 refine .sA (.lss rfl rfl rfl) (.nil ?_)
 refine .seq ?_
 refine .cond rfl (fun h5 => ?_) (fun h5 => ?_)
 ·replace h5 := of_decide_eq_true h5
  rw [List.length_map] at h5
  have hlt : k < b.ctr.groups.length := by omega
  have hz : k < (gps b).length := by omega
  have hga : b.ctr.groups[k]? = some (gps b)[k].1 := by rw [gps_at hz]; exact List.getElem?_eq_getElem hlt
  have hgm := gps_mem (List.getElem_mem hz)
  have HK : gpK (salB b l) b k = stF (gps b)[k].1 (numB (salB b l) b (gps b)[k]) := dif_pos hz
  have hsl : k < (stmsB (salB b l) b).length := by unfold stmsB; rw [List.length_map]; exact hz
  refine .skip ?_
  refine .seq ?_
  refine .block ?_
  refine .sr ?_
  refine .mA ?_
  refine .aA (.nil ?_)
  refine .sr ?_
  refine .sA (.moveP rfl rfl) ?_
  refine .mA ?_
  -- writes 600 503
  refine .callX rfl rfl rfl (.cons (SLe.refl _) (.cons (SLe.refl _) .nil)) (c_grp b.ctr b.next (salB b l) (hldR (salB b l) b.next b.held (dls b)) (nowsB (salB b l) b) (rowsB (salB b l) b) (bK (salB b l) b k) k (gps b)[k].1 (gps b)[k].2 hga (bK_at okb hz) (rowsB_len okb) hdl hRw (okb.ba _ hgm.2) (okb.cut _ hgm.1)) ⟨(.tail _ (.head _)), (.tail _ (.tail _ (.head _))), trivial⟩ rfl rfl (fun _ h => rfl) ?_
  rw [show stF (gps b)[k].1 (numG (gps b)[k].2 (rowsG (gps b)[k].1.name (b.ctr.deals.zip (rowsB (salB b l) b)))) = gpK (salB b l) b k from HK.symm]
  refine .mA ?_
  refine .sA (.extract rfl rfl rfl) ?_
  refine .sA (.extract rfl rfl rfl) ?_
  refine .alloc 106 rfl rfl rfl rfl zt_59 rfl rfl rfl ?_
  refine .store rfl rfl rfl sz_59 rfl (.head _) rfl rfl rfl (Nat.le_of_ble_eq_true rfl) ?_
  refine .freezeCells 15 (ds := (if gpK (salB b l) b k = 0 then stG b.next (gps b)[k].1 (gps b)[k].2 (rsG (salB b l) b (gps b)[k]) else badG b.next (gps b)[k].1 (gps b)[k].2 (rsG (salB b l) b (gps b)[k])).ds) rfl (.head _) ?_
  refine .aA (.nil ?_)
  refine .seq ?_
  refine .sr ?_
  refine .mA ?_
  refine .sA (.neq rfl rfl rfl) (.nil ?_)
  refine .cond rfl (fun h6 => ?_) (fun h6 => ?_)
  ·replace h6 := of_decide_eq_true h6
   have HX := ffst_hit (f := gpK (salB b l) b) hk.2 h6 _ hlt
   have HF := (iss_g h0 h1n hd0).trans HX
   rw [issB_bad (by rw [HF]; exact h6), issS_bad (by rw [HF]; exact h6), HF]
   refine .sr ?_
   refine .sA (.build rfl bu_40 .nil rfl) ?_
   refine .mA ?_
   refine .store rfl rfl rfl sz_40 rfl (.tail _ (.tail _ (.tail _ (.head _)))) rfl rfl rfl (Nat.le_of_ble_eq_true rfl) ?_
   refine .aA ?_
   refine .aA (.nil ?_)
   refine .ret ?_
   refine ⟨RetR.agg rfl (.tail _ (.tail _ (.tail _ (.head _)))) ag_40 rfl (.cons (by first | exact CellD.nil | exact CellD.d | exact CellD.eq (by simp) | (refine CellD.own (by first | exact .head _ | exact .tail _ (.head _)) ?_; rfl)) (.cons (by first | exact CellD.nil | exact CellD.d | exact CellD.eq (by simp) | (refine CellD.own (by first | exact .head _ | exact .tail _ (.head _)) ?_; rfl)) (.cons (by first | exact CellD.nil | exact CellD.d | exact CellD.eq (by simp) | (refine CellD.own (by first | exact .head _ | exact .tail _ (.head _)) ?_; rfl)) (.cons (by first | exact CellD.nil | exact CellD.d | exact CellD.eq (by simp) | (refine CellD.own (by first | exact .head _ | exact .tail _ (.head _)) ?_; rfl)) (.cons (by first | exact CellD.nil | exact CellD.d | exact CellD.eq (by simp) | (refine CellD.own (by first | exact .head _ | exact .tail _ (.head _)) ?_; rfl)) (.cons (by first | exact CellD.nil | exact CellD.d | exact CellD.eq (by simp) | (refine CellD.own (by first | exact .head _ | exact .tail _ (.head _)) ?_; rfl)) (.cons (by first | exact CellD.nil | exact CellD.d | exact CellD.eq (by simp) | (refine CellD.own (by first | exact .head _ | exact .tail _ (.head _)) ?_; rfl)) .nil))))))), RetD.nil rfl, RetD.eq rfl ?_, trivial⟩
   all_goals (first | rfl)
  replace h6 := of_decide_eq_false h6
  have HZ : gpK (salB b l) b k = 0 := Decidable.not_not.1 h6
  have HZ2 := HK.symm.trans HZ
  have HT := bK_next (S := (salB b l)) okb hz
  have HX : (if gpK (salB b l) b k = 0 then stG b.next (gps b)[k].1 (gps b)[k].2 (rsG (salB b l) b (gps b)[k]) else badG b.next (gps b)[k].1 (gps b)[k].2 (rsG (salB b l) b (gps b)[k])) = (stmsB (salB b l) b)[k] := by
   rw [if_pos HZ]
   exact (List.getElem_map (h := hsl) ..).symm
  have HS := takeS hsl
  refine .skip ?_
  refine .region ?_
  refine .sA (.moveO rfl rfl) ?_
  refine .sA (.loadAgg rfl ag_59 rfl rfl) ?_
  refine .sA (.buildSlice rfl et_41 (.cons rfl rfl rfl .nil) rfl (by decide)) ?_
  -- append 91
  refine .append rfl rfl rfl rfl et_41 rfl (.tail _ (.tail _ (.head _))) rfl (by simp [D.parts, Stm.ds]) (by simp; omega) (by simp; omega) ?_
  refine .sA (.assignO rfl rfl) (.nil ?_)
  refine .region ?_
  refine .sA (.add64 rfl rfl rfl (by omega) (by omega)) ?_
  refine .mA (.nil ?_)
  refine ⟨k + 1, ⟨by omega, ffst_next hk.2 HZ⟩, (by dsimp only; omega), Sub.less ⟨(SLe.of_eq rfl), SLe.refl _, SLe.refl _, SLe.refl _, SLe.refl _, trivial⟩ (in4 (mem_ob_eq (.tail _ (.tail _ (.head _))) (by rw [HS, ← HX, List.map_append]; rfl)) (.head _) (mem_ob_eq (.tail _ (.head _)) (by rw [← HT, if_pos HZ]; rfl)) (.tail _ (.tail _ (.tail _ (.head _)))))⟩
 replace h5 := of_decide_eq_false h5
 rw [List.length_map] at h5
 obtain rfl : k = b.ctr.groups.length := by omega
 rw [bK_end okb]
 have HF : issF b l = 0 := (iss_g h0 h1n (by assumption)).trans hk.2
 rw [issB_ok HF, issS_ok HF, HF]
 have hstl : (stmsB (salB b l) b).length = b.ctr.groups.length := by unfold stmsB; rw [List.length_map]; exact hgz
 rw [← hstl, List.take_length]
 refine .exit ?_
 refine .sr ?_
 refine .sA (.moveP rfl rfl) ?_
 refine .sA (.nilCheckP rfl rfl) ?_
 refine .sA (.fieldAddrP rfl fo_108_0 rfl) ?_
 refine .sA (.fieldAddrP rfl fo_40_1 rfl) ?_
 refine .sA (.loadP rfl sc_3 rfl (.tail _ (.head _)) rfl) ?_
 refine .sA (.add64 rfl rfl rfl (by omega) (by omega)) ?_
 refine .sA (.nilCheckP rfl rfl) ?_
 refine .sA (.fieldAddrP rfl fo_108_0 rfl) ?_
 refine .sA (.fieldAddrP rfl fo_40_1 rfl) ?_
 refine .store rfl rfl rfl sz_3 rfl (.tail _ (.head _)) rfl rfl rfl (Nat.le_of_ble_eq_true rfl) (.nil ?_)
 refine .seq ?_
 refine .freezeIn 600 6 rfl (.tail _ (.head _)) (.tail _ (.tail _ (.head _))) ?_
 refine .region ?_
 refine .sA (.moveP rfl rfl) ?_
 refine .sA (.nilCheckP rfl rfl) ?_
 refine .sA (.fieldAddrP rfl fo_108_0 rfl) ?_
 refine .sA (.loadPU rfl ag_40 rfl (.tail _ (.head _)) rfl rfl) ?_
 refine .sA (.moveO rfl rfl) ?_
 refine .store rfl rfl rfl sz_40 rfl (.tail _ (.tail _ (.head _))) rfl rfl rfl (Nat.le_of_ble_eq_true rfl) ?_
 refine .sA (.assignO rfl rfl) ?_
 refine .aA (.nil ?_)
 refine .ret ?_
 refine ⟨RetR.agg rfl (.tail _ (.tail _ (.head _))) ag_40 rfl (.cons (by first | exact CellD.nil | exact CellD.d | exact CellD.eq (by simp) | (refine CellD.own (by first | exact .head _ | exact .tail _ (.head _)) ?_; rfl)) (.cons (by first | exact CellD.nil | exact CellD.d | exact CellD.eq (by simp) | (refine CellD.own (by first | exact .head _ | exact .tail _ (.head _)) ?_; rfl)) (.cons (by first | exact CellD.nil | exact CellD.d | exact CellD.eq (by simp) | (refine CellD.own (by first | exact .head _ | exact .tail _ (.head _)) ?_; rfl)) (.cons (by first | exact CellD.nil | exact CellD.d | exact CellD.eq (by simp) | (refine CellD.own (by first | exact .head _ | exact .tail _ (.head _)) ?_; rfl)) (.cons (by first | exact CellD.nil | exact CellD.d | exact CellD.eq (by simp) | (refine CellD.own (by first | exact .head _ | exact .tail _ (.head _)) ?_; rfl)) (.cons (by first | exact CellD.nil | exact CellD.d | exact CellD.eq (by simp) | (refine CellD.own (by first | exact .head _ | exact .tail _ (.head _)) ?_; rfl)) (.cons (by first | exact CellD.nil | exact CellD.d | exact CellD.eq (by simp) | (refine CellD.own (by first | exact .head _ | exact .tail _ (.head _)) ?_; rfl)) .nil))))))), RetD.own rfl (.head _) ?_, RetD.eq rfl ?_, trivial⟩
 all_goals (first | rfl)

end Go.Proofs.YtcfamaddnmnaeaaGreatDoor

namespace Go.Proofs.YtcfamaddnmnaeaaGreatDoor
open Go.RowKit
set_option linter.unusedVariables false

/-! Types. -/
namespace TyIM
end TyIM
open TyF0 TyF1 TyF2 TyF3 TyF4 TyF5 TyF6 TyF11 TyG1 TyG2 TyG5 TyU1 TyU2 TyU3 TyU4 TyM1 TyM2 TyM3 TyM7 TyM8 TyM9 TyO1 TyM10 TyO2 TyU5 TyU6 TyU7 TyU8 TyIA TyIC TyIB TyID TyO3 TyM11 TyO6 TyO7 TyG3 TyIE TyIF TyIG TyIJ TyIK TyIH TyIL TyIM

open Go.Lib
set_option linter.unusedSimpArgs false
def owK (S : List Sal) (b : Bks) (k : Nat) : Int := if h : k < (dls b).length then (if 1000000000000 < basV (dls b)[k].1 (b.next - 1) S then 2 else 0) else 0
def owsB (S : List Sal) (b : Bks) : List Int := (dls b).map fun p => nowV S (b.next - 1) p.1 - p.2
def owF (b : Bks) (l : List Rpt) : Int := if askB b l ≠ 0 then askB b l else ffst (owK (salB b l) b) b.ctr.deals.length
def owS (b : Bks) (l : List Rpt) : List Int := if owF b l = 0 then owsB (salB b l) b else []
theorem ow_ask {b : Bks} {l : List Rpt} (h : askB b l ≠ 0) : owF b l = askB b l := if_pos h
theorem ow_k {b : Bks} {l : List Rpt} (h : ¬ askB b l ≠ 0) : owF b l = ffst (owK (salB b l) b) b.ctr.deals.length := if_neg h
theorem owS_bad {b : Bks} {l : List Rpt} (h : owF b l ≠ 0) : owS b l = [] := if_neg h
theorem owS_ok {b : Bks} {l : List Rpt} (h : owF b l = 0) : owS b l = owsB (salB b l) b := if_pos h
def zRw : Rw := ⟨⟨#[]⟩, 0, 0, 0, 0⟩
def rwR (S : List Sal) (next : Int) (H : List Hld) (p : Deal × Int) : Rw := if 1000000000000 < basV p.1 next S then zRw else rwD S next H p
def nwR (S : List Sal) (next : Int) (H : List Hld) (p : Deal × Int) : Int := if dlF S next H p = 0 then nowV S next p.1 else 0
def cdR (S : List Sal) (next : Int) (H : List Hld) (p : Deal × Int) : Int := if dlF S next H p = 0 then cenD S next H p else 0

set_option maxRecDepth 100000 in
set_option maxHeartbeats 1000000 in
theorem c_pOw (b : Bks) (l : List Rpt) (hb : okBks b) (ho : ∀ x ∈ l, okRpt x) : ACallT Tryz.prog MaxT 19 [.agg b.ds, .sl (l.map Rpt.ds)] (.tup [.sl ((owS b l).map intD), .v (.int .i64 (owF b l))]) := by
 refine acall_ofT (n := 59) (ds' := [.sl ((owS b l).map intD), .v (.int .i64 (owF b l))]) Tryz.func19 rfl (by kernel_rfl) rfl [4, 5] rfl rfl ?_
 intro B w0 F0 hT
 refine .sr ?_
 refine .sA (.box rfl rfl rfl) ?_
 refine .aA ?_
 refine .aA (.nil ?_)
 refine .seq ?_
 refine .sr ?_
 refine .sA (.loadAgg rfl ag_40 rfl rfl) ?_
 refine .mA ?_
 -- wants the world
 refine .callT rfl rfl rfl hT maxT_stays rfl (.cons (.rfl' rfl) (.cons (.rfl' rfl) .nil)) (c_pCkI b l hb ho) ?_
 refine .aA (.nil ?_)
 refine .sr ?_
 refine .mA ?_
 refine .sA (.neq rfl rfl rfl) (.nil ?_)
 refine .cond rfl (fun h1 => ?_) (fun h1 => ?_)
 ·replace h1 := of_decide_eq_true h1
  have HF := ow_ask h1
  rw [owS_bad (by rw [HF]; exact h1), HF]
  refine .sr ?_
  refine .mA ?_
  refine .aA ?_
  refine .aA (.nil ?_)
  refine .ret ?_
  refine ⟨RetD.nil rfl, RetD.eq rfl ?_, trivial⟩
  all_goals (first | rfl)
 replace h1 := of_decide_eq_false h1
 have h0 : ¬ askB b l ≠ 0 := h1
 obtain ⟨hbz, hlz⟩ := ask_0 (Decidable.not_not.1 h0)
 have okb := bkOk hbz
 have hlog := log_of hlz
 have okS : SalsOk (salB b l) := sals_ok hlog ho okb.als
 have hnx := okb.next
 have hdl := okb.dl
 have hzl := dls_len okb
 have hsl := okb.sl
 refine .skip ?_
 refine .sr ?_
 refine .mA ?_
 refine .sA (.fieldAddr rfl fo_40_0 rfl) ?_
 refine .sA (.fieldAddr rfl fo_36_0 rfl) ?_
 refine .sA (.load rfl sc_32 rfl) ?_
 refine .sA (.call rfl (.cons (.rfl' rfl) (.cons (.rfl' rfl) .nil)) (c_sums l b.ctr.als hlog ho okb.als)) ?_
 refine .mA ?_
 refine .sA (.extract rfl rfl rfl) ?_
 refine .sA (.extract rfl rfl rfl) ?_
 refine .aA ?_
 refine .aA (.nil ?_)
 refine .sr ?_
 refine .aA (.nil ?_)
 refine .seq ?_
 refine .sr ?_
 refine .sA (.fieldAddr rfl fo_40_0 rfl) ?_
 refine .sA (.fieldAddr rfl fo_36_1 rfl) ?_
 refine .sA (.load rfl sc_33 rfl) ?_
 refine .sA (.lenSl rfl et_33.ht rfl) ?_
 refine .mA (.nil ?_)
 refine .block ?_
 refine .adopt 9 61 3 1 rfl rfl ?_
 refine .loop (G := Nat) (fun k => Env.of [(31, .d (.v (.int .i64 (k : Int)))), (29, .d (.sl (b.ctr.deals.map Deal.ds))), (30, .d (.v (.int .i64 ((b.ctr.deals.map Deal.ds).length : Int)))), (2, .d (.fp b.ds)), (7, .d (.sl ((salB b l).map Sal.ds))), (9, .own 61)]) (fun k => [(61, .row 3 1 (((owsB (salB b l) b).take k).map intD))]) (fun k => k ≤ b.ctr.deals.length ∧ ffst (owK (salB b l) b) k = 0) (fun k => b.ctr.deals.length - k) 0 ⟨Nat.zero_le _, rfl⟩ (Sub.less ⟨(SLe.of_eq rfl), SLe.refl _, SLe.refl _, SLe.refl _, SLe.refl _, SLe.refl _, trivial⟩ (row_sameM rfl)) ?_
 intro k hk
 refine .sr ?_
 refine .sA (.lss rfl rfl rfl) (.nil ?_)
 refine .seq ?_
 refine .cond rfl (fun h2 => ?_) (fun h2 => ?_)
 ·replace h2 := of_decide_eq_true h2
  rw [List.length_map] at h2
  have hlt : k < b.ctr.deals.length := by omega
  have hls : k < b.stated.length := by omega
  have hz : k < (dls b).length := by omega
  have hde : (dls b)[k] = (b.ctr.deals[k], b.stated[k]) := dls_at hz
  have hD := okb.deal _ (List.getElem_mem hlt)
  have hS := okb.st _ (List.getElem_mem hls)
  have hbr : 0 ≤ basV b.ctr.deals[k] (b.next - 1) (salB b l) ∧ basV b.ctr.deals[k] (b.next - 1) (salB b l) ≤ 30000000000000 * ((salB b l).length : Int) := basS_rng (d := b.ctr.deals[k]) (p := b.next - 1) okS (salB b l).length (Nat.le_refl _)
  have HK : owK (salB b l) b k = if 1000000000000 < basV b.ctr.deals[k] (b.next - 1) (salB b l) then 2 else 0 := by unfold owK; rw [dif_pos hz, hde]
  have hol : k < (owsB (salB b l) b).length := by unfold owsB; rw [List.length_map]; exact hz
  have HO : (owsB (salB b l) b)[k] = ernV b.ctr.deals[k].tiers (basV b.ctr.deals[k] (b.next - 1) (salB b l)) - b.stated[k] := by
   have h5 : (owsB (salB b l) b)[k] = nowV (salB b l) (b.next - 1) (dls b)[k].1 - (dls b)[k].2 := List.getElem_map (h := hol) ..
   rw [h5, hde]; rfl
  have HT := takeS hol
  refine .skip ?_
  refine .seq ?_
  refine .block ?_
  refine .sr ?_
  refine .mA ?_
  refine .sA (.indexAddr rfl et_33 rfl rfl k rfl (at_lst hlt) rfl) ?_
  refine .sA (.loadAgg rfl ag_63 rfl rfl) ?_
  refine .alloc 101 rfl rfl rfl rfl zt_63 rfl rfl rfl ?_
  refine .aA ?_
  refine .store rfl rfl rfl sz_63 rfl (.head _) rfl rfl rfl (Nat.le_of_ble_eq_true rfl) ?_
  refine .freezeCells 11 (ds := b.ctr.deals[k].ds) rfl (.head _) (.nil ?_)
  refine .sr ?_
  refine .sA (.loadAgg rfl ag_63 rfl rfl) ?_
  refine .mA ?_
  refine .sA (.fieldAddr rfl fo_40_1 rfl) ?_
  refine .sA (.load rfl sc_3 rfl) ?_
  refine .sA (.sub64 rfl rfl rfl (by omega) (by omega)) ?_
  refine .sA (.call rfl (.cons (.rfl' rfl) (.cons (.rfl' rfl) (.cons (.rfl' rfl) .nil))) (c_pBase b.ctr.deals[k] (salB b l) (b.next - 1) okS)) ?_
  refine .aA (.nil ?_)
  refine .seq ?_
  refine .sr ?_
  refine .mA ?_
  refine .sA (.gtr rfl rfl rfl) (.nil ?_)
  refine .cond rfl (fun h3 => ?_) (fun h3 => ?_)
  ·replace h3 := of_decide_eq_true h3
   have HK2 : owK (salB b l) b k = 2 := HK.trans (if_pos h3)
   have HX := ffst_hit (f := owK (salB b l) b) hk.2 (by rw [HK2]; decide) _ hlt
   have HF := ((ow_k h0).trans HX).trans HK2
   rw [owS_bad (by rw [HF]; decide), HF]
   refine .sr ?_
   refine .aA ?_
   refine .aA (.nil ?_)
   refine .ret ?_
   refine ⟨RetD.nil rfl, RetD.eq rfl ?_, trivial⟩
   all_goals (first | rfl)
  replace h3 := of_decide_eq_false h3
  have hbm : basV b.ctr.deals[k] (b.next - 1) (salB b l) ≤ 1000000000000 := Int.not_lt.1 h3
  have HK2 : owK (salB b l) b k = 0 := HK.trans (if_neg h3)
  have hev := ernV_le hD.1 hbr.1 hbm
  refine .skip ?_
  refine .drawTail 12 (by kernel_rfl) (by kernel_rfl) (by kernel_rfl) ?_
  refine .sA (.moveO rfl rfl) ?_
  refine .sA (.fieldAddr rfl fo_63_5 rfl) ?_
  refine .sA (.load rfl sc_61 rfl) ?_
  refine .sA (.moveD rfl rfl) ?_
  refine .sA (.call rfl (.cons (.rfl' rfl) (.cons (.rfl' rfl) .nil)) (c_pErn b.ctr.deals[k].tiers (basV b.ctr.deals[k] (b.next - 1) (salB b l)) hD.1 ⟨hbr.1, hbm⟩)) ?_
  refine .sA (.fieldAddr rfl fo_40_2 rfl) ?_
  refine .sA (.load rfl sc_37 rfl) ?_
  refine .sA (.moveD rfl rfl) ?_
  refine .sA (.indexAddr rfl et_37 rfl rfl k rfl (at_lst hls) rfl) ?_
  refine .sA (.load rfl sc_3 rfl) ?_
  refine .sA (.sub64 rfl rfl rfl (by omega) (by omega)) ?_
  refine .sA (.buildSlice rfl et_37 (.cons rfl rfl rfl .nil) rfl (by decide)) ?_
  refine .nil ?_
  -- append 56
  refine .append rfl rfl rfl rfl et_37 rfl (.head _) rfl (by simp [D.parts]) (by simp; omega) (by simp; omega) ?_
  refine .sA (.assignO rfl rfl) (.nil ?_)
  refine .region ?_
  refine .sA (.add64 rfl rfl rfl (by omega) (by omega)) ?_
  refine .mA (.nil ?_)
  refine ⟨k + 1, ⟨by omega, ffst_next hk.2 HK2⟩, (by dsimp only; omega), Sub.less ⟨(SLe.of_eq rfl), SLe.refl _, SLe.refl _, SLe.refl _, SLe.refl _, SLe.refl _, trivial⟩ (row_sameM (by rw [HT, HO, List.map_append]; rfl))⟩
 replace h2 := of_decide_eq_false h2
 rw [List.length_map] at h2
 obtain rfl : k = b.ctr.deals.length := by omega
 have HF : owF b l = 0 := (ow_k h0).trans hk.2
 rw [owS_ok HF, HF]
 have hol : (owsB (salB b l) b).length = b.ctr.deals.length := by unfold owsB; rw [List.length_map]; exact hzl
 rw [← hol, List.take_length]
 refine .exit ?_
 refine .sr ?_
 refine .sA (.moveO rfl rfl) ?_
 refine .sA (.assignO rfl rfl) ?_
 refine .aA (.nil ?_)
 refine .ret ?_
 refine ⟨RetD.own rfl (.head _) ?_, RetD.eq rfl ?_, trivial⟩
 all_goals (first | rfl)

end Go.Proofs.YtcfamaddnmnaeaaGreatDoor

namespace Go.Proofs.YtcfamaddnmnaeaaGreatDoor
open Go.RowKit
set_option linter.unusedVariables false

/-! Types. -/
namespace TyIQ
end TyIQ
open TyF0 TyF1 TyF2 TyF3 TyF4 TyF5 TyF6 TyF11 TyG1 TyG2 TyG5 TyU1 TyU2 TyU3 TyU4 TyM1 TyM2 TyM3 TyM7 TyM8 TyM9 TyO1 TyM10 TyO2 TyU5 TyU6 TyU7 TyU8 TyIA TyIC TyIB TyID TyO3 TyM11 TyO6 TyO7 TyG3 TyIE TyIF TyIG TyIJ TyIK TyIH TyIL TyIM TyIQ

open Go.Sort Go.Lib
set_option linter.unusedSimpArgs false
theorem ffst_zero {f : Nat → Int} : ∀ n, (∀ k, k < n → f k = 0) → ffst f n = 0
  | 0, _ => rfl
  | n + 1, h => ffst_next (ffst_zero n fun k hk => h k (by omega)) (h n (by omega))
structure IsOk (b : Bks) (l : List Rpt) : Prop where
  bk : bksF b = 0
  lg : logF l = 0
  nx : b.next ≤ 2400
  dl : ∀ k, k < b.ctr.deals.length → dlK (salB b l) b k = 0
  gp : ∀ k, k < b.ctr.groups.length → gpK (salB b l) b k = 0
theorem isOk {b : Bks} {l : List Rpt} (h : issF b l = 0) : IsOk b l := by
  have h0 : ¬ askB b l ≠ 0 := fun h0 => by rw [iss_ask h0] at h; exact h0 h
  have h1 : ¬ 2400 < b.next := fun h1 => by rw [iss_11 h0 h1] at h; exact absurd h (by decide)
  have h2 : ffst (dlK (salB b l) b) b.ctr.deals.length = 0 := Classical.byContradiction fun h2 => by rw [iss_d h0 h1 h2] at h; exact h2 h
  rw [iss_g h0 h1 h2] at h
  obtain ⟨hb, hl⟩ := ask_0 (Decidable.not_not.1 h0)
  exact ⟨hb, hl, Int.not_lt.1 h1, ffst_all _ h2, ffst_all _ h⟩
theorem hl_mem {L : List Hld} (ok : Hls L) {k : KH} {c : Int} (h : findG (HL L) k = some c) : (⟨k.1, k.2, c⟩ : Hld) ∈ L := by
  obtain ⟨y, hy, e⟩ := List.mem_map.1 ((findG_mem ((HL_ri ok).nk tot_H) (k, c)).2 h)
  have e1 : y.key = k := congrArg Prod.fst e
  have e2 : y.cents = c := congrArg Prod.snd e
  have e3 : y = ⟨k.1, k.2, c⟩ := by rw [← e1, ← e2]; rfl
  exact e3 ▸ hy
theorem seg_ok {S : List Sal} {next : Int} {H : List Hld} (ok : Hls H) (p : Deal × Int) : Hls (segH S next H p) := by
  unfold segH
  split
  · exact addH_ok (filt_ok ok _) _
  · exact filt_ok ok _
theorem seg_spec {S : List Sal} {next : Int} {H : List Hld} (ok : Hls H) {p : Deal × Int} {x : Hld} (hx : x ∈ segH S next H p) : (x.period = next + p.1.hold ∧ x.cents = cenD S next H p ∧ 0 < cenD S next H p) ∨ (x ∈ H ∧ x.period ≠ next) := by
  have h1 := cen_some (seg_ok ok p) hx
  rw [find_seg ok, if_pos (show x.key.1 = p.1.name from seg_deal ok p x hx)] at h1
  by_cases h2 : x.key.2 = next + p.1.hold
  · rw [if_pos h2] at h1
    by_cases h3 : 0 < cenD S next H p
    · rw [if_pos h3] at h1
      exact .inl ⟨h2, (Option.some.inj h1).symm, h3⟩
    · rw [if_neg h3] at h1; cases h1
  · rw [if_neg h2] at h1
    by_cases h3 : x.key.2 = next
    · rw [if_pos h3] at h1; cases h1
    · rw [if_neg h3] at h1
      exact .inr ⟨hl_mem ok h1, h3⟩
theorem dl_parts {S : List Sal} {b : Bks} (ok : BkOk b) {k : Nat} (hk : k < (dls b).length) (h : dlK S b k = 0) : basV (dls b)[k].1 b.next S ≤ 1000000000000 ∧ cenD S b.next b.held (dls b)[k] ≤ 1000000000000 := by
  unfold dlK at h
  rw [dif_pos hk] at h
  unfold dlF at h
  by_cases h1 : 1000000000000 < basV (dls b)[k].1 b.next S
  · rw [if_pos h1] at h; exact absurd h (by decide)
  rw [if_neg h1] at h
  by_cases h2 : 1000000000000 < cenD S b.next b.held (dls b)[k]
  · rw [if_pos h2] at h; exact absurd h (by decide)
  omega
theorem st_cl {g : Grp} {n : Int} (h : stF g n = 0) : -1000000000000 ≤ clG g n ∧ clG g n ≤ 1000000000000 := by
  unfold stF at h
  unfold clG
  by_cases hp : payP g n
  · rw [if_pos hp]; omega
  · rw [if_neg hp] at h
    rw [if_neg hp]
    by_cases h1 : -1000000000000 ≤ n ∧ n ≤ 1000000000000
    · exact h1
    · rw [if_neg h1] at h; exact absurd h (by decide)
theorem iss_bks {b : Bks} {l : List Rpt} (ho : ∀ x ∈ l, okRpt x) (h : issF b l = 0) : bksF (issB b l) = 0 := by
  have hi := isOk h
  have ok := bkOk hi.bk
  have okS : SalsOk (salB b l) := sals_ok (log_of hi.lg) ho ok.als
  have hzl := dls_len ok
  have hgl := gps_len ok
  have hnx := ok.next
  have hnn := hi.nx
  have hid := hi.dl
  have hig := hi.gp
  clear hi
  rw [issB_ok h]
  generalize salB b l = S at *
  unfold bksF
  rw [if_neg (by show ¬ ctrF b.ctr ≠ 0; rw [ok.ctr]; decide), if_neg (by show ¬ ¬ (0 ≤ b.next + 1 ∧ b.next + 1 ≤ 2401); omega), if_neg (by
    show ¬ ((nowsB S b).length ≠ b.ctr.deals.length ∨ (balsB S b).length ≠ b.ctr.groups.length)
    unfold nowsB balsB
    rw [List.length_map, List.length_map]
    omega)]
  have h1 : ffst (statF (nowsB S b)) (nowsB S b).length = 0 := ffst_zero _ fun k hk => by
    have hk2 : k < (dls b).length := by unfold nowsB at hk; rw [List.length_map] at hk; exact hk
    have hd := ok.deal _ (dls_mem (List.getElem_mem hk2)).1
    have hp := dl_parts ok hk2 (hid k (by omega))
    have e : (nowsB S b)[k] = nowV S b.next (dls b)[k].1 := List.getElem_map (h := hk) ..
    unfold statF
    rw [dif_pos hk, e, if_pos (now_rng okS hd.1 hp.1)]
  have hok := hldR_ok (S := S) (next := b.next) ok.held (dls_nd ok)
  have h2 : ffst (hldF ⟨b.ctr, b.next + 1, nowsB S b, hldR S b.next b.held (dls b), balsB S b⟩) (hldR S b.next b.held (dls b)).length = 0 := ffst_zero _ fun k hk => by
    have hm : (hldR S b.next b.held (dls b))[k] ∈ hldR S b.next b.held (dls b) := List.getElem_mem hk
    have hord : ¬ (0 < k ∧ 0 ≤ hldCmp ((hldR S b.next b.held (dls b))[k-1]'(by omega)) (hldR S b.next b.held (dls b))[k]) := fun ⟨h0, h5⟩ => by
      have := List.pairwise_iff_getElem.1 hok.rise (k - 1) k (by omega) hk (by omega)
      have := hldCmp_lt.2 this
      omega
    unfold hldF
    rw [dif_pos (show k < (Bks.held ⟨b.ctr, b.next + 1, nowsB S b, hldR S b.next b.held (dls b), balsB S b⟩).length from hk)]
    dsimp only
    rw [if_neg (show ¬ (0 < k ∧ 0 ≤ hldCmp ((hldR S b.next b.held (dls b))[k-1]'(by omega)) (hldR S b.next b.held (dls b))[k]) from hord)]
    obtain ⟨p, hp, hx⟩ := List.mem_flatMap.1 hm
    have hdl := seg_deal ok.held p _ hx
    have hpm := dls_mem hp
    have hD := ok.deal _ hpm.1
    have hix : ¬ dealIdx b.ctr.deals (hldR S b.next b.held (dls b))[k].deal = false := fun hf => by
      have : dealIdx b.ctr.deals (hldR S b.next b.held (dls b))[k].deal = true := List.any_eq_true.2 ⟨p.1, hpm.1, decide_eq_true hdl.symm⟩
      rw [this] at hf; cases hf
    rw [if_neg hix, if_pos ?_]
    rcases seg_spec ok.held hx with ⟨e1, e2, e3⟩ | ⟨e1, e2⟩
    · obtain ⟨i, hi2, rfl⟩ := List.mem_iff_getElem.1 hp
      have := dl_parts ok hi2 (hid i (by omega))
      rw [e1, e2]
      omega
    · have := (ok.hr _ e1).2
      omega
  have h3 : ffst (balF (balsB S b)) (balsB S b).length = 0 := ffst_zero _ fun k hk => by
    have hk2 : k < (gps b).length := by unfold balsB at hk; rw [List.length_map] at hk; exact hk
    have hg := hig k (by omega)
    unfold gpK at hg
    rw [dif_pos hk2] at hg
    have e : (balsB S b)[k] = clG (gps b)[k].1 (numB S b (gps b)[k]) := List.getElem_map (h := hk) ..
    unfold balF
    rw [dif_pos hk, e, if_pos (st_cl hg)]
  rw [if_neg (by show ¬ ffst (statF (nowsB S b)) (nowsB S b).length ≠ 0; rw [h1]; decide), if_neg (by show ¬ ffst (hldF _) (hldR S b.next b.held (dls b)).length ≠ 0; rw [h2]; decide)]
  exact h3
theorem iss_ow {b : Bks} {l : List Rpt} (ho : ∀ x ∈ l, okRpt x) (h : issF b l = 0) : owF (issB b l) l = 0 ∧ owS (issB b l) l = List.replicate b.ctr.deals.length 0 := by
  have hb := iss_bks ho h
  have hi := isOk h
  have ok := bkOk hi.bk
  have hzl := dls_len ok
  have hB := issB_ok h
  have hc : (issB b l).ctr = b.ctr := by rw [hB]
  have hn : (issB b l).next - 1 = b.next := by rw [hB]; show b.next + 1 - 1 = b.next; omega
  have hs : (issB b l).stated = nowsB (salB b l) b := by rw [hB]
  have hS : salB (issB b l) l = salB b l := by unfold salB; rw [hc]
  have hnl : (nowsB (salB b l) b).length = b.ctr.deals.length := by unfold nowsB; rw [List.length_map, hzl]
  have hD : dls (issB b l) = b.ctr.deals.zip (nowsB (salB b l) b) := by unfold dls; rw [hc, hs]
  have hDl : (dls (issB b l)).length = b.ctr.deals.length := by rw [hD, List.length_zip, hnl, Nat.min_self]
  have hat : ∀ k (hk : k < (dls (issB b l)).length), ∃ hk2 : k < (dls b).length, (dls (issB b l))[k] = ((dls b)[k].1, nowV (salB b l) b.next (dls b)[k].1) := fun k hk => by
    have hk2 : k < (dls b).length := by omega
    have e1 : (dls (issB b l))[k] = ((issB b l).ctr.deals[k]'(by rw [hc]; omega), (issB b l).stated[k]'(by rw [hs]; omega)) := dls_at hk
    have e2 : (issB b l).ctr.deals[k]'(by rw [hc]; omega) = (dls b)[k].1 := by rw [dls_at hk2]; simp only [hc]
    have e3 : (issB b l).stated[k]'(by rw [hs]; omega) = nowV (salB b l) b.next (dls b)[k].1 := by
      have e4 : (nowsB (salB b l) b)[k]'(by omega) = nowV (salB b l) b.next (dls b)[k].1 := List.getElem_map ..
      rw [← e4]; simp only [hs]
    exact ⟨hk2, by rw [e1, e2, e3]⟩
  have hask : ¬ askB (issB b l) l ≠ 0 := by unfold askB; rw [hb, hi.lg]; decide
  have hF : owF (issB b l) l = 0 := by
    rw [ow_k hask]
    refine ffst_zero _ fun k hk => ?_
    rw [hc] at hk
    have hk1 : k < (dls (issB b l)).length := by omega
    obtain ⟨hk2, e⟩ := hat k hk1
    unfold owK
    rw [dif_pos hk1, e, hn, hS, if_neg (Int.not_lt.2 (dl_parts ok hk2 (hi.dl k (by omega))).1)]
  refine ⟨hF, ?_⟩
  rw [owS_ok hF]
  refine List.ext_getElem ?_ fun k h1 h2 => ?_
  · unfold owsB; rw [List.length_map, hDl, List.length_replicate]
  · have hk1 : k < (dls (issB b l)).length := by unfold owsB at h1; rw [List.length_map] at h1; exact h1
    obtain ⟨hk2, e⟩ := hat k hk1
    have e5 : (owsB (salB (issB b l) l) (issB b l))[k] = nowV (salB (issB b l) l) ((issB b l).next - 1) (dls (issB b l))[k].1 - (dls (issB b l))[k].2 := List.getElem_map (h := h1) ..
    rw [e5, e, hn, hS, List.getElem_replicate]
    show nowV (salB b l) b.next (dls b)[k].1 - nowV (salB b l) b.next (dls b)[k].1 = 0
    omega
theorem iss_okB {b : Bks} {l : List Rpt} (hb : okBks b) : okBks (issB b l) := by
  unfold issB
  split
  · exact hb
  · exact ⟨fun x hx => absurd hx List.not_mem_nil, fun x hx => absurd hx List.not_mem_nil, fun x hx => absurd hx List.not_mem_nil⟩

set_option maxRecDepth 100000 in
set_option maxHeartbeats 1000000 in
theorem lawOwe (b : Bks) (l : List Rpt) (hb : okBks b) (ho : ∀ x ∈ l, okRpt x) : ACallT Tryz.prog MaxT 6 [.agg b.ds, .sl (l.map Rpt.ds)] (.v (.bool true)) := by
 refine acall_ofT (n := 56) (ds' := [.v (.bool true)]) Tryz.func6 rfl (by kernel_rfl) rfl [4] rfl rfl ?_
 intro B w0 F0 hT
 refine .sr ?_
 refine .sA (.box rfl rfl rfl) ?_
 refine .aA (.nil ?_)
 refine .sr ?_
 refine .sA (.loadAgg rfl ag_40 rfl rfl) ?_
 refine .mA ?_
 -- wants the world
 refine .callT rfl rfl rfl hT maxT_stays rfl (.cons (.rfl' rfl) (.cons (.rfl' rfl) .nil)) (c_pIss b l hb ho) ?_
 refine .mA ?_
 refine .sA (.extract rfl rfl rfl) ?_
 refine .sA (.extract rfl rfl rfl) ?_
 refine .sA (.extract rfl rfl rfl) ?_
 refine .alloc 101 rfl rfl rfl rfl zt_40 rfl rfl rfl ?_
 refine .store rfl rfl rfl sz_40 rfl (.head _) rfl rfl rfl (Nat.le_of_ble_eq_true rfl) ?_
 refine .freezeCells 5 (ds := (issB b l).ds) rfl (.head _) ?_
 refine .aA ?_
 refine .aA (.nil ?_)
 refine .seq ?_
 refine .sr ?_
 refine .mA ?_
 refine .sA (.neq rfl rfl rfl) (.nil ?_)
 refine .cond rfl (fun h1 => ?_) (fun h1 => ?_)
 ·replace h1 := of_decide_eq_true h1
  have HB : issB b l = zBks := issB_bad h1
  refine .sr ?_
  refine .sA (.fieldAddr rfl fo_40_1 rfl) ?_
  refine .sA (.load rfl sc_3 rfl) ?_
  refine .sA (.eql rfl rfl rfl) ?_
  refine .mA ?_
  refine .split 23 rfl (fun g2 => ?_) (fun g2 => ?_)
  ·replace g2 := of_decide_eq_true g2
   refine .sG (.call rfl .nil c_awake) ?_
   refine .sA (.pickT rfl rfl rfl) ?_
   refine .aA (.nil ?_)
   refine .ret ?_
   refine ⟨RetD.eq rfl ?_, trivial⟩
   all_goals (rfl)
  replace g2 := of_decide_eq_false g2
  exact absurd (by rw [HB]; rfl) g2
 replace h1 := of_decide_eq_false h1
 have HF : issF b l = 0 := Decidable.not_not.1 h1
 refine .skip ?_
 refine .sr ?_
 refine .sA (.loadAgg rfl ag_40 rfl rfl) ?_
 refine .mA ?_
 -- wants the world
 refine .callT rfl rfl rfl hT maxT_stays rfl (.cons (.rfl' rfl) (.cons (.rfl' rfl) .nil)) (c_pOw (issB b l) l (iss_okB hb) ho) ?_
 obtain ⟨HW1, HW2⟩ := iss_ow ho HF
 rw [HW1, HW2, List.map_replicate]
 refine .mA ?_
 refine .sA (.extract rfl rfl rfl) ?_
 refine .sA (.extract rfl rfl rfl) ?_
 refine .aA ?_
 refine .aA (.nil ?_)
 refine .seq ?_
 refine .sr ?_
 refine .mA ?_
 refine .sA (.neq rfl rfl rfl) ?_
 refine .mA ?_
 refine .split 34 rfl (fun g3 => ?_) (fun g3 => ?_)
 ·replace g3 := of_decide_eq_true g3
  exact absurd rfl g3
 replace g3 := of_decide_eq_false g3
 refine .sG (.moveD rfl rfl) ?_
 refine .sG (.lenSl rfl et_37.ht rfl) ?_
 refine .sG (.fieldAddr rfl fo_40_0 rfl) ?_
 refine .sG (.fieldAddr rfl fo_36_1 rfl) ?_
 refine .sG (.load rfl sc_33 rfl) ?_
 refine .sG (.lenSl rfl et_33.ht rfl) ?_
 refine .sG (.neq rfl rfl rfl) ?_
 refine .sA (.pickF rfl rfl rfl) ?_
 refine .mA ?_
 refine .split 43 rfl (fun g4 => ?_) (fun g4 => ?_)
 ·replace g4 := of_decide_eq_true g4
  rw [List.length_replicate, List.length_map] at g4; exact absurd rfl g4
 replace g4 := of_decide_eq_false g4
 refine .sG (.call rfl .nil c_awake) ?_
 refine .sG (.not rfl rfl) ?_
 refine .sA (.pickF rfl rfl rfl) (.nil ?_)
 refine .cond rfl (fun h => nomatch h) (fun _ => ?_)
 refine .skip ?_
 refine .seq ?_
 refine .sr ?_
 refine .mA ?_
 refine .sA (.lenSl rfl et_37.ht rfl) ?_
 refine .mA (.nil ?_)
 refine .block ?_
 refine .loop (G := Nat) (fun k => Env.of [(49, .d (.v (.int .i64 (k : Int)))), (47, .d (.sl (List.replicate b.ctr.deals.length (intD 0)))), (48, .d (.v (.int .i64 ((List.replicate b.ctr.deals.length (intD 0)).length : Int))))]) (fun k => []) (fun k => k ≤ b.ctr.deals.length) (fun k => b.ctr.deals.length - k) 0 (Nat.zero_le _) (Sub.less ⟨(SLe.of_eq rfl), SLe.refl _, SLe.refl _, trivial⟩ (fun _ h => h)) ?_
 intro k hk
 refine .sr ?_
 refine .sA (.lss rfl rfl rfl) (.nil ?_)
 refine .seq ?_
 refine .cond rfl (fun h5 => ?_) (fun h5 => ?_)
 ·replace h5 := of_decide_eq_true h5
  have hdl := (bkOk (isOk HF).bk).dl
  rw [List.length_replicate] at h5
  have hlt : k < b.ctr.deals.length := by omega
  refine .skip ?_
  refine .seq ?_
  refine .block ?_
  refine .sr ?_
  refine .sA (.indexAddr rfl et_37 rfl rfl k rfl (by rw [List.getElem?_replicate, if_pos hlt]) rfl) ?_
  refine .sA (.load rfl sc_3 rfl) ?_
  refine .aA (.nil ?_)
  refine .sr ?_
  refine .mA ?_
  refine .sA (.neq rfl rfl rfl) (.nil ?_)
  refine .cond rfl (fun h6 => ?_) (fun h6 => ?_)
  ·replace h6 := of_decide_eq_true h6
   exact absurd rfl h6
  replace h6 := of_decide_eq_false h6
  refine .skip ?_
  refine .region ?_
  refine .sA (.add64 rfl rfl rfl (by omega) (by omega)) ?_
  refine .mA (.nil ?_)
  refine ⟨k + 1, (by omega), (by dsimp only; omega), Sub.less ⟨(SLe.of_eq rfl), SLe.refl _, SLe.refl _, trivial⟩ (fun _ h => h)⟩
 replace h5 := of_decide_eq_false h5
 refine .exit ?_
 refine .sr ?_
 refine .aA (.nil ?_)
 refine .ret ?_
 refine ⟨RetD.eq rfl ?_, trivial⟩
 all_goals (rfl)

end Go.Proofs.YtcfamaddnmnaeaaGreatDoor
