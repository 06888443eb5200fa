/- Walks and laws over abstract values, merged by tools/merge.py. No statement of the seat. -/
import Derived.StillTailTactics
import Derived.Test.YtcfamaddnmnaeaaGreatDoorZC9
set_option linter.unusedSimpArgs false
set_option linter.unusedVariables false
set_option maxHeartbeats 8000000
set_option maxRecDepth 1000000
namespace Go.Proofs.YtcfamaddnmnaeaaGreatDoor
open Go.RowKit
namespace TyIL
theorem bu_108 : StructT Tryz.prog 108 (fun i => (#[(0, 7), (7, 1), (8, 1)] : Array (Nat × Nat))[i]?) [(.slice none 0 0), (.slice none 0 0), (.slice none 0 0), (.int .i64 0), (.slice none 0 0), (.slice none 0 0), (.slice none 0 0), (.slice none 0 0), (.slice none 0 0)] := .of (by kernel_rfl) (by kernel_rfl) (by decide)
theorem bu_40 : StructT Tryz.prog 40 (fun i => (#[(0, 3), (3, 1), (4, 1), (5, 1), (6, 1)] : Array (Nat × Nat))[i]?) [(.slice none 0 0), (.slice none 0 0), (.slice none 0 0), (.int .i64 0), (.slice none 0 0), (.slice none 0 0), (.slice none 0 0)] := .of (by kernel_rfl) (by kernel_rfl) (by decide)
theorem et_41 : ElemTy Tryz.prog 41 59 7 96 (.agg #[(.int .i64 0), (.string ⟨#[]⟩), (.slice none 0 0), (.int .i64 0), (.int .i64 0), (.slice none 0 0), (.int .i64 0)]) := ⟨by kernel_rfl, by kernel_rfl, by kernel_rfl, by decide⟩
theorem sz_40 : ∀ w, (sizeOf 40).run Tryz.prog w = .ok 7 w := SizeT.of (by kernel_rfl)
theorem zt_40 : (Tryz.prog.info? 40).bind (·.zero) = some (.agg #[(.slice none 0 0), (.slice none 0 0), (.slice none 0 0), (.int .i64 0), (.slice none 0 0), (.slice none 0 0), (.slice none 0 0)]) := by kernel_rfl
end TyIL
open TyF0 TyF1 TyF2 TyF3 TyF4 TyF5 TyF6 TyF11 TyG1 TyG2 TyG5 TyU1 TyU2 TyU3 TyU4 TyM1 TyM2 TyM3 TyM7 TyM8 TyM9 TyO1 TyM10 TyO2 TyU5 TyU6 TyU7 TyU8 TyIA TyIC TyIB TyID TyO3 TyM11 TyO6 TyO7 TyG3 TyIE TyIF TyIG TyIJ TyIK TyIH TyIL
open Go.Lib
theorem AWP.forget {cx : Cx} {c : Code} {e : Env} {σ : Obs} {Q : Post} (id off : Nat) {ss : List S} {s : S} (hm : (id, Ob.cells ss) ∈ σ) (hs : ss[off]? = some s) (k : AWP cx c e (Obs.upd id (.cells (ss.set off (.d .any))) σ) Q) : AWP cx c e σ Q := fun a w ⟨F, ρ, hr⟩ => k a w ⟨F, ρ, hr.recell hm hs (fun x _ => .d (.any _))⟩
theorem in7 {σ : Obs} {n o p q r s t : Nat × Ob} (hn : n ∈ σ) (h0 : o ∈ σ) (h1 : p ∈ σ) (h2 : q ∈ σ) (h3 : r ∈ σ) (h4 : s ∈ σ) (h5 : t ∈ σ) : ∀ x ∈ [n, o, p, q, r, s, t], x ∈ σ := fun x hx => by
  rcases List.mem_cons.1 hx with rfl | hx
  · exact hn
  · exact in6 h0 h1 h2 h3 h4 h5 x hx
theorem iss_ask {b : Bks} {l : List Rpt} (h : askB b l ≠ 0) : issF b l = askB b l := if_pos h
theorem iss_11 {b : Bks} {l : List Rpt} (h : ¬ askB b l ≠ 0) (h1 : 2400 < b.next) : issF b l = 11 := (if_neg h).trans (if_pos h1)
theorem iss_d {b : Bks} {l : List Rpt} (h : ¬ askB b l ≠ 0) (h1 : ¬ 2400 < b.next) (h2 : ffst (dlK (salB b l) b) b.ctr.deals.length ≠ 0) : issF b l = ffst (dlK (salB b l) b) b.ctr.deals.length := (if_neg h).trans ((if_neg h1).trans (if_pos h2))
theorem iss_g {b : Bks} {l : List Rpt} (h : ¬ askB b l ≠ 0) (h1 : ¬ 2400 < b.next) (h2 : ffst (dlK (salB b l) b) b.ctr.deals.length = 0) : issF b l = ffst (gpK (salB b l) b) b.ctr.groups.length := (if_neg h).trans ((if_neg h1).trans (if_neg (fun hh => hh h2)))
theorem issB_bad {b : Bks} {l : List Rpt} (h : issF b l ≠ 0) : issB b l = zBks := if_neg h
theorem issS_bad {b : Bks} {l : List Rpt} (h : issF b l ≠ 0) : issS b l = [] := if_neg h
theorem issB_ok {b : Bks} {l : List Rpt} (h : issF b l = 0) : issB b l = ⟨b.ctr, b.next + 1, nowsB (salB b l) b, hldR (salB b l) b.next b.held (dls b), balsB (salB b l) b⟩ := if_pos h
theorem issS_ok {b : Bks} {l : List Rpt} (h : issF b l = 0) : issS b l = stmsB (salB b l) b := if_pos h
theorem c_pIss (b : Bks) (l : List Rpt) (hb : okBks b) (ho : ∀ x ∈ l, okRpt x) : ACallT Tryz.prog MaxT 14 [.agg b.ds, .sl (l.map Rpt.ds)] (.tup [.agg (issB b l).ds, .sl ((issS b l).map Stm.ds), .v (.int .i64 (issF b l))]) := by
 refine acall_ofRT (n := 107) (ds' := [.agg (issB b l).ds, .sl ((issS b l).map Stm.ds), .v (.int .i64 (issF b l))]) Tryz.func14 rfl (by kernel_rfl) rfl [.cell 4 40, .tmp 5, .tmp 6] rfl rfl ?_
 intro B w0 F0 hT
 refine .sr (.boxOwn 700 rfl rfl rfl rfl rfl rfl rfl ?_)
 refine .alloc 710 rfl rfl rfl rfl zt_40 rfl rfl rfl ?_
 refine .aA ?_
 refine .aA (.nil ?_)
 refine .seq (.sr (.sA (.loadPU rfl ag_40 rfl (.tail _ (.head _)) rfl rfl) ?_))
 refine .mA ?_
 -- wants the world
 refine .callT rfl rfl rfl hT maxT_stays rfl (.cons (.rfl' rfl) (.cons (.rfl' rfl) .nil)) (c_pCkI b l hb ho) ?_
 refine .aA (.nil ?_)
 refine .sr (.mA ?_)
 refine .sA (.neq rfl rfl rfl) (.nil ?_)
 refine .cond rfl (fun h1 => ?_) (fun h1 => ?_)
 ·replace h1 := dcT h1
  have HF := iss_ask h1
  rw [issB_bad (by rw [HF]; exact h1), issS_bad (by rw [HF]; exact h1), HF]
  refine .sr (.sA (.build rfl bu_40 .nil rfl) ?_)
  refine .mA ?_
  refine .store rfl rfl rfl sz_40 rfl (.head _) rfl rfl rfl (Nat.le_of_ble_eq_true rfl) ?_
  refine .aA ?_
  refine .aA (.nil ?_)
  refine .ret ?_
  refine ⟨RetR.agg rfl (.head _) ag_40 rfl (.cons (by first | exact CellD.nil | exact CellD.d | exact CellD.eq (by simp) | (refine CellD.own (by first | exact .head _ | exact .tail _ (.head _)) ?_; rfl)) (.cons (by first | exact CellD.nil | exact CellD.d | exact CellD.eq (by simp) | (refine CellD.own (by first | exact .head _ | exact .tail _ (.head _)) ?_; rfl)) (.cons (by first | exact CellD.nil | exact CellD.d | exact CellD.eq (by simp) | (refine CellD.own (by first | exact .head _ | exact .tail _ (.head _)) ?_; rfl)) (.cons (by first | exact CellD.nil | exact CellD.d | exact CellD.eq (by simp) | (refine CellD.own (by first | exact .head _ | exact .tail _ (.head _)) ?_; rfl)) (.cons (by first | exact CellD.nil | exact CellD.d | exact CellD.eq (by simp) | (refine CellD.own (by first | exact .head _ | exact .tail _ (.head _)) ?_; rfl)) (.cons (by first | exact CellD.nil | exact CellD.d | exact CellD.eq (by simp) | (refine CellD.own (by first | exact .head _ | exact .tail _ (.head _)) ?_; rfl)) (.cons (by first | exact CellD.nil | exact CellD.d | exact CellD.eq (by simp) | (refine CellD.own (by first | exact .head _ | exact .tail _ (.head _)) ?_; rfl)) .nil))))))), RetD.nil rfl, RetD.eq rfl ?_, trivial⟩
  all_goals (first | rfl)
 replace h1 := dcF h1
 have h0 : ¬ askB b l ≠ 0 := h1
 obtain ⟨hbz, hlz⟩ := ask_0 (Decidable.not_not.1 h0)
 have okb := bkOk hbz
 have hlog := log_of hlz
 have okS : SalsOk (salB b l) := sals_ok hlog ho okb.als
 have hnx := okb.next
 have hdl := okb.dl
 have hgl := okb.gl
 have hzl := dls_len okb
 have hgz := gps_len okb
 refine .skip (.seq (.sr (.sA (.fieldAddrP rfl fo_40_1 rfl) ?_)))
 refine .sA (.loadP rfl sc_3 rfl (.tail _ (.head _)) rfl) ?_
 refine .sA (.gtr rfl rfl rfl) (.nil ?_)
 refine .cond rfl (fun h2 => ?_) (fun h2 => ?_)
 ·replace h2 := dcT h2
  have HF := iss_11 h0 h2
  rw [issB_bad (by rw [HF]; decide), issS_bad (by rw [HF]; decide), HF]
  refine .sr (.sA (.build rfl bu_40 .nil rfl) ?_)
  refine .store rfl rfl rfl sz_40 rfl (.head _) rfl rfl rfl (Nat.le_of_ble_eq_true rfl) ?_
  refine .aA ?_
  refine .aA (.nil ?_)
  refine .ret ?_
  refine ⟨RetR.agg rfl (.head _) ag_40 rfl (.cons (by first | exact CellD.nil | exact CellD.d | exact CellD.eq (by simp) | (refine CellD.own (by first | exact .head _ | exact .tail _ (.head _)) ?_; rfl)) (.cons (by first | exact CellD.nil | exact CellD.d | exact CellD.eq (by simp) | (refine CellD.own (by first | exact .head _ | exact .tail _ (.head _)) ?_; rfl)) (.cons (by first | exact CellD.nil | exact CellD.d | exact CellD.eq (by simp) | (refine CellD.own (by first | exact .head _ | exact .tail _ (.head _)) ?_; rfl)) (.cons (by first | exact CellD.nil | exact CellD.d | exact CellD.eq (by simp) | (refine CellD.own (by first | exact .head _ | exact .tail _ (.head _)) ?_; rfl)) (.cons (by first | exact CellD.nil | exact CellD.d | exact CellD.eq (by simp) | (refine CellD.own (by first | exact .head _ | exact .tail _ (.head _)) ?_; rfl)) (.cons (by first | exact CellD.nil | exact CellD.d | exact CellD.eq (by simp) | (refine CellD.own (by first | exact .head _ | exact .tail _ (.head _)) ?_; rfl)) (.cons (by first | exact CellD.nil | exact CellD.d | exact CellD.eq (by simp) | (refine CellD.own (by first | exact .head _ | exact .tail _ (.head _)) ?_; rfl)) .nil))))))), RetD.nil rfl, RetD.eq rfl ?_, trivial⟩
  all_goals (first | rfl)
 replace h2 := dcF h2
 have h1n : ¬ 2400 < b.next := h2
 refine .skip (.sr (.mA ?_))
 refine .sA (.fieldAddrP rfl fo_40_0 rfl) (.sA (.fieldAddrP rfl fo_36_0 rfl) (.sA (.loadP rfl sc_32 rfl (.tail _ (.head _)) rfl) (.sA (.call rfl (.cons (.rfl' rfl) (.cons (.rfl' rfl) .nil)) (c_sums l b.ctr.als hlog ho okb.als)) ?_)))
 refine .mA ?_
 refine .sA (.extract rfl rfl rfl) (.sA (.extract rfl rfl rfl) ?_)
 refine .aA ?_
 refine .aA (.nil ?_)
 refine .seq (.drawFresh 13 [⟨41, 501, .own 501, .row 3 1 (b.stated.map intD)⟩, ⟨44, 502, .own 502, .row 105 3 (b.held.map Hld.ds)⟩, ⟨47, 503, .own 503, .row 3 1 (b.bal.map intD)⟩] (FrOk.three rfl (by simp) rfl rfl rfl rfl (by simp) rfl rfl rfl rfl (by simp) rfl rfl rfl (Nat.ne_of_beq_eq_false rfl) (Nat.ne_of_beq_eq_false rfl) (Nat.ne_of_beq_eq_false rfl) (Nat.ne_of_beq_eq_false rfl) (Nat.ne_of_beq_eq_false rfl) (Nat.ne_of_beq_eq_false rfl) ⟨rfl, rfl⟩ ⟨rfl, rfl⟩ ⟨rfl, rfl⟩ ⟨rfl, rfl⟩ ⟨rfl, rfl⟩ ⟨rfl, rfl⟩) (by kernel_rfl) (by kernel_rfl) (by kernel_rfl) (by kernel_rfl) ?_)
 refine .step rfl rfl rfl (.fieldAddrP rfl fo_40_0 rfl) ?_ (hs := ⟨.inl rfl, .inl rfl, .inl rfl, trivial⟩)
 refine .step rfl rfl rfl (.loadPU rfl ag_36 rfl (.tail _ (.head _)) rfl rfl) ?_ (hs := ⟨.inl rfl, .inl rfl, .inl rfl, trivial⟩)
 refine .step rfl rfl rfl (.call rfl (.cons (.rfl' rfl) .nil) (c_ownCtr b.ctr (ctr_ok okb.ctr))) ?_ (hs := ⟨.inl rfl, .inl rfl, .inl rfl, trivial⟩)
 refine .step rfl rfl rfl (.fieldAddrP rfl fo_40_2 rfl) ?_ (hs := ⟨.inl rfl, .inl rfl, .inl rfl, trivial⟩)
 refine .step rfl rfl rfl (.loadP rfl sc_37 rfl (.tail _ (.head _)) rfl) ?_ (hs := ⟨.inl rfl, .inl rfl, .inl rfl, trivial⟩)
 refine .callO _ (.head _) rfl rfl rfl rfl rfl (.cons (.rfl' rfl) .nil) (c_clInt b.stated (by have := okb.sl; have := okb.dl; omega)) rfl rfl ?_
 refine .step rfl rfl rfl (.fieldAddrP rfl fo_40_3 rfl) ?_ (hs := ⟨.inl rfl, .inl rfl, .inl rfl, trivial⟩)
 refine .step rfl rfl rfl (.loadP rfl sc_38 rfl (.tail _ (.head _)) rfl) ?_ (hs := ⟨.inl rfl, .inl rfl, .inl rfl, trivial⟩)
 refine .callO _ (.tail _ (.head _)) rfl rfl rfl rfl rfl (.cons (.rfl' rfl) .nil) (c_clHld b.held (by have := held_len okb; omega)) rfl rfl ?_
 refine .step rfl rfl rfl (.fieldAddrP rfl fo_40_4 rfl) ?_ (hs := ⟨.inl rfl, .inl rfl, .inl rfl, trivial⟩)
 refine .step rfl rfl rfl (.loadP rfl sc_37 rfl (.tail _ (.head _)) rfl) ?_ (hs := ⟨.inl rfl, .inl rfl, .inl rfl, trivial⟩)
 refine .callO _ (.tail _ (.tail _ (.head _))) rfl rfl rfl rfl rfl (.cons (.rfl' rfl) .nil) (c_clInt b.bal (by have := okb.bl; have := okb.gl; omega)) rfl rfl ?_
 refine .step rfl rfl rfl (.fieldAddrP rfl fo_40_0 rfl) ?_ (hs := ⟨.inl rfl, .inl rfl, .inl rfl, trivial⟩)
 refine .nil ⟨rfl, rfl, rfl, trivial⟩ ?_
 refine .store rfl rfl rfl sz_36 rfl (.tail _ (.tail _ (.tail _ (.tail _ (.head _))))) rfl rfl rfl (Nat.le_of_ble_eq_true rfl) ?_
 refine .sA (.fieldAddrP rfl fo_40_2 rfl) ?_
 refine .storeS rfl rfl rfl sz_37 rfl (.tail _ (.tail _ (.tail _ (.tail _ (.head _))))) rfl (.head _) (Nat.le_of_ble_eq_true rfl) ?_
 refine .sA (.fieldAddrP rfl fo_40_3 rfl) ?_
 refine .storeS rfl rfl rfl sz_38 rfl (.tail _ (.tail _ (.tail _ (.tail _ (.head _))))) rfl (.tail _ (.head _)) (Nat.le_of_ble_eq_true rfl) ?_
 refine .sA (.fieldAddrP rfl fo_40_4 rfl) ?_
 refine .storeS rfl rfl rfl sz_37 rfl (.tail _ (.tail _ (.tail _ (.tail _ (.head _))))) rfl (.tail _ (.tail _ (.head _))) (Nat.le_of_ble_eq_true rfl) (.nil ?_)
 refine .sr (.loadVal 720 rfl rfl rfl rfl ag_40 rfl (.tail _ (.tail _ (.tail _ (.tail _ (.head _))))) (Nat.le_of_ble_eq_true rfl) rfl ?_)
 refine .mA ?_
 refine .buildV 721 rfl rfl rfl rfl bu_108 rfl rfl rfl rfl rfl rfl rfl (.head _) rfl rfl rfl rfl ?_
 refine .boxVal 600 rfl rfl rfl rfl rfl (.head _) rfl ?_
 refine .sA (.assignP rfl rfl) (.nil ?_)
 refine .seq (.seq (.forget 700 4 (.tail _ (.tail _ (.tail _ (.tail _ (.tail _ (.tail _ (.tail _ (.head _)))))))) rfl ?_))
 refine .forget 700 5 (.tail _ (.tail _ (.tail _ (.tail _ (.tail _ (.tail _ (.tail _ (.head _)))))))) rfl ?_
 refine .forget 700 6 (.tail _ (.tail _ (.tail _ (.tail _ (.tail _ (.tail _ (.tail _ (.head _)))))))) rfl ?_
 refine .adoptCell 504 114 5 600 8 (.head _) rfl rfl ?_
 refine .region (.sA (.fieldAddrP rfl fo_40_0 rfl) ?_)
 refine .sA (.fieldAddrP rfl fo_36_1 rfl) (.sA (.loadP rfl sc_33 rfl (.tail _ (.tail _ (.tail _ (.tail _ (.tail _ (.tail _ (.tail _ (.tail _ (.head _))))))))) rfl) (.sA (.lenSl rfl et_33.ht rfl) ?_))
 refine .mA (.nil ?_)
 refine .block (.loop (G := Nat) (fun k => Env.of [(60, .d (.v (.int .i64 (k : Int)))), (59, .d (.v (.int .i64 ((b.ctr.deals.map Deal.ds).length : Int)))), (10, .ptr 600 0), (4, .ptr 710 0), (2, .ptr 700 0)]) (fun k => [isC b.ctr b.next (salB b l), isT (tK (salB b l) b k), isH (lK (salB b l) b k), isB b.bal, isR (rK (salB b l) b k), (700, .cells [.d (.sl (b.ctr.als.map Ali.ds)), .d (.sl (b.ctr.deals.map Deal.ds)), .d (.sl (b.ctr.groups.map Grp.ds)), .d (.v (.int .i64 b.next)), .d .any, .d .any, .d .any]), (710, .cells [.d (.v (.slice none 0 0)), .d (.v (.slice none 0 0)), .d (.v (.slice none 0 0)), .d (.v (.int .i64 0)), .d (.v (.slice none 0 0)), .d (.v (.slice none 0 0)), .d (.v (.slice none 0 0))])]) (fun k => k ≤ b.ctr.deals.length ∧ ffst (dlK (salB b l) b) k = 0) (fun k => b.ctr.deals.length - k) 0 ⟨Nat.zero_le _, rfl⟩ (Sub.less ⟨(SLe.of_eq rfl), SLe.refl _, SLe.refl _, SLe.refl _, SLe.refl _, trivial⟩ (in7 (.tail _ (.head _)) (.tail _ (.tail _ (.tail _ (.tail _ (.head _))))) (.tail _ (.tail _ (.tail _ (.tail _ (.tail _ (.head _)))))) (.tail _ (.tail _ (.tail _ (.tail _ (.tail _ (.tail _ (.head _))))))) (.head _) (.tail _ (.tail _ (.tail _ (.tail _ (.tail _ (.tail _ (.tail _ (.tail _ (.head _))))))))) (.tail _ (.tail _ (.tail _ (.tail _ (.tail _ (.tail _ (.tail _ (.head _)))))))))) ?_)
 intro k hk
 refine .sr ?_
 refine .sA (.lss rfl rfl rfl) (.nil ?_)
 refine .seq ?_
 refine .cond rfl (fun h3 => ?_) (fun h3 => ?_)
 ·replace h3 := dcT h3
  rw [List.length_map] at h3
  have hlt : k < b.ctr.deals.length := by omega
  have hz : k < (dls b).length := by omega
  have hda : b.ctr.deals[k]? = some (dls b)[k].1 := by rw [dls_at hz]; exact List.getElem?_eq_getElem hlt
  have hD := okb.deal _ (dls_mem (List.getElem_mem hz)).1
  have hS := okb.st _ (dls_mem (List.getElem_mem hz)).2
  have hL := lK_ok (S := (salB b l)) okb k
  have hRl : (rK (salB b l) b k).length ≤ 40 := by unfold rK; rw [List.length_take, rowsB_len okb]; omega
  have HK : dlK (salB b l) b k = dlF (salB b l) b.next b.held ((dls b)[k].1, (dls b)[k].2) := dif_pos hz
  refine .skip (.seq (.block (.sr (.mA ?_))))
  refine .aA (.nil ?_)
  refine .sr (.sA (.moveP rfl rfl) ?_)
  refine .mA ?_
  -- writes 600 501 502 504
  refine .callX rfl rfl rfl (.cons (SLe.refl _) (.cons (SLe.refl _) .nil)) (c_deal b.ctr b.next (salB b l) b.held (lK (salB b l) b k) (tK (salB b l) b k) (rK (salB b l) b k) k (dls b)[k].1 (dls b)[k].2 hda (tK_at okb hz) okS hD.1 hL.1 (by omega) (fun q => lK_cen okb hz q) (fun q => cen_rng okb.held (fun x hx => (okb.hr x hx).2.2) _) hS (by omega) ⟨hD.2.2.2.1, hD.2.2.2.2⟩ hRl) ⟨(.head _), (.tail _ (.head _)), (.tail _ (.tail _ (.head _))), (.tail _ (.tail _ (.tail _ (.tail _ (.head _))))), trivial⟩ rfl rfl (fun _ h => rfl) ?_
  rw [← HK]
  refine .aA (.nil ?_)
  refine .sr (.mA ?_)
  refine .sA (.neq rfl rfl rfl) (.nil ?_)
  refine .cond rfl (fun h4 => ?_) (fun h4 => ?_)
  ·replace h4 := dcT h4
   have HX := ffst_hit (f := dlK (salB b l) b) hk.2 h4 _ hlt
   have HF := (iss_d h0 h1n (by rw [HX]; exact h4)).trans HX
   rw [issB_bad (by rw [HF]; exact h4), issS_bad (by rw [HF]; exact h4), HF]
   refine .sr (.sA (.build rfl bu_40 .nil rfl) ?_)
   refine .mA ?_
   refine .store rfl rfl rfl sz_40 rfl (.tail _ (.tail _ (.tail _ (.tail _ (.tail _ (.tail _ (.head _))))))) rfl rfl rfl (Nat.le_of_ble_eq_true rfl) ?_
   refine .aA ?_
   refine .aA (.nil ?_)
   refine .ret ?_
   refine ⟨RetR.agg rfl (.tail _ (.tail _ (.tail _ (.tail _ (.tail _ (.tail _ (.head _))))))) ag_40 rfl (.cons (by first | exact CellD.nil | exact CellD.d | exact CellD.eq (by simp) | (refine CellD.own (by first | exact .head _ | exact .tail _ (.head _)) ?_; rfl)) (.cons (by first | exact CellD.nil | exact CellD.d | exact CellD.eq (by simp) | (refine CellD.own (by first | exact .head _ | exact .tail _ (.head _)) ?_; rfl)) (.cons (by first | exact CellD.nil | exact CellD.d | exact CellD.eq (by simp) | (refine CellD.own (by first | exact .head _ | exact .tail _ (.head _)) ?_; rfl)) (.cons (by first | exact CellD.nil | exact CellD.d | exact CellD.eq (by simp) | (refine CellD.own (by first | exact .head _ | exact .tail _ (.head _)) ?_; rfl)) (.cons (by first | exact CellD.nil | exact CellD.d | exact CellD.eq (by simp) | (refine CellD.own (by first | exact .head _ | exact .tail _ (.head _)) ?_; rfl)) (.cons (by first | exact CellD.nil | exact CellD.d | exact CellD.eq (by simp) | (refine CellD.own (by first | exact .head _ | exact .tail _ (.head _)) ?_; rfl)) (.cons (by first | exact CellD.nil | exact CellD.d | exact CellD.eq (by simp) | (refine CellD.own (by first | exact .head _ | exact .tail _ (.head _)) ?_; rfl)) .nil))))))), RetD.nil rfl, RetD.eq rfl ?_, trivial⟩
   all_goals (first | rfl)
  replace h4 := dcF h4
  have HZ : dlK (salB b l) b k = 0 := Decidable.not_not.1 h4
  have HB : ¬ 1000000000000 < basV (dls b)[k].1 b.next (salB b l) := fun hh => by
   rw [HK] at HZ
   unfold dlF at HZ
   rw [if_pos hh] at HZ
   exact absurd HZ (by decide)
  have HT := tK_next (S := (salB b l)) okb hz
  have HL := lK_next (S := (salB b l)) hz
  have HR := rK_next (S := (salB b l)) hz
  simp only [if_neg HB]
  refine .skip (.region (.sA (.add64 rfl rfl rfl (by omega) (by omega)) ?_))
  refine .mA (.nil ?_)
  refine ⟨k + 1, ⟨by omega, ffst_next hk.2 HZ⟩, (by dsimp only; omega), Sub.less ⟨(SLe.of_eq rfl), SLe.refl _, SLe.refl _, SLe.refl _, SLe.refl _, trivial⟩ (in7 (.head _) (mem_ob_eq (.tail _ (.head _)) (by rw [HT])) (mem_ob_eq (.tail _ (.tail _ (.head _))) (by rw [HL]; first | done | rfl)) (.tail _ (.tail _ (.tail _ (.tail _ (.head _))))) (mem_ob_eq (.tail _ (.tail _ (.tail _ (.head _)))) (by rw [HR]; first | done | rfl)) (.tail _ (.tail _ (.tail _ (.tail _ (.tail _ (.head _)))))) (.tail _ (.tail _ (.tail _ (.tail _ (.tail _ (.tail _ (.head _))))))))⟩
 replace h3 := dcF h3
 rw [List.length_map] at h3
 obtain rfl : k = b.ctr.deals.length := by omega
 rw [tK_end okb, lK_end okb, rK_end okb]
 have hdz := ffst_all _ hk.2
 have hRw := rows_ok okS okb hdz
 refine .exit (.sr ?_)
 refine .aA (.nil ?_)
 refine .seq (.seq (.freezeIn 600 4 rfl (.head _) (.tail _ (.head _)) ?_))
 refine .freezeIn 600 5 rfl (.head _) (.tail _ (.head _)) ?_
 refine .freezeIn 600 8 rfl (.head _) (.tail _ (.tail _ (.head _))) ?_
 refine .region (.sA (.fieldAddrP rfl fo_40_0 rfl) ?_)
 refine .sA (.fieldAddrP rfl fo_36_2 rfl) (.sA (.loadP rfl sc_34 rfl (.tail _ (.tail _ (.head _))) rfl) (.sA (.lenSl rfl et_34.ht rfl) ?_))
 refine .mA (.nil ?_)
 refine .block (.adopt 13 505 59 7 rfl rfl ?_)
 have hd0 := hk.2
 refine .loop (G := Nat) (fun k => Env.of [(75, .d (.v (.int .i64 (k : Int)))), (74, .d (.v (.int .i64 ((b.ctr.groups.map Grp.ds).length : Int)))), (10, .ptr 600 0), (4, .ptr 710 0), (13, .own 505)]) (fun k => [(505, .row 59 7 (((stmsB (salB b l) b).take k).map Stm.ds)), isG b.ctr b.next (nowsB (salB b l) b) (hldR (salB b l) b.next b.held (dls b)) (salB b l) (rowsB (salB b l) b), isB (bK (salB b l) b k), (710, .cells [.d (.v (.slice none 0 0)), .d (.v (.slice none 0 0)), .d (.v (.slice none 0 0)), .d (.v (.int .i64 0)), .d (.v (.slice none 0 0)), .d (.v (.slice none 0 0)), .d (.v (.slice none 0 0))])]) (fun k => k ≤ b.ctr.groups.length ∧ ffst (gpK (salB b l) b) k = 0) (fun k => b.ctr.groups.length - k) 0 ⟨Nat.zero_le _, rfl⟩ (Sub.less ⟨(SLe.of_eq rfl), SLe.refl _, SLe.refl _, SLe.refl _, SLe.refl _, trivial⟩ (in4 (.head _) (.tail _ (.head _)) (.tail _ (.tail _ (.head _))) (.tail _ (.tail _ (.tail _ (.tail _ (.head _))))))) ?_
 intro k hk
 refine .sr ?_
 refine .sA (.lss rfl rfl rfl) (.nil ?_)
 refine .seq ?_
 refine .cond rfl (fun h5 => ?_) (fun h5 => ?_)
 ·replace h5 := dcT h5
  rw [List.length_map] at h5
  have hlt : k < b.ctr.groups.length := by omega
  have hz : k < (gps b).length := by omega
  have hga : b.ctr.groups[k]? = some (gps b)[k].1 := by rw [gps_at hz]; exact List.getElem?_eq_getElem hlt
  have hgm := gps_mem (List.getElem_mem hz)
  have HK : gpK (salB b l) b k = stF (gps b)[k].1 (numB (salB b l) b (gps b)[k]) := dif_pos hz
  have hsl : k < (stmsB (salB b l) b).length := by unfold stmsB; rw [List.length_map]; exact hz
  refine .skip (.seq (.block (.sr (.mA ?_))))
  refine .aA (.nil ?_)
  refine .sr (.sA (.moveP rfl rfl) ?_)
  refine .mA ?_
  -- writes 600 503
  refine .callX rfl rfl rfl (.cons (SLe.refl _) (.cons (SLe.refl _) .nil)) (c_grp b.ctr b.next (salB b l) (hldR (salB b l) b.next b.held (dls b)) (nowsB (salB b l) b) (rowsB (salB b l) b) (bK (salB b l) b k) k (gps b)[k].1 (gps b)[k].2 hga (bK_at okb hz) (rowsB_len okb) hdl hRw (okb.ba _ hgm.2) (okb.cut _ hgm.1)) ⟨(.tail _ (.head _)), (.tail _ (.tail _ (.head _))), trivial⟩ rfl rfl (fun _ h => rfl) ?_
  rw [show stF (gps b)[k].1 (numG (gps b)[k].2 (rowsG (gps b)[k].1.name (b.ctr.deals.zip (rowsB (salB b l) b)))) = gpK (salB b l) b k from HK.symm]
  refine .mA ?_
  refine .sA (.extract rfl rfl rfl) (.sA (.extract rfl rfl rfl) ?_)
  refine .alloc 106 rfl rfl rfl rfl zt_59 rfl rfl rfl ?_
  refine .store rfl rfl rfl sz_59 rfl (.head _) rfl rfl rfl (Nat.le_of_ble_eq_true rfl) ?_
  refine .freezeCells 15 (ds := (if gpK (salB b l) b k = 0 then stG b.next (gps b)[k].1 (gps b)[k].2 (rsG (salB b l) b (gps b)[k]) else badG b.next (gps b)[k].1 (gps b)[k].2 (rsG (salB b l) b (gps b)[k])).ds) rfl (.head _) ?_
  refine .aA (.nil ?_)
  refine .seq (.sr (.mA ?_))
  refine .sA (.neq rfl rfl rfl) (.nil ?_)
  refine .cond rfl (fun h6 => ?_) (fun h6 => ?_)
  ·replace h6 := dcT h6
   have HX := ffst_hit (f := gpK (salB b l) b) hk.2 h6 _ hlt
   have HF := (iss_g h0 h1n hd0).trans HX
   rw [issB_bad (by rw [HF]; exact h6), issS_bad (by rw [HF]; exact h6), HF]
   refine .sr (.sA (.build rfl bu_40 .nil rfl) ?_)
   refine .mA ?_
   refine .store rfl rfl rfl sz_40 rfl (.tail _ (.tail _ (.tail _ (.head _)))) rfl rfl rfl (Nat.le_of_ble_eq_true rfl) ?_
   refine .aA ?_
   refine .aA (.nil ?_)
   refine .ret ?_
   refine ⟨RetR.agg rfl (.tail _ (.tail _ (.tail _ (.head _)))) ag_40 rfl (.cons (by first | exact CellD.nil | exact CellD.d | exact CellD.eq (by simp) | (refine CellD.own (by first | exact .head _ | exact .tail _ (.head _)) ?_; rfl)) (.cons (by first | exact CellD.nil | exact CellD.d | exact CellD.eq (by simp) | (refine CellD.own (by first | exact .head _ | exact .tail _ (.head _)) ?_; rfl)) (.cons (by first | exact CellD.nil | exact CellD.d | exact CellD.eq (by simp) | (refine CellD.own (by first | exact .head _ | exact .tail _ (.head _)) ?_; rfl)) (.cons (by first | exact CellD.nil | exact CellD.d | exact CellD.eq (by simp) | (refine CellD.own (by first | exact .head _ | exact .tail _ (.head _)) ?_; rfl)) (.cons (by first | exact CellD.nil | exact CellD.d | exact CellD.eq (by simp) | (refine CellD.own (by first | exact .head _ | exact .tail _ (.head _)) ?_; rfl)) (.cons (by first | exact CellD.nil | exact CellD.d | exact CellD.eq (by simp) | (refine CellD.own (by first | exact .head _ | exact .tail _ (.head _)) ?_; rfl)) (.cons (by first | exact CellD.nil | exact CellD.d | exact CellD.eq (by simp) | (refine CellD.own (by first | exact .head _ | exact .tail _ (.head _)) ?_; rfl)) .nil))))))), RetD.nil rfl, RetD.eq rfl ?_, trivial⟩
   all_goals (first | rfl)
  replace h6 := dcF h6
  have HZ : gpK (salB b l) b k = 0 := Decidable.not_not.1 h6
  have HZ2 := HK.symm.trans HZ
  have HT := bK_next (S := (salB b l)) okb hz
  have HX : (if gpK (salB b l) b k = 0 then stG b.next (gps b)[k].1 (gps b)[k].2 (rsG (salB b l) b (gps b)[k]) else badG b.next (gps b)[k].1 (gps b)[k].2 (rsG (salB b l) b (gps b)[k])) = (stmsB (salB b l) b)[k] := by
   rw [if_pos HZ]
   exact (List.getElem_map (h := hsl) ..).symm
  have HS := takeS hsl
  refine .skip (.region (.sA (.moveO rfl rfl) ?_))
  refine .sA (.loadAgg rfl ag_59 rfl rfl) ?_
  refine .sA (.buildSlice rfl et_41 (.cons rfl rfl rfl .nil) rfl (by decide)) ?_
  -- append 91
  refine .append rfl rfl rfl rfl et_41 rfl (.tail _ (.tail _ (.head _))) rfl (by simp [D.parts, Stm.ds]) (by simp; omega) (by simp; omega) ?_
  refine .sA (.assignO rfl rfl) (.nil ?_)
  refine .region (.sA (.add64 rfl rfl rfl (by omega) (by omega)) ?_)
  refine .mA (.nil ?_)
  refine ⟨k + 1, ⟨by omega, ffst_next hk.2 HZ⟩, (by dsimp only; omega), Sub.less ⟨(SLe.of_eq rfl), SLe.refl _, SLe.refl _, SLe.refl _, SLe.refl _, trivial⟩ (in4 (mem_ob_eq (.tail _ (.tail _ (.head _))) (by rw [HS, ← HX, List.map_append]; rfl)) (.head _) (mem_ob_eq (.tail _ (.head _)) (by rw [← HT, if_pos HZ]; rfl)) (.tail _ (.tail _ (.tail _ (.head _)))))⟩
 replace h5 := dcF h5
 rw [List.length_map] at h5
 obtain rfl : k = b.ctr.groups.length := by omega
 rw [bK_end okb]
 have HF : issF b l = 0 := (iss_g h0 h1n (by assumption)).trans hk.2
 rw [issB_ok HF, issS_ok HF, HF]
 have hstl : (stmsB (salB b l) b).length = b.ctr.groups.length := by unfold stmsB; rw [List.length_map]; exact hgz
 rw [← hstl, List.take_length]
 refine .exit (.sr (.sA (.moveP rfl rfl) ?_))
 refine .sA (.nilCheckP rfl rfl) (.sA (.fieldAddrP rfl fo_108_0 rfl) (.sA (.fieldAddrP rfl fo_40_1 rfl) (.sA (.loadP rfl sc_3 rfl (.tail _ (.head _)) rfl) ?_)))
 refine .sA (.add64 rfl rfl rfl (by omega) (by omega)) ?_
 refine .sA (.nilCheckP rfl rfl) (.sA (.fieldAddrP rfl fo_108_0 rfl) (.sA (.fieldAddrP rfl fo_40_1 rfl) ?_))
 refine .store rfl rfl rfl sz_3 rfl (.tail _ (.head _)) rfl rfl rfl (Nat.le_of_ble_eq_true rfl) (.nil ?_)
 refine .seq (.freezeIn 600 6 rfl (.tail _ (.head _)) (.tail _ (.tail _ (.head _))) ?_)
 refine .region (.sA (.moveP rfl rfl) ?_)
 refine .sA (.nilCheckP rfl rfl) (.sA (.fieldAddrP rfl fo_108_0 rfl) (.sA (.loadPU rfl ag_40 rfl (.tail _ (.head _)) rfl rfl) (.sA (.moveO rfl rfl) ?_)))
 refine .store rfl rfl rfl sz_40 rfl (.tail _ (.tail _ (.head _))) rfl rfl rfl (Nat.le_of_ble_eq_true rfl) ?_
 refine .sA (.assignO rfl rfl) ?_
 refine .aA (.nil ?_)
 refine .ret ?_
 refine ⟨RetR.agg rfl (.tail _ (.tail _ (.head _))) ag_40 rfl (.cons (by first | exact CellD.nil | exact CellD.d | exact CellD.eq (by simp) | (refine CellD.own (by first | exact .head _ | exact .tail _ (.head _)) ?_; rfl)) (.cons (by first | exact CellD.nil | exact CellD.d | exact CellD.eq (by simp) | (refine CellD.own (by first | exact .head _ | exact .tail _ (.head _)) ?_; rfl)) (.cons (by first | exact CellD.nil | exact CellD.d | exact CellD.eq (by simp) | (refine CellD.own (by first | exact .head _ | exact .tail _ (.head _)) ?_; rfl)) (.cons (by first | exact CellD.nil | exact CellD.d | exact CellD.eq (by simp) | (refine CellD.own (by first | exact .head _ | exact .tail _ (.head _)) ?_; rfl)) (.cons (by first | exact CellD.nil | exact CellD.d | exact CellD.eq (by simp) | (refine CellD.own (by first | exact .head _ | exact .tail _ (.head _)) ?_; rfl)) (.cons (by first | exact CellD.nil | exact CellD.d | exact CellD.eq (by simp) | (refine CellD.own (by first | exact .head _ | exact .tail _ (.head _)) ?_; rfl)) (.cons (by first | exact CellD.nil | exact CellD.d | exact CellD.eq (by simp) | (refine CellD.own (by first | exact .head _ | exact .tail _ (.head _)) ?_; rfl)) .nil))))))), RetD.own rfl (.head _) ?_, RetD.eq rfl ?_, trivial⟩
 all_goals (first | rfl)
namespace TyIM
end TyIM
open TyF0 TyF1 TyF2 TyF3 TyF4 TyF5 TyF6 TyF11 TyG1 TyG2 TyG5 TyU1 TyU2 TyU3 TyU4 TyM1 TyM2 TyM3 TyM7 TyM8 TyM9 TyO1 TyM10 TyO2 TyU5 TyU6 TyU7 TyU8 TyIA TyIC TyIB TyID TyO3 TyM11 TyO6 TyO7 TyG3 TyIE TyIF TyIG TyIJ TyIK TyIH TyIL TyIM
open Go.Lib
def owK (S : List Sal) (b : Bks) (k : Nat) : Int := if h : k < (dls b).length then (if 1000000000000 < basV (dls b)[k].1 (b.next - 1) S then 2 else 0) else 0
def owsB (S : List Sal) (b : Bks) : List Int := (dls b).map fun p => nowV S (b.next - 1) p.1 - p.2
def owF (b : Bks) (l : List Rpt) : Int := if askB b l ≠ 0 then askB b l else ffst (owK (salB b l) b) b.ctr.deals.length
def owS (b : Bks) (l : List Rpt) : List Int := if owF b l = 0 then owsB (salB b l) b else []
def zRw : Rw := ⟨⟨#[]⟩, 0, 0, 0, 0⟩
def rwR (S : List Sal) (next : Int) (H : List Hld) (p : Deal × Int) : Rw := if 1000000000000 < basV p.1 next S then zRw else rwD S next H p
def nwR (S : List Sal) (next : Int) (H : List Hld) (p : Deal × Int) : Int := if dlF S next H p = 0 then nowV S next p.1 else 0
def cdR (S : List Sal) (next : Int) (H : List Hld) (p : Deal × Int) : Int := if dlF S next H p = 0 then cenD S next H p else 0
namespace TyIQ
end TyIQ
open TyF0 TyF1 TyF2 TyF3 TyF4 TyF5 TyF6 TyF11 TyG1 TyG2 TyG5 TyU1 TyU2 TyU3 TyU4 TyM1 TyM2 TyM3 TyM7 TyM8 TyM9 TyO1 TyM10 TyO2 TyU5 TyU6 TyU7 TyU8 TyIA TyIC TyIB TyID TyO3 TyM11 TyO6 TyO7 TyG3 TyIE TyIF TyIG TyIJ TyIK TyIH TyIL TyIM TyIQ
open Go.Sort Go.Lib
theorem ffst_zero {f : Nat → Int} : ∀ n, (∀ k, k < n → f k = 0) → ffst f n = 0
  | 0, _ => rfl
  | n + 1, h => ffst_next (ffst_zero n fun k hk => h k (by omega)) (h n (by omega))
structure IsOk (b : Bks) (l : List Rpt) : Prop where
  bk : bksF b = 0
  lg : logF l = 0
  nx : b.next ≤ 2400
  dl : ∀ k, k < b.ctr.deals.length → dlK (salB b l) b k = 0
  gp : ∀ k, k < b.ctr.groups.length → gpK (salB b l) b k = 0
theorem isOk {b : Bks} {l : List Rpt} (h : issF b l = 0) : IsOk b l := by
  have h0 : ¬ askB b l ≠ 0 := fun h0 => by rw [iss_ask h0] at h; exact h0 h
  have h1 : ¬ 2400 < b.next := fun h1 => by rw [iss_11 h0 h1] at h; exact absurd h (by decide)
  have h2 : ffst (dlK (salB b l) b) b.ctr.deals.length = 0 := Classical.byContradiction fun h2 => by rw [iss_d h0 h1 h2] at h; exact h2 h
  rw [iss_g h0 h1 h2] at h
  obtain ⟨hb, hl⟩ := ask_0 (Decidable.not_not.1 h0)
  exact ⟨hb, hl, Int.not_lt.1 h1, ffst_all _ h2, ffst_all _ h⟩
theorem hl_mem {L : List Hld} (ok : Hls L) {k : KH} {c : Int} (h : findG (HL L) k = some c) : (⟨k.1, k.2, c⟩ : Hld) ∈ L := by
  obtain ⟨y, hy, e⟩ := List.mem_map.1 ((findG_mem ((HL_ri ok).nk tot_H) (k, c)).2 h)
  have e1 : y.key = k := congrArg Prod.fst e
  have e2 : y.cents = c := congrArg Prod.snd e
  have e3 : y = ⟨k.1, k.2, c⟩ := by rw [← e1, ← e2]; rfl
  exact e3 ▸ hy
theorem seg_ok {S : List Sal} {next : Int} {H : List Hld} (ok : Hls H) (p : Deal × Int) : Hls (segH S next H p) := by
  unfold segH
  split
  · exact addH_ok (filt_ok ok _) _
  · exact filt_ok ok _
theorem seg_spec {S : List Sal} {next : Int} {H : List Hld} (ok : Hls H) {p : Deal × Int} {x : Hld} (hx : x ∈ segH S next H p) : (x.period = next + p.1.hold ∧ x.cents = cenD S next H p ∧ 0 < cenD S next H p) ∨ (x ∈ H ∧ x.period ≠ next) := by
  have h1 := cen_some (seg_ok ok p) hx
  rw [find_seg ok, if_pos (show x.key.1 = p.1.name from seg_deal ok p x hx)] at h1
  by_cases h2 : x.key.2 = next + p.1.hold
  · rw [if_pos h2] at h1
    by_cases h3 : 0 < cenD S next H p
    · rw [if_pos h3] at h1
      exact .inl ⟨h2, (Option.some.inj h1).symm, h3⟩
    · rw [if_neg h3] at h1; cases h1
  · rw [if_neg h2] at h1
    by_cases h3 : x.key.2 = next
    · rw [if_pos h3] at h1; cases h1
    · rw [if_neg h3] at h1
      exact .inr ⟨hl_mem ok h1, h3⟩
theorem dl_parts {S : List Sal} {b : Bks} (ok : BkOk b) {k : Nat} (hk : k < (dls b).length) (h : dlK S b k = 0) : basV (dls b)[k].1 b.next S ≤ 1000000000000 ∧ cenD S b.next b.held (dls b)[k] ≤ 1000000000000 := by
  unfold dlK at h
  rw [dif_pos hk] at h
  unfold dlF at h
  by_cases h1 : 1000000000000 < basV (dls b)[k].1 b.next S
  · rw [if_pos h1] at h; exact absurd h (by decide)
  rw [if_neg h1] at h
  by_cases h2 : 1000000000000 < cenD S b.next b.held (dls b)[k]
  · rw [if_pos h2] at h; exact absurd h (by decide)
  omega
theorem st_cl {g : Grp} {n : Int} (h : stF g n = 0) : -1000000000000 ≤ clG g n ∧ clG g n ≤ 1000000000000 := by
  unfold stF at h
  unfold clG
  by_cases hp : payP g n
  · rw [if_pos hp]; omega
  · rw [if_neg hp] at h
    rw [if_neg hp]
    by_cases h1 : -1000000000000 ≤ n ∧ n ≤ 1000000000000
    · exact h1
    · rw [if_neg h1] at h; exact absurd h (by decide)
theorem iss_bks {b : Bks} {l : List Rpt} (ho : ∀ x ∈ l, okRpt x) (h : issF b l = 0) : bksF (issB b l) = 0 := by
  have hi := isOk h
  have ok := bkOk hi.bk
  have okS : SalsOk (salB b l) := sals_ok (log_of hi.lg) ho ok.als
  have hzl := dls_len ok
  have hgl := gps_len ok
  have hnx := ok.next
  have hnn := hi.nx
  have hid := hi.dl
  have hig := hi.gp
  clear hi
  rw [issB_ok h]
  generalize salB b l = S at *
  unfold bksF
  rw [if_neg (by show ¬ ctrF b.ctr ≠ 0; rw [ok.ctr]; decide), if_neg (by show ¬ ¬ (0 ≤ b.next + 1 ∧ b.next + 1 ≤ 2401); omega), if_neg (by
    show ¬ ((nowsB S b).length ≠ b.ctr.deals.length ∨ (balsB S b).length ≠ b.ctr.groups.length)
    unfold nowsB balsB
    rw [List.length_map, List.length_map]
    omega)]
  have h1 : ffst (statF (nowsB S b)) (nowsB S b).length = 0 := ffst_zero _ fun k hk => by
    have hk2 : k < (dls b).length := by unfold nowsB at hk; rw [List.length_map] at hk; exact hk
    have hd := ok.deal _ (dls_mem (List.getElem_mem hk2)).1
    have hp := dl_parts ok hk2 (hid k (by omega))
    have e : (nowsB S b)[k] = nowV S b.next (dls b)[k].1 := List.getElem_map (h := hk) ..
    unfold statF
    rw [dif_pos hk, e, if_pos (now_rng okS hd.1 hp.1)]
  have hok := hldR_ok (S := S) (next := b.next) ok.held (dls_nd ok)
  have h2 : ffst (hldF ⟨b.ctr, b.next + 1, nowsB S b, hldR S b.next b.held (dls b), balsB S b⟩) (hldR S b.next b.held (dls b)).length = 0 := ffst_zero _ fun k hk => by
    have hm : (hldR S b.next b.held (dls b))[k] ∈ hldR S b.next b.held (dls b) := List.getElem_mem hk
    have hord : ¬ (0 < k ∧ 0 ≤ hldCmp ((hldR S b.next b.held (dls b))[k-1]'(by omega)) (hldR S b.next b.held (dls b))[k]) := fun ⟨h0, h5⟩ => by
      have := List.pairwise_iff_getElem.1 hok.rise (k - 1) k (by omega) hk (by omega)
      have := hldCmp_lt.2 this
      omega
    unfold hldF
    rw [dif_pos (show k < (Bks.held ⟨b.ctr, b.next + 1, nowsB S b, hldR S b.next b.held (dls b), balsB S b⟩).length from hk)]
    dsimp only
    rw [if_neg (show ¬ (0 < k ∧ 0 ≤ hldCmp ((hldR S b.next b.held (dls b))[k-1]'(by omega)) (hldR S b.next b.held (dls b))[k]) from hord)]
    obtain ⟨p, hp, hx⟩ := List.mem_flatMap.1 hm
    have hdl := seg_deal ok.held p _ hx
    have hpm := dls_mem hp
    have hD := ok.deal _ hpm.1
    have hix : ¬ dealIdx b.ctr.deals (hldR S b.next b.held (dls b))[k].deal = false := fun hf => by
      have : dealIdx b.ctr.deals (hldR S b.next b.held (dls b))[k].deal = true := List.any_eq_true.2 ⟨p.1, hpm.1, decide_eq_true hdl.symm⟩
      rw [this] at hf; cases hf
    rw [if_neg hix, if_pos ?_]
    rcases seg_spec ok.held hx with ⟨e1, e2, e3⟩ | ⟨e1, e2⟩
    · obtain ⟨i, hi2, rfl⟩ := List.mem_iff_getElem.1 hp
      have := dl_parts ok hi2 (hid i (by omega))
      rw [e1, e2]
      omega
    · have := (ok.hr _ e1).2
      omega
  have h3 : ffst (balF (balsB S b)) (balsB S b).length = 0 := ffst_zero _ fun k hk => by
    have hk2 : k < (gps b).length := by unfold balsB at hk; rw [List.length_map] at hk; exact hk
    have hg := hig k (by omega)
    unfold gpK at hg
    rw [dif_pos hk2] at hg
    have e : (balsB S b)[k] = clG (gps b)[k].1 (numB S b (gps b)[k]) := List.getElem_map (h := hk) ..
    unfold balF
    rw [dif_pos hk, e, if_pos (st_cl hg)]
  rw [if_neg (by show ¬ ffst (statF (nowsB S b)) (nowsB S b).length ≠ 0; rw [h1]; decide), if_neg (by show ¬ ffst (hldF _) (hldR S b.next b.held (dls b)).length ≠ 0; rw [h2]; decide)]
  exact h3
theorem iss_okB {b : Bks} {l : List Rpt} (hb : okBks b) : okBks (issB b l) := by
  unfold issB
  split
  · exact hb
  · exact ⟨fun x hx => absurd hx List.not_mem_nil, fun x hx => absurd hx List.not_mem_nil, fun x hx => absurd hx List.not_mem_nil⟩
namespace TyU9D
end TyU9D
open TyF0 TyF1 TyF2 TyF3 TyF4 TyF5 TyF6 TyF11 TyG1 TyG2 TyG5 TyU1 TyU2 TyU3 TyU4 TyM1 TyM2 TyM3 TyM7 TyM8 TyM9 TyO1 TyM10 TyO2 TyU5 TyU6 TyU7 TyU8 TyIA TyIC TyIB TyID TyO3 TyM11 TyO6 TyO7 TyG3 TyIE TyIF TyIG TyIJ TyIK TyIH TyIL TyIM TyIQ TyU9D
def newB (c : Ctr) : Bks := if ctrF c = 0 then ⟨c, 0, List.replicate c.deals.length 0, [], List.replicate c.groups.length 0⟩ else ⟨⟨[], [], []⟩, 0, [], [], []⟩
theorem newB_bad {c : Ctr} (h : ctrF c ≠ 0) : newB c = ⟨⟨[], [], []⟩, 0, [], [], []⟩ := if_neg h
theorem newB_ok {c : Ctr} (h : ctrF c = 0) : newB c = ⟨c, 0, List.replicate c.deals.length 0, [], List.replicate c.groups.length 0⟩ := if_pos h
theorem rep_zero (n : Nat) : List.replicate n [D.v (.int .i64 0)] = (List.replicate n (0 : Int)).map intD := by rw [List.map_replicate]; rfl
theorem c_pNew (c : Ctr) (hc : okCtr c) : ACallT Tryz.prog MaxT 22 [.agg c.ds] (.tup [.agg (newB c).ds, .v (.int .i64 (ctrF c))]) := by
 refine acall_ofRT (n := 22) (ds' := [.agg (newB c).ds, .v (.int .i64 (ctrF c))]) Tryz.func22 rfl (by kernel_rfl) rfl [.cell 2 40, .tmp 3] rfl rfl ?_
 intro B w0 F0 hT
 refine .sr (.sA (.box rfl rfl rfl) ?_)
 refine .alloc 101 rfl rfl rfl rfl zt_40 rfl rfl rfl ?_
 refine .aA (.nil ?_)
 refine .seq (.sr (.sA (.loadAgg rfl ag_36 rfl rfl) ?_))
 -- wants the world
 refine .callT rfl rfl rfl hT maxT_stays rfl (.cons (.rfl' rfl) .nil) (c_pCtr c hc) ?_
 refine .aA (.nil ?_)
 refine .sr (.mA ?_)
 refine .sA (.neq rfl rfl rfl) (.nil ?_)
 refine .cond rfl (fun h1 => ?_) (fun h1 => ?_)
 ·replace h1 := dcT h1
  rw [newB_bad h1]
  refine .sr (.sA (.build rfl bu_40 .nil rfl) ?_)
  refine .mA ?_
  refine .store rfl rfl rfl sz_40 rfl (.head _) rfl rfl rfl (Nat.le_of_ble_eq_true rfl) ?_
  refine .aA (.nil ?_)
  refine .ret ?_
  refine ⟨RetR.agg rfl (.head _) ag_40 rfl (.cons (by first | exact CellD.nil | exact CellD.d | exact CellD.eq (by first | rfl | (rw [rep_zero])) | (refine CellD.own (by first | exact .head _ | exact .tail _ (.head _)) ?_; rfl)) (.cons (by first | exact CellD.nil | exact CellD.d | exact CellD.eq (by first | rfl | (rw [rep_zero])) | (refine CellD.own (by first | exact .head _ | exact .tail _ (.head _)) ?_; rfl)) (.cons (by first | exact CellD.nil | exact CellD.d | exact CellD.eq (by first | rfl | (rw [rep_zero])) | (refine CellD.own (by first | exact .head _ | exact .tail _ (.head _)) ?_; rfl)) (.cons (by first | exact CellD.nil | exact CellD.d | exact CellD.eq (by first | rfl | (rw [rep_zero])) | (refine CellD.own (by first | exact .head _ | exact .tail _ (.head _)) ?_; rfl)) (.cons (by first | exact CellD.nil | exact CellD.d | exact CellD.eq (by first | rfl | (rw [rep_zero])) | (refine CellD.own (by first | exact .head _ | exact .tail _ (.head _)) ?_; rfl)) (.cons (by first | exact CellD.nil | exact CellD.d | exact CellD.eq (by first | rfl | (rw [rep_zero])) | (refine CellD.own (by first | exact .head _ | exact .tail _ (.head _)) ?_; rfl)) (.cons (by first | exact CellD.nil | exact CellD.d | exact CellD.eq (by first | rfl | (rw [rep_zero])) | (refine CellD.own (by first | exact .head _ | exact .tail _ (.head _)) ?_; rfl)) .nil))))))), RetD.eq rfl ?_, trivial⟩
  all_goals (rfl)
 replace h1 := dcF h1
 have ok0 : ctrF c = 0 := by omega
 have okl := ctr_ok ok0
 have okd := okl.deals
 have okg := okl.groups
 rw [newB_ok ok0, ok0]
 refine .skip (.seq (.drawFresh 10 [⟨16, 102, .own 102, .row 3 1 (List.replicate c.deals.length [.v (.int .i64 0)])⟩, ⟨20, 103, .own 103, .row 3 1 (List.replicate c.groups.length [.v (.int .i64 0)])⟩] (FrOk.two rfl (by simp) rfl rfl rfl rfl (by simp) rfl rfl rfl (Nat.ne_of_beq_eq_false rfl) (Nat.ne_of_beq_eq_false rfl) rfl rfl rfl rfl) (by kernel_rfl) (by kernel_rfl) (by kernel_rfl) (by kernel_rfl) ?_))
 refine .step rfl rfl rfl (.loadAgg rfl ag_36 rfl rfl) ?_
 refine .step rfl rfl rfl (.call rfl (.cons (.rfl' rfl) .nil) (c_ownCtr c (ctr_ok ok0))) ?_
 refine .step rfl rfl rfl (.fieldAddr rfl fo_36_1 rfl) ?_
 refine .step rfl rfl rfl (.load rfl sc_33 rfl) ?_
 refine .step rfl rfl rfl (.lenSl rfl et_33.ht rfl) ?_
 refine .make _ (.head _) c.deals.length rfl rfl rfl rfl rfl et_37 rfl rfl (by rw [List.length_map]) (by omega) (by omega) rfl rfl rfl ?_
 refine .step rfl rfl rfl (.fieldAddr rfl fo_36_2 rfl) ?_
 refine .step rfl rfl rfl (.load rfl sc_34 rfl) ?_
 refine .step rfl rfl rfl (.lenSl rfl et_34.ht rfl) ?_
 refine .make _ (.tail _ (.head _)) c.groups.length rfl rfl rfl rfl rfl et_37 rfl rfl (by rw [List.length_map]) (by omega) (by omega) rfl rfl rfl ?_
 refine .nil ⟨rfl, rfl, trivial⟩ ?_
 refine .freeze 16 rfl (.head _) ?_
 refine .freeze 20 rfl (.head _) ?_
 refine .sA (.build rfl bu_40 (.cons rfl rfl (.cons rfl rfl (.cons rfl rfl .nil))) rfl) ?_
 refine .store rfl rfl rfl sz_40 rfl (.head _) rfl rfl rfl (Nat.le_of_ble_eq_true rfl) ?_
 refine .aA (.nil ?_)
 refine .ret ?_
 refine ⟨RetR.agg rfl (.head _) ag_40 rfl (.cons (by first | exact CellD.nil | exact CellD.d | exact CellD.eq (by first | rfl | (rw [rep_zero])) | (refine CellD.own (by first | exact .head _ | exact .tail _ (.head _)) ?_; rfl)) (.cons (by first | exact CellD.nil | exact CellD.d | exact CellD.eq (by first | rfl | (rw [rep_zero])) | (refine CellD.own (by first | exact .head _ | exact .tail _ (.head _)) ?_; rfl)) (.cons (by first | exact CellD.nil | exact CellD.d | exact CellD.eq (by first | rfl | (rw [rep_zero])) | (refine CellD.own (by first | exact .head _ | exact .tail _ (.head _)) ?_; rfl)) (.cons (by first | exact CellD.nil | exact CellD.d | exact CellD.eq (by first | rfl | (rw [rep_zero])) | (refine CellD.own (by first | exact .head _ | exact .tail _ (.head _)) ?_; rfl)) (.cons (by first | exact CellD.nil | exact CellD.d | exact CellD.eq (by first | rfl | (rw [rep_zero])) | (refine CellD.own (by first | exact .head _ | exact .tail _ (.head _)) ?_; rfl)) (.cons (by first | exact CellD.nil | exact CellD.d | exact CellD.eq (by first | rfl | (rw [rep_zero])) | (refine CellD.own (by first | exact .head _ | exact .tail _ (.head _)) ?_; rfl)) (.cons (by first | exact CellD.nil | exact CellD.d | exact CellD.eq (by first | rfl | (rw [rep_zero])) | (refine CellD.own (by first | exact .head _ | exact .tail _ (.head _)) ?_; rfl)) .nil))))))), RetD.eq rfl ?_, trivial⟩
 all_goals (rfl)
namespace TyIR
end TyIR
open TyF0 TyF1 TyF2 TyF3 TyF4 TyF5 TyF6 TyF11 TyG1 TyG2 TyG5 TyU1 TyU2 TyU3 TyU4 TyM1 TyM2 TyM3 TyM7 TyM8 TyM9 TyO1 TyM10 TyO2 TyU5 TyU6 TyU7 TyU8 TyIA TyIC TyIB TyID TyO3 TyM11 TyO6 TyO7 TyG3 TyIE TyIF TyIG TyIJ TyIK TyIH TyIL TyIM TyIQ TyU9D TyIR
open Go.Sort Go.Lib
def sumH (nm : ByteArray) : List Hld → Int
  | [] => 0
  | h :: l => (if h.deal = nm then h.cents else 0) + sumH nm l
def sumK (nm : ByteArray) : List (KH × Int) → Int
  | [] => 0
  | p :: l => (if p.1.1 = nm then p.2 else 0) + sumK nm l
theorem sumH_snoc (nm : ByteArray) (x : Hld) : ∀ L, sumH nm (L ++ [x]) = sumH nm L + if x.deal = nm then x.cents else 0
  | [] => by show _ + (0 : Int) = 0 + _; omega
  | h :: l => by
    have := sumH_snoc nm x l
    show _ + sumH nm (l ++ [x]) = _ + sumH nm l + _
    omega
theorem sumK_HL (nm : ByteArray) : ∀ L, sumK nm (HL L) = sumH nm L
  | [] => rfl
  | h :: l => congrArg (fun z => (if h.deal = nm then h.cents else 0) + z) (sumK_HL nm l)
theorem sumH_toH (nm : ByteArray) : ∀ L, sumH nm (L.map toH) = sumK nm L
  | [] => rfl
  | p :: l => congrArg (fun z => (if p.1.1 = nm then p.2 else 0) + z) (sumH_toH nm l)
theorem sumK_add (nm : ByteArray) (lt : KH → KH → Bool) (e : KH × Int) : ∀ L, sumK nm (addO lt (· + ·) e L) = sumK nm L + if e.1.1 = nm then e.2 else 0
  | [] => by show _ + (0 : Int) = 0 + _; omega
  | p :: l => by
    have ih := sumK_add nm lt e l
    unfold addO
    split
    · show _ + sumK nm (addO lt _ e l) = _ + sumK nm l + _
      omega
    · split
      · rename_i _ h2
        show (if e.1.1 = nm then p.2 + e.2 else 0) + sumK nm l = (if p.1.1 = nm then p.2 else 0) + sumK nm l + _
        rw [h2]
        split <;> omega
      · show _ + ((if p.1.1 = nm then p.2 else 0) + sumK nm l) = (if p.1.1 = nm then p.2 else 0) + sumK nm l + _
        omega
theorem sumH_add (nm : ByteArray) (L : List Hld) (x : Hld) : sumH nm (addH L x) = sumH nm L + if x.deal = nm then x.cents else 0 := by
  unfold addH
  rw [sumH_toH, sumK_add, sumK_HL]
  rfl
theorem cen_cons (x : Hld) (L : List Hld) (k : KH) : cenH (x :: L) k = if x.key = k then x.cents else cenH L k := by
  unfold cenH
  rw [show HL (x :: L) = (x.key, x.cents) :: HL L from rfl, findG_cons]
  dsimp only
  split <;> rfl
theorem sumH_del (nm : ByteArray) (k : KH) : ∀ {L : List Hld}, Hls L → sumH nm (delH L k) = sumH nm L - if k.1 = nm then cenH L k else 0
  | [], _ => by
    show (0 : Int) = 0 - if k.1 = nm then (0 : Int) else 0
    split <;> rfl
  | x :: L, ok => by
    have h1 := List.pairwise_cons.1 ok.rise
    have ih := sumH_del nm k (L := L) ⟨h1.2⟩
    rw [cen_cons]
    unfold delH
    rw [List.filter_cons]
    by_cases h : x.key = k
    · have hn : ∀ y ∈ L, y.key ≠ k := fun y hy e => by
        have := h1.1 y hy
        rw [h, e, tot_H.irr] at this; cases this
      have hd := del_none hn
      unfold delH at hd
      have hx : x.deal = k.1 := congrArg Prod.fst h
      rw [if_neg (by simp [h]), hd, if_pos h]
      show _ = (if x.deal = nm then x.cents else 0) + sumH nm L - _
      rw [hx]
      omega
    · rw [if_pos (by simp [h]), if_neg h]
      unfold delH at ih
      show (if x.deal = nm then x.cents else 0) + sumH nm (L.filter _) = (if x.deal = nm then x.cents else 0) + sumH nm L - _
      rw [ih]
      omega
theorem sumH_step (nm : ByteArray) {S : List Sal} {next : Int} {L : List Hld} (ok : Hls L) (p : Deal × Int) : sumH nm (stepL S next L p) = sumH nm L + if p.1.name = nm then whD S next p - cenH L (p.1.name, next) else 0 := by
  unfold stepL
  split
  · rename_i h
    rw [sumH_del nm _ ok, h]
    dsimp only
    split <;> omega
  · rw [sumH_add, sumH_del nm _ ok]
    dsimp only
    split <;> omega
def sumN (nm : ByteArray) (f : Deal × Int → Int) : List (Deal × Int) → Int
  | [] => 0
  | p :: l => (if p.1.name = nm then f p else 0) + sumN nm f l
theorem sumN_snoc (nm : ByteArray) (f : Deal × Int → Int) (p : Deal × Int) : ∀ L, sumN nm f (L ++ [p]) = sumN nm f L + if p.1.name = nm then f p else 0
  | [] => by show _ + (0 : Int) = 0 + _; omega
  | h :: l => by
    have := sumN_snoc nm f p l
    show _ + sumN nm f (l ++ [p]) = _ + sumN nm f l + _
    omega
theorem sumN_none (nm : ByteArray) (f : Deal × Int → Int) : ∀ l : List (Deal × Int), (∀ p ∈ l, p.1.name ≠ nm) → sumN nm f l = 0
  | [], _ => rfl
  | p :: l, h => by
    show (if p.1.name = nm then f p else 0) + sumN nm f l = 0
    rw [if_neg (h p (List.mem_cons_self ..)), sumN_none nm f l fun q hq => h q (List.mem_cons_of_mem _ hq)]
    rfl
theorem sumN_one (f : Deal × Int → Int) {p : Deal × Int} : ∀ {l : List (Deal × Int)}, NdD l → p ∈ l → sumN p.1.name f l = f p
  | [], _, h => by cases h
  | q :: l, nd, h => by
    have h1 := List.pairwise_cons.1 nd
    show (if q.1.name = p.1.name then f q else 0) + sumN p.1.name f l = f p
    rcases List.mem_cons.1 h with rfl | h2
    · rw [if_pos rfl, sumN_none _ f l fun r hr e => ltB_ne (h1.1 r hr) e.symm]
      omega
    · rw [if_neg (ltB_ne (h1.1 p h2)), sumN_one f h1.2 h2]
      omega
def dWR (S : List Sal) (b : Bks) (p : Deal × Int) : Int := whD S b.next p - cenH b.held (p.1.name, b.next)
theorem sumH_lK (nm : ByteArray) {S : List Sal} {b : Bks} (ok : BkOk b) : ∀ k, k ≤ (dls b).length → sumH nm (lK S b k) = sumH nm b.held + sumN nm (dWR S b) ((dls b).take k)
  | 0, _ => by show sumH nm b.held = sumH nm b.held + 0; omega
  | k + 1, hk => by
    have hk2 : k < (dls b).length := by omega
    rw [lK_next hk2, sumH_step nm (lK_ok ok k).1, lK_cen ok hk2, sumH_lK nm ok k (by omega), takeS hk2, sumN_snoc]
    unfold dWR
    omega
theorem sumH_new {S : List Sal} {b : Bks} (ok : BkOk b) {p : Deal × Int} (hp : p ∈ dls b) : sumH p.1.name (hldR S b.next b.held (dls b)) = sumH p.1.name b.held + dWR S b p := by
  rw [← lK_end ok, ← dls_len ok, sumH_lK _ ok _ (Nat.le_refl _), List.take_length, sumN_one _ (dls_nd ok) hp]
theorem sumH_rng (nm : ByteArray) : ∀ {L : List Hld}, (∀ x ∈ L, 1 ≤ x.cents ∧ x.cents ≤ 1000000000000) → 0 ≤ sumH nm L ∧ sumH nm L ≤ 1000000000000 * (L.length : Int)
  | [], _ => ⟨Int.le_refl _, Int.le_refl _⟩
  | x :: L, h => by
    have ih := sumH_rng nm (L := L) fun y hy => h y (List.mem_cons_of_mem _ hy)
    have hx := h x (List.mem_cons_self ..)
    rw [List.length_cons]
    show 0 ≤ (if x.deal = nm then x.cents else 0) + sumH nm L ∧ (if x.deal = nm then x.cents else 0) + sumH nm L ≤ _
    split <;> omega
def sumD (nm : ByteArray) (f : Deal × Int → Int) : List (Deal × Int) → Int
  | [] => 0
  | p :: l => (if p.1.group = nm then f p else 0) + sumD nm f l
theorem sumD_snoc (nm : ByteArray) (f : Deal × Int → Int) (p : Deal × Int) : ∀ L, sumD nm f (L ++ [p]) = sumD nm f L + if p.1.group = nm then f p else 0
  | [] => by show _ + (0 : Int) = 0 + _; omega
  | h :: l => by
    have := sumD_snoc nm f p l
    show _ + sumD nm f (l ++ [p]) = _ + sumD nm f l + _
    omega
theorem sumD_add (nm : ByteArray) {f g h : Deal × Int → Int} : ∀ {l : List (Deal × Int)}, (∀ p ∈ l, f p + g p = h p) → sumD nm f l + sumD nm g l = sumD nm h l
  | [], _ => rfl
  | p :: l, hl => by
    have ih := sumD_add nm (l := l) fun q hq => hl q (List.mem_cons_of_mem _ hq)
    have hp := hl p (List.mem_cons_self ..)
    show (if p.1.group = nm then f p else 0) + sumD nm f l + ((if p.1.group = nm then g p else 0) + sumD nm g l) = (if p.1.group = nm then h p else 0) + sumD nm h l
    split <;> omega
theorem sumD_map (nm : ByteArray) {f : Deal × Int → Int} {g : Deal × Int → Int} : ∀ l : List (Deal × Int), sumD nm f (l.map fun p => (p.1, g p)) = sumD nm (fun p => f (p.1, g p)) l
  | [] => rfl
  | p :: l => congrArg (fun z => (if p.1.group = nm then f (p.1, g p) else 0) + z) (sumD_map nm l)
theorem sumD_rng (nm : ByteArray) {f : Deal × Int → Int} {B : Int} (hB : 0 ≤ B) : ∀ {l : List (Deal × Int)}, (∀ p ∈ l, -B ≤ f p ∧ f p ≤ B) → -(B * (l.length : Int)) ≤ sumD nm f l ∧ sumD nm f l ≤ B * (l.length : Int)
  | [], _ => by show -(B * 0) ≤ (0 : Int) ∧ (0 : Int) ≤ B * 0; omega
  | p :: l, h => by
    have ih := sumD_rng nm hB (l := l) fun q hq => h q (List.mem_cons_of_mem _ hq)
    have hp := h p (List.mem_cons_self ..)
    have e : B * (((l.length + 1 : Nat) : Int)) = B * (l.length : Int) + B := by rw [Int.natCast_add, Int.mul_add]; omega
    rw [List.length_cons, e]
    show _ ≤ (if p.1.group = nm then f p else 0) + sumD nm f l ∧ (if p.1.group = nm then f p else 0) + sumD nm f l ≤ _
    split <;> omega
theorem numG_sum (nm : ByteArray) (g : Deal × Int → Rw) : ∀ (l : List (Deal × Int)) (op : Int), numG op ((l.filter fun p => decide (p.1.group = nm)).map g) = op + sumD nm (fun p => netR (g p)) l
  | [], op => by show op = op + 0; omega
  | p :: l, op => by
    rw [List.filter_cons]
    show _ = op + ((if p.1.group = nm then netR (g p) else 0) + sumD nm _ l)
    by_cases h : p.1.group = nm
    · rw [if_pos (by simp [h]), if_pos h, List.map_cons]
      show numG (op + netR (g p)) _ = _
      rw [numG_sum nm g l]
      omega
    · rw [if_neg (by simp [h]), if_neg h, numG_sum nm g l]
      omega
theorem dls_fst {b : Bks} (ok : BkOk b) : (dls b).map Prod.fst = b.ctr.deals := List.map_fst_zip (Nat.le_of_eq ok.sl.symm)
theorem rsG_eq {S : List Sal} {b : Bks} (ok : BkOk b) (p : Grp × Int) : rsG S b p = ((dls b).filter fun q => decide (q.1.group = p.1.name)).map (rwD S b.next b.held) := by
  unfold rsG rowsG rowsB
  have h : b.ctr.deals.zip ((dls b).map (rwD S b.next b.held)) = (dls b).map fun q => (q.1, rwD S b.next b.held q) := by
    conv => lhs; rw [← dls_fst ok]
    exact List.zip_map' ..
  rw [h, List.filter_map, List.map_map]
  rfl
def advV (next : Int) (d : Deal) : Int := if 0 ≤ d.frm ∧ d.frm < next then d.adv else 0
theorem advV_next {next : Int} (h : 0 ≤ next) (d : Deal) : advV (next + 1) d = advV next d + if next = d.frm then d.adv else 0 := by
  unfold advV
  by_cases h1 : next = d.frm
  · rw [if_pos h1, if_pos (by omega), if_neg (by omega)]; omega
  · rw [if_neg h1]
    by_cases h2 : 0 ≤ d.frm ∧ d.frm < next
    · rw [if_pos h2, if_pos (by omega)]; omega
    · rw [if_neg h2, if_neg (by omega)]; omega
def ownV (next : Int) (H : List Hld) (p : Deal × Int) : Int := advV next p.1 - p.2 + sumH p.1.name H
def sumBk (b : Bks) (nm : ByteArray) : Int := sumD nm (ownV b.next b.held) (dls b)
theorem dls_new {S : List Sal} {b : Bks} (ok : BkOk b) (n : Int) (H : List Hld) (B : List Int) : dls ⟨b.ctr, n, nowsB S b, H, B⟩ = (dls b).map fun p => (p.1, nowV S b.next p.1) := by
  show b.ctr.deals.zip (nowsB S b) = _
  unfold nowsB
  conv => lhs; lhs; rw [← dls_fst ok]
  exact List.zip_map' ..
theorem sum_new {S : List Sal} {b : Bks} (ok : BkOk b) (p : Grp × Int) (B : List Int) : numB S b p + sumBk ⟨b.ctr, b.next + 1, nowsB S b, hldR S b.next b.held (dls b), B⟩ p.1.name = p.2 + sumBk b p.1.name := by
  unfold numB sumBk
  rw [rsG_eq ok, numG_sum, dls_new ok, sumD_map, Int.add_assoc, sumD_add (h := ownV b.next b.held) p.1.name fun q hq => ?_]
  have h1 := sumH_new (S := S) ok hq
  have h2 := advV_next ok.next.1 q.1
  unfold dWR at h1
  show netR (rwD S b.next b.held q) + (advV (b.next + 1) q.1 - nowV S b.next q.1 + sumH q.1.name (hldR S b.next b.held (dls b))) = advV b.next q.1 - q.2 + sumH q.1.name b.held
  have h3 : netR (rwD S b.next b.held q) = (nowV S b.next q.1 - q.2) - whD S b.next q + cenH b.held (q.1.name, b.next) - (if b.next = q.1.frm then q.1.adv else 0) := rfl
  omega
theorem pd_cl (g : Grp) (n : Int) : pdG g n + clG g n = n := by
  unfold pdG clG
  split <;> omega
def atP (P : List Int) (k : Nat) : Int := P.getD k 0
def gAt (b : Bks) (k : Nat) : ByteArray := (b.ctr.groups.getD k ⟨⟨#[]⟩, 0, []⟩).name
structure AddU (P : List Int) (b : Bks) : Prop where
  len : P.length = b.ctr.groups.length
  rng : ∀ x ∈ P, 0 ≤ x ∧ x ≤ 1000000000 * b.next
  sum : ∀ k, k < b.ctr.groups.length → atP P k + atP b.bal k + sumBk b (gAt b k) = 0
def pdB (S : List Sal) (b : Bks) : List Int := (gps b).map fun p => pdG p.1 (numB S b p)
def addP (P Q : List Int) : List Int := List.zipWith (· + ·) P Q
theorem atP_get {P : List Int} {k : Nat} (h : k < P.length) : atP P k = P[k] := by unfold atP; rw [List.getD_eq_getElem?_getD, List.getElem?_eq_getElem h]; rfl
theorem pdB_len {S : List Sal} {b : Bks} (ok : BkOk b) : (pdB S b).length = b.ctr.groups.length := by unfold pdB; rw [List.length_map, gps_len ok]
theorem addP_len {P Q : List Int} (h : P.length = Q.length) : (addP P Q).length = P.length := by unfold addP; rw [List.length_zipWith, h, Nat.min_self]
theorem pd_rng {g : Grp} {n : Int} (h : stF g n = 0) : 0 ≤ pdG g n ∧ pdG g n ≤ 1000000000 := by
  unfold stF at h
  unfold pdG
  by_cases hp : payP g n
  · rw [if_pos hp] at h ⊢
    by_cases h1 : 1000000000 < n
    · rw [if_pos h1] at h; exact absurd h (by decide)
    · have := hp.1; omega
  · rw [if_neg hp]; omega
theorem addU_next {P : List Int} {b : Bks} {l : List Rpt} (ok : BkOk b) (hi : IsOk b l) (hU : AddU P b) : AddU (addP P (pdB (salB b l) b)) ⟨b.ctr, b.next + 1, nowsB (salB b l) b, hldR (salB b l) b.next b.held (dls b), balsB (salB b l) b⟩ := by
  have hig := hi.gp
  generalize salB b l = S at *
  have h1 := pdB_len (S := S) ok
  have h2 : P.length = (pdB S b).length := by rw [h1, hU.len]
  have h3 : (balsB S b).length = b.ctr.groups.length := by unfold balsB; rw [List.length_map, gps_len ok]
  have hgl := gps_len ok
  refine ⟨by rw [addP_len h2]; exact hU.len, fun x hx => ?_, fun k hk => ?_⟩
  · obtain ⟨k, hk, rfl⟩ := List.mem_iff_getElem.1 hx
    have hk1 : k < P.length := by rw [addP_len h2] at hk; exact hk
    have hk2 : k < (gps b).length := by rw [hgl, ← hU.len]; exact hk1
    have e : (addP P (pdB S b))[k] = P[k] + (pdB S b)[k]'(by omega) := List.getElem_zipWith ..
    have e2 : (pdB S b)[k]'(by omega) = pdG (gps b)[k].1 (numB S b (gps b)[k]) := List.getElem_map ..
    have hg := hig k (by omega)
    unfold gpK at hg
    rw [dif_pos hk2] at hg
    have h4 := pd_rng hg
    have h5 := hU.rng _ (List.getElem_mem hk1)
    rw [e, e2]
    show _ ∧ _ ≤ 1000000000 * (b.next + 1)
    omega
  · have hk : k < b.ctr.groups.length := hk
    have hkP : k < P.length := by rw [hU.len]; exact hk
    have hkb : k < b.bal.length := by have := ok.bl; omega
    have hk2 : k < (gps b).length := by omega
    have hs := hU.sum k hk
    have e : atP (addP P (pdB S b)) k = atP P k + pdG (gps b)[k].1 (numB S b (gps b)[k]) := by
      rw [atP_get (by rw [addP_len h2]; exact hkP), atP_get hkP]
      have e1 : (addP P (pdB S b))[k]'(by rw [addP_len h2]; exact hkP) = P[k] + (pdB S b)[k]'(by omega) := List.getElem_zipWith ..
      have e2 : (pdB S b)[k]'(by omega) = pdG (gps b)[k].1 (numB S b (gps b)[k]) := List.getElem_map ..
      rw [e1, e2]
    have e3 : atP (balsB S b) k = clG (gps b)[k].1 (numB S b (gps b)[k]) := by
      rw [atP_get (by omega)]
      exact List.getElem_map ..
    have e4 : (gps b)[k].2 = atP b.bal k := by rw [gps_at hk2, atP_get hkb]
    have e5 : gAt b k = (gps b)[k].1.name := by
      unfold gAt
      rw [gps_at hk2, List.getD_eq_getElem?_getD, List.getElem?_eq_getElem hk]; rfl
    have h6 := sum_new (S := S) ok (gps b)[k] (balsB S b)
    have h7 := pd_cl (gps b)[k].1 (numB S b (gps b)[k])
    rw [e5, ← e4] at hs
    show atP (addP P (pdB S b)) k + atP (balsB S b) k + sumBk _ (gAt b k) = 0
    rw [e, e3, e5]
    omega
def sumP : List Pd → Int
  | [] => 0
  | p :: l => p.cents + sumP l
theorem sumP_snoc (p : Pd) : ∀ L, sumP (L ++ [p]) = sumP L + p.cents
  | [] => by show _ + (0 : Int) = 0 + _; omega
  | h :: l => by
    have := sumP_snoc p l
    show _ + sumP (l ++ [p]) = _ + sumP l + _
    omega
theorem sumP_zip : ∀ (A : List Stk) (B : List Int), A.length = B.length → sumP (List.zipWith (fun s c => (⟨s.party, c⟩ : Pd)) A B) = B.sum
  | [], [], _ => rfl
  | a :: A, c :: B, h => by
    have := sumP_zip A B (Nat.succ.inj h)
    rw [List.zipWith_cons_cons, List.sum_cons]
    show c + sumP _ = _
    rw [this]
theorem sumP_rng : ∀ {L : List Pd}, (∀ p ∈ L, 0 ≤ p.cents ∧ p.cents ≤ 1000000001) → 0 ≤ sumP L ∧ sumP L ≤ 1000000001 * (L.length : Int)
  | [], _ => ⟨Int.le_refl _, Int.le_refl _⟩
  | x :: L, h => by
    have ih := sumP_rng (L := L) fun y hy => h y (List.mem_cons_of_mem _ hy)
    have hx := h x (List.mem_cons_self ..)
    rw [List.length_cons]
    show 0 ≤ x.cents + sumP L ∧ x.cents + sumP L ≤ _
    omega
theorem st_pts {g : Grp} {n : Int} (h : stF g n = 0) (hc : g.cut.length ≤ 20) : sumP (ptG g n) = pdG g n ∧ (ptG g n).length ≤ 20 ∧ ∀ p ∈ ptG g n, 0 ≤ p.cents ∧ p.cents ≤ 1000000001 := by
  unfold stF at h
  unfold ptG pdG
  by_cases hp : payP g n
  · rw [if_pos hp] at h
    rw [if_pos hp, if_pos hp]
    by_cases h1 : 1000000000 < n
    · rw [if_pos h1] at h; exact absurd h (by decide)
    rw [if_neg h1] at h
    have ok := div_zero_ok h
    have hl := divI_len h
    have hwl : (wtS g).length = g.cut.length := List.length_map ..
    have hl0 := ok.leftB (k := (wtS g).length) (Nat.le_refl _)
    refine ⟨?_, ?_, fun p hpm => ?_⟩
    · unfold ptsG
      rw [sumP_zip _ _ (by rw [hl, hwl])]
      unfold divI
      rw [if_pos h]
      exact out_total ok (by omega)
    · unfold ptsG
      rw [List.length_zipWith]
      omega
    · obtain ⟨k, hk, rfl⟩ := List.mem_iff_getElem.1 hpm
      have hk1 : k < g.cut.length := by unfold ptsG at hk; rw [List.length_zipWith] at hk; omega
      have hk2 : k < (divI n (wtS g)).length := by rw [hl, hwl]; exact hk1
      rw [ptsG_at hk hk1 hk2]
      have e : (divI n (wtS g))[k] = outF n (wtS g) (leftTo n (wtS g) (wtS g).length).toNat k := by
        simp only [divI, if_pos h, List.getElem_map, List.getElem_range]
      dsimp only
      rw [e]
      exact ok.outB _ (by rw [hwl]; exact hk1)
  · rw [if_neg hp, if_neg hp]
    exact ⟨rfl, by simp, fun p hpm => absurd hpm List.not_mem_nil⟩
theorem ffst_two {f : Nat → Int} : ∀ n, (∀ k, k < n → f k = 0 ∨ f k = 2) → ffst f n = 0 ∨ ffst f n = 2
  | 0, _ => .inl rfl
  | n + 1, h => by
    rcases ffst_two n fun k hk => h k (by omega) with h1 | h1
    · by_cases h2 : f n = 0
      · exact .inl (ffst_next h1 h2)
      · right
        rw [ffst_hit h1 h2 (n + 1) (by omega)]
        exact (h n (by omega)).resolve_left h2
    · right
      show (if ffst f n = 0 then f n else ffst f n) = 2
      rw [if_neg (by rw [h1]; decide), h1]
theorem cut_ok {g : Grp} (h : grpF0 g = 0) : (g.cut.length ≠ 0 ∧ g.cut.length ≤ 20) ∧ ∀ s ∈ g.cut, 1 ≤ s.weight ∧ s.weight ≤ 1000000 := by
  unfold grpF0 at h
  split at h
  · exact absurd h (by decide)
  split at h
  · exact absurd h (by decide)
  split at h
  · exact absurd h (by decide)
  rename_i h1 h2 h3
  refine ⟨⟨h2, by omega⟩, fun s hs => ?_⟩
  obtain ⟨k, hk, rfl⟩ := List.mem_iff_getElem.1 hs
  have h4 := ffst_all _ h k hk
  unfold stkF at h4
  rw [dif_pos hk] at h4
  split at h4
  · exact absurd h4 (by decide)
  split at h4
  · exact absurd h4 (by decide)
  split at h4
  · assumption
  · exact absurd h4 (by decide)
theorem sum_pos : ∀ {l : List Int}, l ≠ [] → (∀ w ∈ l, 1 ≤ w) → 1 ≤ l.sum
  | [], h, _ => absurd rfl h
  | [w], _, h => by
    have := h w (List.mem_cons_self ..)
    rw [List.sum_cons, List.sum_nil]; omega
  | w :: v :: l, _, h => by
    have h1 := h w (List.mem_cons_self ..)
    have h2 := sum_pos (l := v :: l) (by simp) fun x hx => h x (List.mem_cons_of_mem _ hx)
    rw [List.sum_cons]; omega
theorem stF_two {g : Grp} (hg : grpF0 g = 0) (n : Int) : stF g n = 0 ∨ stF g n = 2 := by
  obtain ⟨⟨h1, h2⟩, h3⟩ := cut_ok hg
  have hwl : (wtS g).length = g.cut.length := List.length_map ..
  unfold stF
  by_cases hp : payP g n
  · rw [if_pos hp]
    by_cases h4 : 1000000000 < n
    · rw [if_pos h4]; exact .inr rfl
    rw [if_neg h4]
    have hw : ∀ w ∈ wtS g, 1 ≤ w ∧ w ≤ 1000000 := fun w hw => by
      obtain ⟨s, hs, rfl⟩ := List.mem_map.1 hw
      exact h3 s hs
    have hn := hp.1
    rw [div_in (by omega) (by omega) (by omega) fun w hwm => by have := hw w hwm; omega, if_neg]
    · exact .inl rfl
    · have := sum_pos (l := wtS g) (by intro e; rw [e] at hwl; exact h1 hwl.symm) fun w hwm => (hw w hwm).1
      omega
  · rw [if_neg hp]
    split
    · exact .inl rfl
    · exact .inr rfl
theorem iss_two {b : Bks} {l : List Rpt} (hb : bksF b = 0) (hl : logF l = 0) (hn : b.next ≤ 2400) (h : issF b l ≠ 0) : issF b l = 2 := by
  have h0 : ¬ askB b l ≠ 0 := by unfold askB; rw [hb, hl]; decide
  have h1 : ¬ 2400 < b.next := by omega
  have ok := bkOk hb
  have hg := ffst_all _ (ctr_parts ok.ctr).2.2.1
  by_cases h2 : ffst (dlK (salB b l) b) b.ctr.deals.length ≠ 0
  · rw [iss_d h0 h1 h2]
    refine (ffst_two _ fun k hk => ?_).resolve_left h2
    unfold dlK
    split
    · unfold dlF
      split
      · exact .inr rfl
      · split
        · exact .inr rfl
        · exact .inl rfl
    · exact .inl rfl
  · rw [iss_g h0 h1 (Decidable.not_not.1 h2)] at h ⊢
    refine (ffst_two _ fun k hk => ?_).resolve_left h
    unfold gpK
    split
    · rename_i hk2
      refine stF_two ?_ _
      have e : (gps b)[k].1 = b.ctr.groups[k] := by rw [gps_at hk2]
      rw [e]
      exact grp_parts hk (hg k hk)
    · exact .inl rfl
theorem stat_rep (n : Nat) : ffst (statF (List.replicate n 0)) (List.replicate n (0 : Int)).length = 0 := ffst_zero _ fun k hk => by
  unfold statF
  rw [dif_pos hk, List.getElem_replicate, if_pos (by decide)]
theorem bal_rep (n : Nat) : ffst (balF (List.replicate n 0)) (List.replicate n (0 : Int)).length = 0 := ffst_zero _ fun k hk => by
  unfold balF
  rw [dif_pos hk, List.getElem_replicate, if_pos (by decide)]
theorem new_bks {c : Ctr} (h : ctrF c = 0) : bksF (newB c) = 0 := by
  rw [newB_ok h]
  unfold bksF
  have h1 := stat_rep c.deals.length
  have h2 := bal_rep c.groups.length
  rw [if_neg (by show ¬ ctrF c ≠ 0; rw [h]; decide), if_neg (by show ¬ ¬ ((0 : Int) ≤ 0 ∧ (0 : Int) ≤ 2401); decide), if_neg (by
    show ¬ ((List.replicate c.deals.length (0 : Int)).length ≠ c.deals.length ∨ (List.replicate c.groups.length (0 : Int)).length ≠ c.groups.length)
    rw [List.length_replicate, List.length_replicate]; omega), if_neg (by show ¬ ffst (statF (List.replicate c.deals.length 0)) (List.replicate c.deals.length (0 : Int)).length ≠ 0; rw [h1]; decide), if_neg (fun h => h rfl)]
  exact h2
theorem adv_0 (d : Deal) : advV 0 d = 0 := by unfold advV; rw [if_neg (by omega)]
theorem sumD_zero (nm : ByteArray) {f : Deal × Int → Int} : ∀ {l : List (Deal × Int)}, (∀ p ∈ l, f p = 0) → sumD nm f l = 0
  | [], _ => rfl
  | p :: l, h => by
    show (if p.1.group = nm then f p else 0) + sumD nm f l = 0
    rw [sumD_zero nm (l := l) fun q hq => h q (List.mem_cons_of_mem _ hq), h p (List.mem_cons_self ..)]
    split <;> rfl
theorem new_add {c : Ctr} (h : ctrF c = 0) : AddU (List.replicate c.groups.length 0) (newB c) := by
  rw [newB_ok h]
  refine ⟨List.length_replicate .., fun x hx => ?_, fun k hk => ?_⟩
  · rw [List.eq_of_mem_replicate hx]; show (0 : Int) ≤ 0 ∧ (0 : Int) ≤ 1000000000 * 0; decide
  · have hk : k < c.groups.length := hk
    have e : atP (List.replicate c.groups.length 0) k = 0 := by rw [atP_get (by rw [List.length_replicate]; exact hk), List.getElem_replicate]
    show atP (List.replicate c.groups.length 0) k + atP (List.replicate c.groups.length 0) k + sumBk _ _ = 0
    rw [e]
    unfold sumBk
    rw [sumD_zero]; rfl
    intro p hp
    have h2 := dls_mem hp
    have h3 : p.2 = 0 := List.eq_of_mem_replicate h2.2
    show advV 0 p.1 - p.2 + (0 : Int) = 0
    rw [adv_0, h3]; rfl
end Go.Proofs.YtcfamaddnmnaeaaGreatDoor
namespace Go.Proofs.YtcfamaddnmnaeaaGreatDoor
open Go.RowKit Go.Shelf Go.Lib Go.Sort
theorem cmpRpt_any (xs ys : ByteArray) (xn yn : Int) (x2 x3 x4 y2 y3 y4 : Value) (W : World) : Calls Tryz.prog 65 #[.agg #[.string xs, .int .i64 xn, x2, x3, x4], .agg #[.string ys, .int .i64 yn, y2, y3, y4]] W fun e w' => e = .returned (.int .i64 (if compareBytes xs.data.toList ys.data.toList = 0 then compareInt xn yn else compareBytes xs.data.toList ys.data.toList)) ∧ ∃ q os', w' = grow (W.drewN q) os' := by
  have hcon := fun W' => AnyG.cmp_Compare_int Tryz.cmpI xn yn W'
  change ∀ W', Calls Tryz.prog 80 #[.int .i64 xn, .int .i64 yn] W' _ at hcon
  have hstr := fun W' => Any.strings_Compare Tryz.l106 xs ys W'
  change ∀ W', Calls Tryz.prog 92 #[.string xs, .string ys] W' _ at hstr
  have hor := or2 (compareBytes xs.data.toList ys.data.toList) (compareInt xn yn)
  generalize compareInt xn yn = s at *
  generalize compareBytes xs.data.toList ys.data.toList = r at *
  have hor2 : ∀ (X : World) (b e : Nat), b = X.heap.size → Calls Tryz.prog 89 #[.slice (some ⟨b, 0, none⟩) 2 2] (X.alloc (.cells #[.int .i64 r, .int .i64 s] e)) fun e' w' => e' = .returned (.int .i64 (if r = 0 then s else r)) ∧ w' = X.alloc (.cells #[.int .i64 r, .int .i64 s] e) :=
    fun X b e hb => hor b _ (cell_top hb rfl) (cell_top hb rfl)
  clear hor
  generalize (if r = 0 then s else r) = t at hor2 ⊢
  go_enter Tryz.func65, Tryz.ntmps65
  go_wp2
  generalize hW2 : (W.alloc (Obj.cells #[Value.string xs, Value.int IntKind.i64 xn, x2, x3, x4] 80)).alloc (Obj.cells #[Value.string ys, Value.int IntKind.i64 yn, y2, y3, y4] 80) = W2
  have c1 : W2.cell? ⟨W.heap.size, 0, none⟩ = some (.string xs) := by rw [← hW2]; simp [go_sem]
  have c2 : W2.cell? ⟨W.heap.size, 1, none⟩ = some (.int .i64 xn) := by rw [← hW2]; simp [go_sem]
  have c3 : W2.cell? ⟨W.heap.size + 1, 0, none⟩ = some (.string ys) := by rw [← hW2]; simp [go_sem]
  have c4 : W2.cell? ⟨W.heap.size + 1, 1, none⟩ = some (.int .i64 yn) := by rw [← hW2]; simp [go_sem]
  have hG : ∃ os, W2 = grow W os := ⟨_, by rw [← hW2, alloc_eq_grow, alloc_eq_grow, grow_grow]⟩
  clear hW2
  refine wp_region_still_tail 10 (by kernel_rfl) (by kernel_rfl) ?_
  simp only [List.take_succ_cons, List.take_zero, List.drop_succ_cons, List.drop_zero]
  have e3 : ({ W2 with drawn := W2.drawn + 1 } : World) = W2.drew := rfl
  simp only [e3]
  have c1' : W2.drew.cell? ⟨W.heap.size, 0, none⟩ = some (.string xs) := c1
  have c2' : W2.drew.cell? ⟨W.heap.size, 1, none⟩ = some (.int .i64 xn) := c2
  have c3' : W2.drew.cell? ⟨W.heap.size + 1, 0, none⟩ = some (.string ys) := c3
  have c4' : W2.drew.cell? ⟨W.heap.size + 1, 1, none⟩ = some (.int .i64 yn) := c4
  have hG' : ∃ q os, W2.drew = grow (W.drewN q) os := by obtain ⟨os, rfl⟩ := hG; exact ⟨1, os, rfl⟩
  clear c1 c2 c3 c4 hG e3
  generalize W2.drew = W3 at *
  still_step
  still_step
  still_step
  still_step
  still_call (hstr _)
  still_step
  still_step
  still_step
  still_step
  still_call (hcon _)
  refine wpStill_nil ?_
  clear hcon hstr c1' c2' c3' c4'
  go_wp2_with (go_at_call 89; refine (hor2 _ _ _ (by simp)).mono ?_; rintro e w' ⟨rfl, rfl⟩)
  go_ret
  obtain ⟨q, os, rfl⟩ := hG'
  exact ⟨rfl, q, _, by rw [alloc_eq_grow, grow_grow]⟩
section
variable {α : Type} [Inhabited α]
end
def encN (ys : Nat → Nat → Value) (n i : Nat) : List Value := if i < n then (List.range 5).map (ys i) else [.string ⟨#[]⟩, .int .i64 0, .int .i64 0, .int .i64 0, .slice none 0 0]
def cfN (xs : List Rpt) (i j : Nat) : Int := rCmp (xs.getD i default) (xs.getD j default)
theorem swoN (xs : List Rpt) : SWO (ltOf (cfN xs)) where
  irrefl x := swoR.irrefl (xs.getD x default)
  trans x y z h1 h2 := swoR.trans (xs.getD x default) (xs.getD y default) (xs.getD z default) h1 h2
  ntrans x y z h1 h2 := swoR.ntrans (xs.getD x default) (xs.getD y default) (xs.getD z default) h1 h2
theorem encN_five (ys : Nat → Nat → Value) (n i : Nat) : ∃ s no p c l, encN ys n i = [s, no, p, c, l] ∧ (i < n → s = ys i 0 ∧ no = ys i 1) ∧ (¬ i < n → s = .string ⟨#[]⟩ ∧ no = .int .i64 0) := by
  unfold encN
  by_cases h : i < n
  · rw [if_pos h]
    exact ⟨_, _, _, _, _, rfl, fun _ => ⟨rfl, rfl⟩, fun h2 => absurd h h2⟩
  · rw [if_neg h]
    exact ⟨_, _, _, _, _, rfl, fun h2 => absurd h2 h, fun _ => ⟨rfl, rfl⟩⟩
theorem hagR (w : World) : (isAgg 80).run Tryz.prog w = .ok true w := (AggT.of (by kernel_rfl) : AggT Tryz.prog 80 5).agg w
theorem hszR (w : World) : (Go.sizeOf 80).run Tryz.prog w = .ok 5 w := (AggT.of (by kernel_rfl) : AggT Tryz.prog 80 5).size w
theorem c_sortR (xs : List Rpt) (hn : xs.length < 4611686018427387904) (hd : Dist xs) (e : Nat) : RCall Tryz.prog 67 e 5 (xs.map Rpt.ds) ((sortR xs).map Rpt.ds) [.clo (.func 65) []] (.tup []) := by
 intro id
 refine ⟨.of Tryz.func67 (by kernel_rfl) rfl, fun F ρ B w vs hF hB hσ hv => ?_⟩
 obtain rfl := repSL_fn hv
 have hsl : (sortR xs).length = xs.length := (sortR_perm xs).length_eq
 have hl : (xs.map Rpt.ds).length = xs.length := List.length_map ..
 obtain ⟨ys, h1, h2, h3, h4⟩ := hσ.ok _ (List.mem_singleton.2 rfl)
 rw [hl] at h1
 have h1' : w.ownsRow B e 5 (ρ id) xs.length (flat ys xs.length 5) := h1
 have hcell : ∀ i, (hi : i < xs.length) → ∀ c, (hc : c < 5) → (ys i c).oneCell' = true ∧ Rep F w (ys i c) (xs[i].ds[c]'(by simpa [Rpt.ds] using hc)) := fun i hi c hc => by
  have := h3 i (by rw [hl]; exact hi) c (by rw [List.getElem_map]; simpa [Rpt.ds] using hc)
  simpa only [List.getElem_map] using this
 have hkey : ∀ i, (hi : i < xs.length) → ys i 0 = .string xs[i].source ∧ ys i 1 = .int .i64 xs[i].no := fun i hi =>
  ⟨rep_v (hcell i hi 0 (by omega)).2, rep_v (hcell i hi 1 (by omega)).2⟩
 rcases h1'.2 with ⟨h5, h6⟩ | ⟨g, cap, cur, h5, h6, h7, h8, h9, h10, h11⟩
 ·have h6' := List.eq_nil_of_length_eq_zero h6
  subst h6'
  rw [h5]
  have h := AnyF.slices_SortFunc_none Tryz.sortF none 0 (.func (.func 65) #[] #[]) w
  change Calls Tryz.prog 67 #[.slice none 0 0, .func (.func 65) #[] #[]] w _ at h
  refine h.mono fun e' w' ⟨he, hw⟩ => ?_
  subst hw
  refine ⟨_, F, ρ, he, .tup [] [] rfl (fun i h1 => by simp at h1), fun _ hb => hb, fun _ hb => .inl hb, hF, Kept.refl _ _, ?_, ?_, fun _ _ => rfl⟩
  ·have : (sortR ([] : List Rpt)).map Rpt.ds = ([] : List Rpt).map Rpt.ds := by unfold sortR; rw [List.mergeSort_nil]
   rw [this]
   exact hσ
  intro p hp g hg
  have : p = (id, .row e 5 ((sortR ([] : List Rpt)).map Rpt.ds)) := by simpa using hp
  subst this
  rw [h5] at hg
  simp [blk] at hg
 rw [h5]
 have hg : g < w.heap.size := (Array.getElem?_eq_some_iff.1 h7).1
 have hcur : ∀ i c, i < xs.length → c < 5 → cur[i * 5 + c]? = some (ys i c) := fun i c hi hc => by
  have hcc := row_cell h1' h5 h7 hi hc
  rwa [cell_of_row w g (i * 5 + c) cur e (0, 0) h7] at hcc
 have eg : ∀ args w, (callFunc 65 args).run Tryz.prog w = .ok (.enter 65 args) w := enters_of Tryz.func65 (by kernel_rfl) rfl
 have hH : HoldsK (encN ys xs.length) 5 w g 0 (Array.range xs.length) := by
  intro j hj
  have hj' : j < xs.length * 5 := by simpa using hj
  have hpi : j / 5 < xs.length := by omega
  have h12 := hcur (j / 5) (j % 5) hpi (by omega)
  rw [show j / 5 * 5 + j % 5 = j by omega] at h12
  rw [Nat.zero_add, cell_of_row w g j cur e (0, 0) h7, h12, get_flatK _ 5 _ _ (by simpa using hj'), rngK (α := Nat) _ _ hpi]
  refine ⟨?_, ?_⟩
  ·unfold encN
   rw [if_pos hpi]
   have : j % 5 < 5 := by omega
   generalize j % 5 = c at *
   match c, this with
   | 0, _ => rfl
   | 1, _ => rfl
   | 2, _ => rfl
   | 3, _ => rfl
   | 4, _ => rfl
  unfold World.frozen?
  rw [h7]
  simp
 have hC : CmpLays Tryz.prog 65 #[] (encN ys xs.length) 5 (cfN xs) g 0 (Array.range xs.length).size w := fun m os dk _ x y => by
  obtain ⟨s1, n1, p1, c1, l1, e1, a1, b1⟩ := encN_five ys xs.length x
  obtain ⟨s2, n2, p2, c2, l2, e2, a2, b2⟩ := encN_five ys xs.length y
  have k1 : s1 = .string (xs.getD x default).source ∧ n1 = .int .i64 (xs.getD x default).no := by
   by_cases hx : x < xs.length
   ·rw [(a1 hx).1, (a1 hx).2, List.getD_eq_getElem?_getD, List.getElem?_eq_getElem hx]
    exact hkey x hx
   rw [(b1 hx).1, (b1 hx).2, List.getD_eq_getElem?_getD, List.getElem?_eq_none (by omega)]
   exact ⟨rfl, rfl⟩
  have k2 : s2 = .string (xs.getD y default).source ∧ n2 = .int .i64 (xs.getD y default).no := by
   by_cases hy : y < xs.length
   ·rw [(a2 hy).1, (a2 hy).2, List.getD_eq_getElem?_getD, List.getElem?_eq_getElem hy]
    exact hkey y hy
   rw [(b2 hy).1, (b2 hy).2, List.getD_eq_getElem?_getD, List.getElem?_eq_none (by omega)]
   exact ⟨rfl, rfl⟩
  rw [e1, e2, k1.1, k1.2, k2.1, k2.2]
  exact cmpRpt_any _ _ _ _ p1 c1 l1 p2 c2 l2 _
 have h := AnyQ.slices_SortFunc Tryz.sortF 5 hagR hszR (encN ys xs.length) (fun x => by obtain ⟨_, _, _, _, _, e1, _⟩ := encN_five ys xs.length x; rw [e1]; rfl)
  (fun x v hv => by
   unfold encN at hv
   by_cases hx : x < xs.length
   ·rw [if_pos hx] at hv
    obtain ⟨c, hc, rfl⟩ := List.mem_map.1 hv
    exact (hcell x hx c (List.mem_range.1 hc)).1
   rw [if_neg hx] at hv
   simp at hv
   rcases hv with rfl | rfl | rfl <;> rfl) (cfN xs) (swoN xs) 65 #[] g 0 cap (Array.range xs.length) w eg hC hH hg (by simpa using hn)
 rw [show (Array.range xs.length).size = xs.length by simp] at h
 change Calls Tryz.prog 67 #[.slice (some ⟨g, 0, none⟩) xs.length cap, .func (.func 65) #[] #[]] w _ at h
 refine h.mono fun e' w' ⟨he, d', n, os, hp, hs, hw⟩ => ?_
 obtain ⟨hp1, _, hp3⟩ := hp
 have hds : d'.size = xs.length := by rw [hp1]; simp
 have hperm : d'.toList.Perm (List.range xs.length) := by
  have e1 : d'.extract 0 xs.length = d' := by rw [← hds]; exact Array.extract_size
  have e2 : (Array.range xs.length).extract 0 xs.length = Array.range xs.length := by
   have := Array.extract_size (xs := Array.range xs.length)
   rwa [show (Array.range xs.length).size = xs.length by simp] at this
  rw [e1, e2] at hp3
  simpa using hp3
 have hlt : ∀ i, i < xs.length → d'[i]! < xs.length := fun i hi => by
  rw [getElem!_pos d' i (by omega)]
  have : d'[i] ∈ d'.toList := by rw [Array.mem_toList_iff]; exact Array.getElem_mem _
  exact List.mem_range.1 (hperm.mem_iff.1 this)
 have hsort : (d'.toList.map fun i => xs.getD i default) = sortR xs := by
  refine sortR_uniq hd ?_ ?_
  ·have h12 := hperm.map fun i => xs.getD i default
   have h13 : (List.range xs.length).map (fun i => xs.getD i default) = xs := by
    apply List.ext_getElem
    ·simp
    intro i a1 a2
    simp [List.getD_eq_getElem?_getD, List.getElem?_eq_getElem a2]
   rwa [h13] at h12
  rw [List.pairwise_map, List.pairwise_iff_getElem]
  intro i j hi hj hij
  have hj' : j < xs.length := by rw [← hds]; simpa using hj
  have h12 := hs i j (Nat.zero_le _) hij (by rw [← hds]; simpa using hj)
  rw [getElem!_pos d' i (by omega), getElem!_pos d' j (by omega)] at h12
  have h13 : ltR (xs.getD d'[j] default) (xs.getD d'[i] default) = false := h12
  simpa using h13
 have hat : ∀ i, (hi : i < xs.length) → (sortR xs)[i]'(by rw [hsl]; exact hi) = xs[d'[i]!]'(hlt i hi) := fun i hi => by
  have h12 : (d'.toList.map fun i => xs.getD i default)[i]? = some (xs[d'[i]!]'(hlt i hi)) := by
   rw [List.getElem?_map, Array.getElem?_toList, Array.getElem?_eq_getElem (by omega)]
   have := hlt i hi
   rw [getElem!_pos d' i (by omega)] at this
   simp only [Option.map_some, List.getD_eq_getElem?_getD, List.getElem?_eq_getElem this, Option.getD_some]
   congr 1
   simp [getElem!_pos d' i (by omega)]
  rw [hsort, List.getElem?_eq_getElem (by rw [hsl]; exact hi)] at h12
  exact Option.some.inj h12
 have hw2 : w' = Sort.grow (putRowK (encN ys xs.length) 5 (Sort.ahead w n) g 0 d') os := hw
 obtain ⟨hb1, hb2⟩ := put_blockG (encN ys xs.length) 5 (n := n) (os := os) (zs := d') h7
 have hsz : w.heap.size ≤ w'.heap.size := by rw [hw2, Sort.size_grow, size_putRowK]; exact Nat.le_add_right _ _
 have hob : ownB [(id, Ob.row e 5 (xs.map Rpt.ds))] ρ g := ⟨_, List.mem_singleton.2 rfl, by rw [h5]; rfl⟩
 have hnF : ¬ F g := h4 g (by rw [h5]; rfl)
 have hkeep : ∀ b, F b → w'.heap[b]? = w.heap[b]? := fun b hb => by
  rw [hw2]
  exact hb2 b (hF b hb) (fun e => hnF (e ▸ hb))
 refine ⟨_, F, ρ, he, .tup [] [] rfl (fun i h1 => by simp at h1), fun _ hb => hb, fun _ hb => .inl hb, fun b hb => Nat.lt_of_lt_of_le (hF b hb) hsz, ⟨by rw [hw2]; rfl, by rw [hw2]; rfl, by rw [hw2]; rfl, hsz, fun k hk hne => ?_⟩, ?_, ?_, fun _ _ => rfl⟩
 ·rw [hw2]
  exact hb2 k hk (fun he => hne (.inr (he ▸ hob)))
 ·refine ⟨fun p hp => ?_, fun p hp q hq hne => ?_, fun p hp q hq _ => ?_⟩
  ·have : p = (id, .row e 5 ((sortR xs).map Rpt.ds)) := by simpa using hp
   subst this
   have hl2 : ((sortR xs).map Rpt.ds).length = xs.length := by rw [List.length_map, hsl]
   have hc2 : ∀ i c, i < xs.length → c < 5 → (Sort.putCells _root_.id 0 (flatK (encN ys xs.length) 5 d') cur)[i * 5 + c]? = some (ys d'[i]! c) := fun i c hi hc => by
    rw [put_cellsG (encN ys xs.length) 5 d' cur (by rw [hds, h10]; exact Nat.mul_le_mul_right 5 h8) i c (by omega) hc]
    unfold encN
    rw [if_pos (hlt i hi)]
    match c, hc with
    | 0, _ => rfl
    | 1, _ => rfl
    | 2, _ => rfl
    | 3, _ => rfl
    | 4, _ => rfl
   refine ⟨fun i c => ys d'[i]! c, ?_, fun i hi => by simp [Rpt.ds], fun i hi c hc => ?_, fun g' hg' => ?_⟩
   ·rw [hl2]
    refine ⟨flat_length _ _ _, .inr ⟨g, cap, _, h5, h6, by rw [hw2]; exact hb1, h8, h9, by simp [Sort.putCells, h10], ?_⟩⟩
    apply List.ext_getElem?
    intro p
    by_cases hp : p < xs.length * 5
    ·have hpi : p / 5 < xs.length := by omega
     have := flatten_get (fun i c => ys d'[i]! c) 5 xs.length (p / 5) (p % 5) hpi (by omega)
     rw [show p / 5 * 5 + p % 5 = p by omega] at this
     have h12 := hc2 (p / 5) (p % 5) hpi (by omega)
     rw [show p / 5 * 5 + p % 5 = p by omega] at h12
     rw [this, List.getElem?_take, if_pos hp, Array.getElem?_toList, h12]
    rw [List.getElem?_eq_none (by rw [List.length_take]; omega)]
    exact (List.getElem?_eq_none (by have := flat_length (fun i c => ys d'[i]! c) xs.length 5; unfold flat at this; rw [this]; omega)).symm
   ·rw [hl2] at hi
    have hc5 : c < 5 := by simpa [Rpt.ds] using hc
    have h12 := hcell d'[i]! (hlt i hi) c hc5
    refine ⟨h12.1, ?_⟩
    simp only [List.getElem_map]
    have h13 := h12.2.mono (F' := F) (w' := w') (fun _ h => h) hkeep
    have e1 := hat i hi
    simp only [e1]
    exact h13
   rw [h5] at hg'
   simp [blk] at hg'
   subst hg'
   exact hnF
  ·have h1 : p = (id, .row e 5 ((sortR xs).map Rpt.ds)) := by simpa using hp
   have h2 : q = (id, .row e 5 ((sortR xs).map Rpt.ds)) := by simpa using hq
   rw [h1, h2] at hne
   exact absurd rfl hne
  have h1 : p = (id, .row e 5 ((sortR xs).map Rpt.ds)) := by simpa using hp
  have h2 : q = (id, .row e 5 ((sortR xs).map Rpt.ds)) := by simpa using hq
  rw [h1, h2]
 intro p hp g' hg'
 have : p = (id, .row e 5 ((sortR xs).map Rpt.ds)) := by simpa using hp
 subst this
 exact .inr ⟨_, List.mem_singleton.2 rfl, hg'⟩
end Go.Proofs.YtcfamaddnmnaeaaGreatDoor
namespace Go.Proofs.YtcfamaddnmnaeaaGreatDoor
open Go.RowKit
namespace TyM4D
theorem et_51 : ElemTy Tryz.prog 51 22 1 24 (.slice none 0 0) := ⟨by kernel_rfl, by kernel_rfl, by kernel_rfl, by decide⟩
theorem sc_22 : Scal Tryz.prog 22 := .of (by kernel_rfl)
end TyM4D
open TyF0 TyF1 TyF2 TyF3 TyF4 TyF5 TyF6 TyF11 TyG1 TyG2 TyG5 TyU1 TyU2 TyU3 TyU4 TyM1 TyM2 TyM3 TyM7 TyM8 TyM9 TyO1 TyM10 TyO2 TyU5 TyU6 TyU7 TyU8 TyIA TyIC TyIB TyID TyO3 TyM11 TyO6 TyO7 TyG3 TyIE TyIF TyIG TyIJ TyIK TyIH TyIL TyIM TyIQ TyU9D TyIR TyM4D
open Go.Lib
def selL (a b : List Rpt) (k : Nat) : List Rpt := if k = 0 then a else b
theorem sel_at {a b : List Rpt} {k : Nat} (h : k < 2) : ([[.sl (a.map Rpt.ds)], [.sl (b.map Rpt.ds)]] : List (List D))[k]? = some [.sl ((selL a b k).map Rpt.ds)] := by
  match k, h with
  | 0, _ => rfl
  | 1, _ => rfl
theorem sel_ok {a b : List Rpt} {k : Nat} (ha : ∀ x ∈ a, okRpt x) (hb : ∀ x ∈ b, okRpt x) : ∀ x ∈ selL a b k, okRpt x := by
  unfold selL
  split
  · exact ha
  · exact hb
theorem join_f1 {a b : List Rpt} {k : Nat} (hk : k < 2) (h0 : 0 < k → logF a = 0) (h : logF (selL a b k) ≠ 0) : joinF a b = logF (selL a b k) ∧ joinR a b = [] := by
  have e : joinF a b = logF (selL a b k) := by
    unfold joinF
    match k, hk with
    | 0, _ => exact if_pos h
    | 1, _ => rw [if_neg (by rw [h0 (by omega)]; simp)]; exact if_pos h
  exact ⟨e, join_len (by rw [e]; exact h)⟩
theorem join_k1 {a b : List Rpt} {k : Nat} (hk : k < 2) (h1 : 0 < k → logF a = 0) (h : logF (selL a b k) = 0) : logF a = 0 := by
  match k, hk with
  | 0, _ => exact h
  | 1, _ => exact h1 (by omega)
theorem join_k2 {a b : List Rpt} {k : Nat} (hk : k = 1) (h : logF (selL a b k) = 0) : logF b = 0 := by
  subst hk; exact h
theorem join_f2 {a b : List Rpt} (ha : logF a = 0) (hb : logF b = 0) (h : clashB a b = true) : joinF a b = 12 ∧ joinR a b = [] := by
  have e : joinF a b = 12 := by
    unfold joinF
    rw [if_neg (by rw [ha]; simp), if_neg (by rw [hb]; simp), if_pos h]
  exact ⟨e, join_len (by rw [e]; decide)⟩
theorem join_f3 {a b : List Rpt} (ha : logF a = 0) (hb : logF b = 0) (h : clashB a b = false) (hl : 300 < (a ++ newK a b).length) : joinF a b = 2 ∧ joinR a b = [] := by
  have e : joinF a b = 2 := by
    unfold joinF
    rw [if_neg (by rw [ha]; simp), if_neg (by rw [hb]; simp), if_neg (by rw [h]; simp), if_pos hl]
  exact ⟨e, join_len (by rw [e]; decide)⟩
theorem join_f4 {a b : List Rpt} (ha : logF a = 0) (hb : logF b = 0) (h : clashB a b = false) (hl : ¬ 300 < (a ++ newK a b).length) : joinF a b = 0 ∧ joinR a b = sortR (a ++ newK a b) := by
  have e : joinF a b = 0 := by
    unfold joinF
    rw [if_neg (by rw [ha]; simp), if_neg (by rw [hb]; simp), if_neg (by rw [h]; simp), if_neg hl]
  exact ⟨e, joinR_ok e⟩
theorem clash_hit {a b : List Rpt} {k j : Nat} (hk : k < b.length) (hj : j < a.length) (hs : sameK a[j] b[k] = true) (hne : ¬ a[j] = b[k]) : clashB a b = true := by
  cases h : clashB a b with
  | true => rfl
  | false => exact absurd (clash_no.1 h _ (List.getElem_mem hk) _ (List.getElem_mem hj) hs) hne
theorem new_snoc {a b : List Rpt} {k : Nat} (hk : k < b.length) : newK a (b.take (k + 1)) = newK a (b.take k) ++ (if hasK a b[k] = true then [] else [b[k]]) := by
  unfold newK
  rw [List.take_add_one, List.getElem?_eq_getElem hk, Option.toList_some, List.filter_append, List.filter_cons, List.filter_nil]
  cases hasK a b[k] <;> rfl
theorem clash_snoc {a b : List Rpt} {k : Nat} (hk : k < b.length) (h : clashB a (b.take k) = false) (h2 : ∀ y ∈ a, sameK y b[k] = true → y = b[k]) : clashB a (b.take (k + 1)) = false := by
  rw [clash_no] at *
  intro x hx y hy hs
  rw [List.take_add_one, List.getElem?_eq_getElem hk, Option.toList_some, List.mem_append, List.mem_singleton] at hx
  rcases hx with hx | rfl
  · exact h x hx y hy hs
  · exact h2 y hy hs
theorem miss_all {a : List Rpt} {x : Rpt} (h : hasK a x = false) : ∀ y ∈ a, sameK y x = true → y = x := fun y hy hs => by
  rw [hasK_iff.2 ⟨y, hy, hs⟩] at h; cases h
theorem same_one {a : List Rpt} (hr : Rise a) {j : Nat} (hj : j < a.length) {x : Rpt} (hs : sameK a[j] x = true) (he : a[j] = x) : ∀ y ∈ a, sameK y x = true → y = x := fun y hy hk => by
  subst he
  obtain ⟨i, hi, rfl⟩ := List.mem_iff_getElem.1 hy
  have hd := rise_dist hr
  rcases Nat.lt_trichotomy i j with h1 | h1 | h1
  · have := List.pairwise_iff_getElem.1 hd i j hi hj h1
    rw [hk] at this; cases this
  · subst h1; rfl
  · have := List.pairwise_iff_getElem.1 hd j i hj hi h1
    rw [sameK_symm hk] at this; cases this
theorem newK_len (a b : List Rpt) : (newK a b).length ≤ b.length := List.length_filter_le _ _
theorem c_pJoin (a b : List Rpt) (ha : ∀ x ∈ a, okRpt x) (hb : ∀ x ∈ b, okRpt x) : ACallT Tryz.prog MaxT 23 [.sl (a.map Rpt.ds), .sl (b.map Rpt.ds)] (.tup [.sl ((joinR a b).map Rpt.ds), .v (.int .i64 (joinF a b))]) := by
 refine acall_ofT (n := 93) (ds' := [.sl ((joinR a b).map Rpt.ds), .v (.int .i64 (joinF a b))]) Tryz.func23 rfl (by kernel_rfl) rfl [4, 5] rfl rfl ?_
 intro B w0 F0 hT
 refine .sr (.aA ?_)
 refine .aA (.nil ?_)
 refine .seq (.sr (.mA ?_))
 refine .mA ?_
 refine .sA (.buildSlice rfl et_51 (.cons rfl rfl rfl (.cons rfl rfl rfl .nil)) rfl (by decide)) ?_
 refine .sA (.lenSl rfl et_51.ht rfl) ?_
 refine .mA (.nil ?_)
 refine .block (.loop (G := Nat) (fun k => Env.of [(21, .d (.v (.int .i64 (k : Int)))), (19, .d (.sl [[.sl (a.map Rpt.ds)], [.sl (b.map Rpt.ds)]])), (20, .d (.v (.int .i64 2))), (0, .d (.sl (a.map Rpt.ds))), (1, .d (.sl (b.map Rpt.ds)))]) (fun k => []) (fun k => k ≤ 2 ∧ (0 < k → logF a = 0) ∧ (1 < k → logF b = 0)) (fun k => 2 - k) 0 ⟨by omega, fun h => by omega, fun h => by omega⟩ (Sub.less ⟨(SLe.of_eq rfl), (SLe.of_eq rfl), (SLe.of_eq rfl), SLe.refl _, SLe.refl _, trivial⟩ (fun _ h => h)) ?_)
 intro k hk
 refine .sr ?_
 refine .sA (.lss rfl rfl rfl) (.nil ?_)
 refine .seq ?_
 refine .cond rfl (fun h1 => ?_) (fun h1 => ?_)
 ·replace h1 := dcT h1
  have hlt : k < 2 := by omega
  refine .skip (.seq (.block (.sr (.sA (.indexAddr rfl et_51 rfl rfl k rfl (sel_at hlt) rfl) ?_))))
  refine .sA (.load rfl sc_22 rfl) ?_
  refine .aA (.nil ?_)
  refine .sr (.mA ?_)
  -- wants the world
  refine .callT rfl rfl rfl hT maxT_stays rfl (.cons (.rfl' rfl) .nil) (c_pLog (selL a b k) (sel_ok ha hb)) ?_
  refine .aA (.nil ?_)
  refine .sr (.mA ?_)
  refine .sA (.neq rfl rfl rfl) (.nil ?_)
  refine .cond rfl (fun h2 => ?_) (fun h2 => ?_)
  ·replace h2 := dcT h2
   obtain ⟨HF, HR⟩ := join_f1 hlt hk.2.1 h2
   rw [HF, HR]
   refine .sr (.mA ?_)
   refine .aA ?_
   refine .aA (.nil ?_)
   refine .ret ?_
   refine ⟨RetD.nil rfl, RetD.eq rfl ?_, trivial⟩
   all_goals (rfl)
  replace h2 := dcF h2
  have h0 : logF (selL a b k) = 0 := by omega
  refine .skip (.region (.sA (.add64 rfl rfl rfl (by omega) (by omega)) ?_))
  refine .mA (.nil ?_)
  refine ⟨k + 1, ⟨by omega, fun _ => join_k1 hlt hk.2.1 h0, fun _ => join_k2 (by omega) h0⟩, (by dsimp only; omega), Sub.less ⟨(SLe.of_eq rfl), SLe.refl _, SLe.refl _, SLe.refl _, SLe.refl _, trivial⟩ (fun _ h => h)⟩
 replace h1 := dcF h1
 obtain rfl : k = 2 := by omega
 have hla := hk.2.1 (by omega)
 have hlb := hk.2.2 (by omega)
 have la := log_of hla
 have lb := log_of hlb
 have hal := la.len
 have hbl := lb.len
 refine .exit (.sr ?_)
 refine .aA (.nil ?_)
 refine .seq (.sr (.mA ?_))
 refine .sA (.lenSl rfl et_22.ht rfl) ?_
 refine .mA (.nil ?_)
 refine .block (.adopt 9 61 80 5 rfl rfl ?_)
 refine .loop (G := Nat) (fun k => Env.of [(33, .d (.v (.int .i64 (k : Int)))), (31, .d (.sl (a.map Rpt.ds))), (32, .d (.v (.int .i64 ((a.map Rpt.ds).length : Int)))), (0, .d (.sl (a.map Rpt.ds))), (1, .d (.sl (b.map Rpt.ds))), (9, .own 61)]) (fun k => [(61, .row 80 5 ((a.take k).map Rpt.ds))]) (fun k => k ≤ a.length) (fun k => a.length - k) 0 (Nat.zero_le _) (Sub.less ⟨(SLe.of_eq rfl), SLe.refl _, SLe.refl _, SLe.refl _, SLe.refl _, SLe.refl _, trivial⟩ (row_sameM rfl)) ?_
 intro k hk
 refine .sr ?_
 refine .sA (.lss rfl rfl rfl) (.nil ?_)
 refine .seq ?_
 refine .cond rfl (fun h3 => ?_) (fun h3 => ?_)
 ·replace h3 := dcT h3
  rw [List.length_map] at h3
  have hlt : k < a.length := by omega
  refine .skip (.seq (.block (.sr (.sA (.indexAddr rfl et_22 rfl rfl k rfl (at_lst hlt) rfl) ?_))))
  refine .sA (.loadAgg rfl ag_80 rfl rfl) ?_
  refine .alloc 101 rfl rfl rfl rfl zt_80 rfl rfl rfl ?_
  refine .store rfl rfl rfl sz_80 rfl (.head _) rfl rfl rfl (Nat.le_of_ble_eq_true rfl) ?_
  refine .freezeCells 11 (ds := a[k].ds) rfl (.head _) (.nil ?_)
  refine .region (.sA (.moveO rfl rfl) ?_)
  refine .sA (.loadAgg rfl ag_80 rfl rfl) ?_
  refine .sA (.call rfl (.cons (.rfl' rfl) .nil) (c_own a[k] (by have := rpt_lines (la.ok _ (List.getElem_mem hlt)); omega))) ?_
  refine .sA (.buildSlice rfl et_22 (.cons rfl rfl rfl .nil) rfl (by decide)) ?_
  -- append 41
  refine .append rfl rfl rfl rfl et_22 rfl (.head _) rfl (fun y hy => by obtain rfl := List.mem_singleton.1 hy; rfl) (by simp; omega) (by simp; omega) ?_
  refine .sA (.assignO rfl rfl) (.nil ?_)
  refine .region (.sA (.add64 rfl rfl rfl (by omega) (by omega)) ?_)
  refine .mA (.nil ?_)
  refine ⟨k + 1, (by omega), (by dsimp only; omega), Sub.less ⟨(SLe.of_eq rfl), SLe.refl _, SLe.refl _, SLe.refl _, SLe.refl _, SLe.refl _, trivial⟩ (row_sameM (by rw [List.take_add_one, List.getElem?_eq_getElem hlt, Option.toList_some, List.map_append]; rfl))⟩
 replace h3 := dcF h3
 rw [List.length_map] at h3
 obtain rfl : k = a.length := by omega
 rw [List.take_length]
 refine .exit (.seq (.sr (.mA ?_)))
 refine .sA (.lenSl rfl et_22.ht rfl) ?_
 refine .mA (.nil ?_)
 refine .block (.loop (G := Nat) (fun k => Env.of [(45, .d (.v (.int .i64 (k : Int)))), (43, .d (.sl (b.map Rpt.ds))), (44, .d (.v (.int .i64 ((b.map Rpt.ds).length : Int)))), (0, .d (.sl (a.map Rpt.ds))), (9, .own 61)]) (fun k => [(61, .row 80 5 ((a ++ newK a (b.take k)).map Rpt.ds))]) (fun k => k ≤ b.length ∧ clashB a (b.take k) = false) (fun k => b.length - k) 0 ⟨Nat.zero_le _, by rw [List.take_zero]; rfl⟩ (Sub.less ⟨(SLe.of_eq rfl), SLe.refl _, SLe.refl _, SLe.refl _, SLe.refl _, trivial⟩ (row_sameM (by rw [List.take_zero]; simp [newK]))) ?_)
 intro k hk
 refine .sr ?_
 refine .sA (.lss rfl rfl rfl) (.nil ?_)
 refine .seq ?_
 refine .cond rfl (fun h4 => ?_) (fun h4 => ?_)
 ·replace h4 := dcT h4
  rw [List.length_map] at h4
  have hlt : k < b.length := by omega
  have hnl := newK_len a (b.take k)
  have hns := new_snoc (a := a) hlt
  rw [List.length_take] at hnl
  have hhe := hasR_eq la.rise b[k]
  refine .skip (.seq (.block (.sr (.sA (.indexAddr rfl et_22 rfl rfl k rfl (at_lst hlt) rfl) ?_))))
  refine .sA (.loadAgg rfl ag_80 rfl rfl) ?_
  refine .alloc 102 rfl rfl rfl rfl zt_80 rfl rfl rfl ?_
  refine .store rfl rfl rfl sz_80 rfl (.head _) rfl rfl rfl (Nat.le_of_ble_eq_true rfl) ?_
  refine .freezeCells 13 (ds := b[k].ds) rfl (.head _) (.nil ?_)
  refine .sr (.mA ?_)
  refine .sA (.loadAgg rfl ag_80 rfl rfl) ?_
  refine .sA (.call rfl (.cons (.rfl' rfl) (.cons (.rfl' rfl) (.cons (.fn rfl) .nil))) (c_bsR a b[k] (by have := la.len; omega))) ?_
  refine .mA ?_
  refine .sA (.extract rfl rfl rfl) (.sA (.extract rfl rfl rfl) ?_)
  refine .aA ?_
  refine .aA (.nil ?_)
  refine .seq (.sr (.mA ?_))
  refine .sA (.not rfl rfl) (.nil ?_)
  refine .cond rfl (fun h5 => ?_) (fun h5 => ?_)
  ·replace h5 := bnot_t h5
   have hno : hasK a b[k] = false := by rw [← hhe]; exact h5
   rw [hno, if_neg (by decide)] at hns
   have HC := clash_snoc hlt hk.2 (miss_all hno)
   refine .sr (.sA (.moveO rfl rfl) ?_)
   refine .sA (.loadAgg rfl ag_80 rfl rfl) ?_
   refine .sA (.call rfl (.cons (.rfl' rfl) .nil) (c_own b[k] (by have := rpt_lines (lb.ok _ (List.getElem_mem hlt)); omega))) ?_
   refine .sA (.buildSlice rfl et_22 (.cons rfl rfl rfl .nil) rfl (by decide)) ?_
   -- append 61
   refine .append rfl rfl rfl rfl et_22 rfl (.head _) rfl (fun y hy => by obtain rfl := List.mem_singleton.1 hy; rfl) (by simp; omega) (by simp; omega) ?_
   refine .sA (.assignO rfl rfl) (.nil ?_)
   refine .exit (.region (.sA (.add64 rfl rfl rfl (by omega) (by omega)) ?_))
   refine .mA (.nil ?_)
   refine ⟨k + 1, ⟨by omega, HC⟩, (by dsimp only; omega), Sub.less ⟨(SLe.of_eq rfl), SLe.refl _, SLe.refl _, SLe.refl _, SLe.refl _, trivial⟩ (row_sameM (by first | (rw [hns]; done) | (rw [hns, ← List.append_assoc, List.map_append (l₂ := [b[k]])]; rfl)))⟩
  replace h5 := bnot_f h5
  have hyes : hasR a b[k] = true := h5
  obtain ⟨hp, hs⟩ := hasR_yes hyes
  rw [← hhe, hyes, if_pos rfl, List.append_nil] at hns
  refine .skip (.sr (.mA ?_))
  refine .mA ?_
  refine .sA (.indexAddr rfl et_22 rfl rfl (posR a b[k]) rfl (at_lst hp) rfl) (.sA (.loadAgg rfl ag_80 rfl rfl) ?_)
  refine .alloc 103 rfl rfl rfl rfl zt_80 rfl rfl rfl ?_
  refine .store rfl rfl rfl sz_80 rfl (.head _) rfl rfl rfl (Nat.le_of_ble_eq_true rfl) ?_
  refine .freezeCells 16 (ds := a[posR a b[k]].ds) rfl (.head _) (.nil ?_)
  refine .sr (.sA (.fieldAddr rfl fo_80_2 rfl) ?_)
  refine .sA (.load rfl sc_3 rfl) (.sA (.fieldAddr rfl fo_80_2 rfl) (.sA (.load rfl sc_3 rfl) (.sA (.neq rfl rfl rfl) ?_)))
  refine .mA ?_
  refine .split 71 rfl (fun g6 => ?_) (fun g6 => ?_)
  ·replace g6 := dcT g6
   obtain ⟨HF, HR⟩ := join_f2 hla hlb (clash_hit hlt hp hs (fun e => g6 (by rw [e])))
   rw [HF, HR]
   refine .pA ?_
   refine .pA ?_
   refine .pA ?_
   refine .pA ?_
   refine .pA ?_
   refine .sA (.pickT rfl rfl rfl) ?_
   refine .mA ?_
   refine .pA ?_
   refine .pA ?_
   refine .pA ?_
   refine .pA ?_
   refine .pA ?_
   refine .pA ?_
   refine .sA (.pickT rfl rfl rfl) (.nil ?_)
   refine .cond rfl (fun _ => ?_) (fun h => nomatch h)
   refine .sr (.aA ?_)
   refine .aA (.nil ?_)
   refine .ret ?_
   refine ⟨RetD.nil rfl, RetD.eq rfl ?_, trivial⟩
   all_goals (rfl)
  replace g6 := dcF g6
  have e3 : b[k].period = a[posR a b[k]].period := by omega
  refine .sG (.fieldAddr rfl fo_80_3 rfl) ?_
  refine .sG (.load rfl sc_3 rfl) ?_
  refine .sG (.fieldAddr rfl fo_80_3 rfl) ?_
  refine .sG (.load rfl sc_3 rfl) ?_
  refine .sG (.neq rfl rfl rfl) ?_
  refine .sA (.pickF rfl rfl rfl) ?_
  refine .mA ?_
  refine .split 78 rfl (fun g7 => ?_) (fun g7 => ?_)
  ·replace g7 := dcT g7
   obtain ⟨HF, HR⟩ := join_f2 hla hlb (clash_hit hlt hp hs (fun e => g7 (by rw [e])))
   rw [HF, HR]
   refine .pA ?_
   refine .pA ?_
   refine .pA ?_
   refine .pA ?_
   refine .pA ?_
   refine .pA ?_
   refine .sA (.pickT rfl rfl rfl) (.nil ?_)
   refine .cond rfl (fun _ => ?_) (fun h => nomatch h)
   refine .sr (.aA ?_)
   refine .aA (.nil ?_)
   refine .ret ?_
   refine ⟨RetD.nil rfl, RetD.eq rfl ?_, trivial⟩
   all_goals (rfl)
  replace g7 := dcF g7
  have e4 : b[k].corrects = a[posR a b[k]].corrects := by omega
  refine .sG (.fieldAddr rfl fo_80_4 rfl) ?_
  refine .sG (.load rfl sc_78 rfl) ?_
  refine .sG (.fieldAddr rfl fo_80_4 rfl) ?_
  refine .sG (.load rfl sc_78 rfl) ?_
  refine .sG (.call rfl (.cons (.rfl' rfl) (.cons (.rfl' rfl) .nil)) (c_eqUsd _ _)) ?_
  refine .sG (.not rfl rfl) ?_
  refine .sA (.pickF rfl rfl rfl) (.nil ?_)
  refine .cond rfl (fun h8 => ?_) (fun h8 => ?_)
  ·replace h8 := bnot_t h8; replace h8 := dcF h8
   obtain ⟨HF, HR⟩ := join_f2 hla hlb (clash_hit hlt hp hs (fun e => h8 (by rw [e])))
   rw [HF, HR]
   refine .sr (.aA ?_)
   refine .aA (.nil ?_)
   refine .ret ?_
   refine ⟨RetD.nil rfl, RetD.eq rfl ?_, trivial⟩
   all_goals (rfl)
  replace h8 := bnot_f h8; replace h8 := dcT h8
  have HC := clash_snoc hlt hk.2 (same_one la.rise hp hs (rpt_ext hs e3.symm e4.symm (Eq.symm h8)))
  refine .skip (.region (.sA (.add64 rfl rfl rfl (by omega) (by omega)) ?_))
  refine .mA (.nil ?_)
  refine ⟨k + 1, ⟨by omega, HC⟩, (by dsimp only; omega), Sub.less ⟨(SLe.of_eq rfl), SLe.refl _, SLe.refl _, SLe.refl _, SLe.refl _, trivial⟩ (row_sameM (by first | (rw [hns]; done) | (rw [hns, ← List.append_assoc, List.map_append (l₂ := [b[k]])]; rfl)))⟩
 replace h4 := dcF h4
 rw [List.length_map] at h4
 obtain rfl : k = b.length := by omega
 have hcl := hk.2
 rw [List.take_length] at hcl ⊢
 have hnl := newK_len a b
 refine .exit (.seq (.sr (.sA (.moveO rfl rfl) ?_)))
 refine .sA (.lenOwn rfl et_22.ht rfl (.head _)) ?_
 refine .sA (.gtr rfl rfl rfl) (.nil ?_)
 refine .cond rfl (fun h9 => ?_) (fun h9 => ?_)
 ·replace h9 := dcT h9
  rw [List.length_map] at h9
  obtain ⟨HF, HR⟩ := join_f3 hla hlb hcl (by omega)
  rw [HF, HR]
  refine .sr (.aA ?_)
  refine .aA (.nil ?_)
  refine .ret ?_
  refine ⟨RetD.nil rfl, RetD.eq rfl ?_, trivial⟩
  all_goals (rfl)
 replace h9 := dcF h9
 rw [List.length_map] at h9
 obtain ⟨HF, HR⟩ := join_f4 hla hlb hcl (by omega)
 rw [HF, HR]
 refine .skip (.sr (.sA (.moveO rfl rfl) ?_))
 -- turns 61
 refine .callX rfl rfl rfl (.cons (SLe.refl _) (.cons (SLe.fn _) .nil)) ((c_sortR (a ++ newK a b) (by omega) (uni_dist la.rise lb.rise) 80) 61) ⟨(.head _), trivial⟩ rfl rfl (fun _ h => nomatch h) ?_
 refine .nil ?_
 refine .sr (.sA (.moveO rfl rfl) ?_)
 refine .sA (.assignO rfl rfl) ?_
 refine .aA (.nil ?_)
 refine .ret ?_
 refine ⟨RetD.own rfl (.head _) ?_, RetD.eq rfl ?_, trivial⟩
 all_goals (rfl)
namespace TyIS
theorem ag_135 : AggT Tryz.prog 135 2 := .of (by kernel_rfl)
theorem fo_135_1 : fieldOff Tryz.prog 135 1 = some 1 := by kernel_rfl
theorem sz_135 : ∀ w, (sizeOf 135).run Tryz.prog w = .ok 2 w := SizeT.of (by kernel_rfl)
theorem zt_135 : (Tryz.prog.info? 135).bind (·.zero) = some (.agg #[(.string ⟨#[]⟩), (.int .i64 0)]) := by kernel_rfl
end TyIS
open TyF0 TyF1 TyF2 TyF3 TyF4 TyF5 TyF6 TyF11 TyG1 TyG2 TyG5 TyU1 TyU2 TyU3 TyU4 TyM1 TyM2 TyM3 TyM7 TyM8 TyM9 TyO1 TyM10 TyO2 TyU5 TyU6 TyU7 TyU8 TyIA TyIC TyIB TyID TyO3 TyM11 TyO6 TyO7 TyG3 TyIE TyIF TyIG TyIJ TyIK TyIH TyIL TyIM TyIQ TyU9D TyIR TyM4D TyIS
open Go.Lib
theorem c_eqI (l : List Int) : ACall Tryz.prog 21 [.sl (l.map intD), .sl (l.map intD)] (.v (.bool true)) := c_eqInt (l.map intD) (fun y hy => by obtain ⟨z, _, rfl⟩ := List.mem_map.1 hy; exact ⟨z, rfl⟩)
def lgD (l : List Rpt) : List D := [.sl (l.map Rpt.ds)]
theorem ok_join {a b : List Rpt} (ha : ∀ x ∈ a, okRpt x) (hb : ∀ x ∈ b, okRpt x) : ∀ x ∈ joinR a b, okRpt x := fun x hx => by
  unfold joinR at hx
  by_cases h : joinF a b = 0
  · rw [if_pos h] at hx
    exact ((uni_mem (joins_of h).no x).1 hx).elim (ha x) (hb x)
  · rw [if_neg h] at hx; cases hx
theorem log_join {a b : List Rpt} (h : joinF a b = 0) : Log (joinR a b) := by rw [joinR_ok h]; exact (joins_of h).log
theorem ok_newB {c : Ctr} (hc : okCtr c) : okBks (newB c) := by
  unfold newB
  split
  · exact hc
  · exact ⟨fun x hx => absurd hx List.not_mem_nil, fun x hx => absurd hx List.not_mem_nil, fun x hx => absurd hx List.not_mem_nil⟩
structure PayI (c : Ctr) (n : Nat) (all : List Rpt) (b : Bks) (P : List Int) : Prop where
  log : Log all
  oks : ∀ x ∈ all, okRpt x
  ctr : b.ctr = c
  bk : bksF b = 0
  nx : b.next = (n : Int)
  okb : okBks b
  add : AddU P b
def advL (c : Ctr) (n : Int) : List Int := c.deals.map (advV n)
def advK (c : Ctr) (n : Int) (k : Nat) : List Int := (advL c (n + 1)).take k ++ (advL c n).drop k
def paidK (P Q : List Int) (k : Nat) : List Int := (addP P Q).take k ++ P.drop k
theorem advL_len (c : Ctr) (n : Int) : (advL c n).length = c.deals.length := List.length_map ..
theorem advL_get {c : Ctr} {n : Int} {k : Nat} (h : k < c.deals.length) : (advL c n)[k]'(by rw [advL_len]; exact h) = advV n c.deals[k] := List.getElem_map ..
theorem advL_at {c : Ctr} {n : Int} {k : Nat} (h : k < c.deals.length) : ((advL c n).map intD)[k]? = some (intD (advV n c.deals[k])) := by
  rw [List.getElem?_map, List.getElem?_eq_getElem (by rw [advL_len]; exact h), advL_get h]; rfl
theorem half_at {A B : List Int} {k : Nat} (h : k < A.length) (h2 : k < B.length) : (A.take k ++ B.drop k)[k]? = some B[k] := by
  have h3 : (A.take k).length = k := by rw [List.length_take]; omega
  rw [List.getElem?_append_right (by omega), h3, Nat.sub_self, List.getElem?_drop, Nat.add_zero, List.getElem?_eq_getElem h2]
theorem half_set {A B : List Int} {k : Nat} (h : k < A.length) (h2 : k < B.length) : (A.take k ++ B.drop k).set k A[k] = A.take (k + 1) ++ B.drop (k + 1) := by
  have h3 : (A.take k).length = k := by rw [List.length_take]; omega
  rw [List.set_append_right _ _ (by omega), h3, Nat.sub_self, takeS h, List.drop_eq_getElem_cons h2, List.set_cons_zero, List.append_assoc]
  rfl
theorem half_eq {A B : List Int} {k : Nat} (h : k < A.length) (h2 : k < B.length) (e : A[k] = B[k]) : A.take (k + 1) ++ B.drop (k + 1) = A.take k ++ B.drop k := by
  rw [takeS h, e, List.drop_eq_getElem_cons h2, List.append_assoc]; rfl
theorem half_end {A B : List Int} {n : Nat} (h : A.length = n) (h2 : B.length = n) : A.take n ++ B.drop n = A := by
  rw [← h, List.take_length, h, ← h2, List.drop_length, List.append_nil]
theorem half_len {A B : List Int} {k : Nat} (h : A.length = B.length) (h2 : k ≤ B.length) : (A.take k ++ B.drop k).length = B.length := by
  rw [List.length_append, List.length_take, List.length_drop]; omega
theorem nows_eq {S : List Sal} {b : Bks} (ok : BkOk b) : nowsB S b = b.ctr.deals.map (nowV S b.next) := by
  unfold nowsB
  rw [← dls_fst ok, List.map_map]
  rfl
theorem owns_rng {b : Bks} (ok : BkOk b) : ∀ p ∈ dls b, -110000000000000000 ≤ ownV b.next b.held p ∧ ownV b.next b.held p ≤ 110000000000000000 := fun p hp => by
  have h1 := dls_mem hp
  have h2 := ok.st _ h1.2
  have h3 := ok.deal _ h1.1
  have h4 := sumH_rng p.1.name (L := b.held) fun x hx => (ok.hr x hx).2.2
  have h5 := held_len ok
  have h6 : 0 ≤ advV b.next p.1 ∧ advV b.next p.1 ≤ 1000000000 := by unfold advV; split <;> omega
  unfold ownV
  omega
theorem c_sumOf (l : List Pd) (hl : l.length ≤ 20) (hr : ∀ p ∈ l, 0 ≤ p.cents ∧ p.cents ≤ 1000000001) : ACall Tryz.prog 24 [.sl (l.map Pd.ds)] (.v (.int .i64 (sumP l))) := by
 refine acall_of (n := 18) (ds' := [.v (.int .i64 (sumP l))]) Tryz.func24 rfl (by kernel_rfl) rfl [2] rfl rfl ?_
 intro B w0 F0 fr
 refine .sr ?_
 refine .aA (.nil ?_)
 refine .sr ?_
 refine .aA (.nil ?_)
 refine .seq (.sr (.mA ?_))
 refine .sA (.lenSl rfl et_57.ht rfl) ?_
 refine .mA (.nil ?_)
 refine .block (.loop (G := Nat) (fun k => Env.of [(8, .d (.v (.int .i64 (k : Int)))), (6, .d (.sl (l.map Pd.ds))), (7, .d (.v (.int .i64 ((l.map Pd.ds).length : Int)))), (3, .d (.v (.int .i64 (sumP (l.take k)))))]) (fun k => []) (fun k => k ≤ l.length) (fun k => l.length - k) 0 (Nat.zero_le _) (Sub.less ⟨(SLe.of_eq rfl), SLe.refl _, SLe.refl _, (SLe.i64 rfl), trivial⟩ (fun _ h => h)) ?_)
 intro k hk
 refine .sr ?_
 refine .sA (.lss rfl rfl rfl) (.nil ?_)
 refine .seq ?_
 refine .cond rfl (fun h1 => ?_) (fun h1 => ?_)
 ·replace h1 := dcT h1
  rw [List.length_map] at h1
  have hlt : k < l.length := by omega
  have hx := hr _ (List.getElem_mem hlt)
  have hs := sumP_rng (L := l.take k) fun p hp => hr p (List.mem_of_mem_take hp)
  rw [List.length_take] at hs
  refine .skip (.seq (.block (.sr (.sA (.indexAddr rfl et_57 rfl rfl k rfl (at_lst hlt) rfl) ?_))))
  refine .sA (.loadAgg rfl ag_135 rfl rfl) ?_
  refine .alloc 101 rfl rfl rfl rfl zt_135 rfl rfl rfl ?_
  refine .store rfl rfl rfl sz_135 rfl (.head _) rfl rfl rfl (Nat.le_of_ble_eq_true rfl) ?_
  refine .freezeCells 5 (ds := l[k].ds) rfl (.head _) (.nil ?_)
  refine .region (.mA ?_)
  refine .sA (.fieldAddr rfl fo_135_1 rfl) (.sA (.load rfl sc_3 rfl) ?_)
  refine .sA (.add64 rfl rfl rfl (by omega) (by omega)) ?_
  refine .aA (.nil ?_)
  refine .region (.sA (.add64 rfl rfl rfl (by omega) (by omega)) ?_)
  refine .mA (.nil ?_)
  refine ⟨k + 1, (by omega), (by dsimp only; omega), Sub.less ⟨(SLe.of_eq rfl), SLe.refl _, SLe.refl _, (SLe.i64 (by rw [takeS hlt, sumP_snoc])), trivial⟩ (fun _ h => h)⟩
 replace h1 := dcF h1
 rw [List.length_map] at h1
 obtain rfl : k = l.length := by omega
 rw [List.take_length]
 refine .exit (.sr (.mA ?_))
 refine .aA (.nil ?_)
 refine .ret ?_
 refine ⟨RetD.eq rfl ?_, trivial⟩
 all_goals (rfl)
theorem c_stBy (b : Bks) (l : List Rpt) (p : Int) (okb : BkOk b) (hlog : Log l) (ho : ∀ x ∈ l, okRpt x) (hB : ∀ d ∈ b.ctr.deals, basV d p (salB b l) ≤ 1000000000000) : ACall Tryz.prog 25 [.agg b.ctr.ds, .sl (l.map Rpt.ds), .v (.int .i64 p)] (.sl ((b.ctr.deals.map (nowV (salB b l) p)).map intD)) := by
 refine acall_of (n := 34) (ds' := [.sl ((b.ctr.deals.map (nowV (salB b l) p)).map intD)]) Tryz.func25 rfl (by kernel_rfl) rfl [6] rfl rfl ?_
 intro B w0 F0 fr
 have okS : SalsOk (salB b l) := sals_ok hlog ho okb.als
 have hdl := okb.dl
 refine .sr (.sA (.box rfl rfl rfl) ?_)
 refine .aA (.nil ?_)
 refine .sr (.mA ?_)
 refine .sA (.fieldAddr rfl fo_36_0 rfl) (.sA (.load rfl sc_32 rfl) (.sA (.call rfl (.cons (.rfl' rfl) (.cons (.rfl' rfl) .nil)) (c_rSales l b.ctr.als hlog ho okb.als)) ?_))
 refine .aA (.nil ?_)
 refine .sr ?_
 refine .aA (.nil ?_)
 refine .seq (.sr (.sA (.fieldAddr rfl fo_36_1 rfl) ?_))
 refine .sA (.load rfl sc_33 rfl) (.sA (.lenSl rfl et_33.ht rfl) ?_)
 refine .mA (.nil ?_)
 refine .block (.adopt 8 61 3 1 rfl rfl ?_)
 refine .loop (G := Nat) (fun k => Env.of [(18, .d (.v (.int .i64 (k : Int)))), (16, .d (.sl (b.ctr.deals.map Deal.ds))), (17, .d (.v (.int .i64 ((b.ctr.deals.map Deal.ds).length : Int)))), (2, .d (.v (.int .i64 p))), (7, .d (.sl ((salB b l).map Sal.ds))), (8, .own 61)]) (fun k => [(61, .row 3 1 (((b.ctr.deals.map (nowV (salB b l) p)).take k).map intD))]) (fun k => k ≤ b.ctr.deals.length) (fun k => b.ctr.deals.length - k) 0 (Nat.zero_le _) (Sub.less ⟨(SLe.of_eq rfl), SLe.refl _, SLe.refl _, SLe.refl _, SLe.refl _, SLe.refl _, trivial⟩ (row_sameM rfl)) ?_
 intro k hk
 refine .sr ?_
 refine .sA (.lss rfl rfl rfl) (.nil ?_)
 refine .seq ?_
 refine .cond rfl (fun h1 => ?_) (fun h1 => ?_)
 ·replace h1 := dcT h1
  rw [List.length_map] at h1
  have hlt : k < b.ctr.deals.length := by omega
  have hD := okb.deal _ (List.getElem_mem hlt)
  have hbm := hB _ (List.getElem_mem hlt)
  have hbr : 0 ≤ basV b.ctr.deals[k] p (salB b l) ∧ basV b.ctr.deals[k] p (salB b l) ≤ 30000000000000 * ((salB b l).length : Int) := basS_rng (d := b.ctr.deals[k]) (p := p) okS (salB b l).length (Nat.le_refl _)
  have hol : k < (b.ctr.deals.map (nowV (salB b l) p)).length := by rw [List.length_map]; exact hlt
  have HO : (b.ctr.deals.map (nowV (salB b l) p))[k] = ernV b.ctr.deals[k].tiers (basV b.ctr.deals[k] p (salB b l)) := List.getElem_map (h := hol) ..
  have HT := takeS hol
  refine .skip (.seq (.block (.sr (.sA (.indexAddr rfl et_33 rfl rfl k rfl (at_lst hlt) rfl) ?_))))
  refine .sA (.loadAgg rfl ag_63 rfl rfl) ?_
  refine .alloc 101 rfl rfl rfl rfl zt_63 rfl rfl rfl ?_
  refine .store rfl rfl rfl sz_63 rfl (.head _) rfl rfl rfl (Nat.le_of_ble_eq_true rfl) ?_
  refine .freezeCells 10 (ds := b.ctr.deals[k].ds) rfl (.head _) (.nil ?_)
  refine .drawTail 9 (by kernel_rfl) (by kernel_rfl) (by kernel_rfl) ?_
  refine .sA (.moveO rfl rfl) (.sA (.fieldAddr rfl fo_63_5 rfl) (.sA (.load rfl sc_61 rfl) (.sA (.moveD rfl rfl) (.sA (.loadAgg rfl ag_63 rfl rfl) (.sA (.moveD rfl rfl) ?_)))))
  refine .sA (.call rfl (.cons (.rfl' rfl) (.cons (.rfl' rfl) (.cons (.rfl' rfl) .nil))) (c_rBase (salB b l) b.ctr.deals[k] p okS hD.2.1)) (.sA (.call rfl (.cons (.rfl' rfl) (.cons (.rfl' rfl) .nil)) (c_rErn b.ctr.deals[k].tiers (basV b.ctr.deals[k] p (salB b l)) hD.1 ⟨hbr.1, hbm⟩)) ?_)
  refine .sA (.buildSlice rfl et_37 (.cons rfl rfl rfl .nil) rfl (by decide)) ?_
  refine .nil ?_
  -- append 31
  refine .append rfl rfl rfl rfl et_37 rfl (.head _) rfl (by simp [D.parts]) (by simp; omega) (by simp; omega) ?_
  refine .sA (.assignO rfl rfl) (.nil ?_)
  refine .region (.sA (.add64 rfl rfl rfl (by omega) (by omega)) ?_)
  refine .mA (.nil ?_)
  refine ⟨k + 1, (by omega), (by dsimp only; omega), Sub.less ⟨(SLe.of_eq rfl), SLe.refl _, SLe.refl _, SLe.refl _, SLe.refl _, SLe.refl _, trivial⟩ (row_sameM (by rw [HT, HO, List.map_append]; rfl))⟩
 replace h1 := dcF h1
 rw [List.length_map] at h1
 obtain rfl : k = b.ctr.deals.length := by omega
 have hol : (b.ctr.deals.map (nowV (salB b l) p)).length = b.ctr.deals.length := List.length_map ..
 rw [← hol, List.take_length]
 refine .exit (.sr (.sA (.moveO rfl rfl) ?_))
 refine .sA (.assignO rfl rfl) (.nil ?_)
 refine .ret ?_
 refine ⟨RetD.own rfl (.head _) ?_, trivial⟩
 all_goals (first | rfl)
theorem c_adds (P : List Int) (b : Bks) (okb : BkOk b) (hn : b.next ≤ 13) (hU : AddU P b) : ACall Tryz.prog 26 [.agg b.ctr.ds, .agg b.ds, .sl (P.map intD), .sl ((advL b.ctr b.next).map intD)] (.v (.bool true)) := by
 refine acall_of (n := 80) (ds' := [.v (.bool true)]) Tryz.func26 rfl (by kernel_rfl) rfl [8] rfl rfl ?_
 intro B w0 F0 fr
 have hgl := okb.gl
 have hPl := hU.len
 have hbl := okb.bl
 have hdl := okb.dl
 have hsl := okb.sl
 have hzl := dls_len okb
 have hhl := held_len okb
 have hno := okb.next
 refine .sr (.sA (.box rfl rfl rfl) ?_)
 refine .sA (.box rfl rfl rfl) ?_
 refine .aA (.nil ?_)
 refine .seq (.sr (.sA (.fieldAddr rfl fo_36_2 rfl) ?_))
 refine .sA (.load rfl sc_34 rfl) (.sA (.lenSl rfl et_34.ht rfl) ?_)
 refine .mA (.nil ?_)
 refine .block (.loop (G := Nat) (fun i => Env.of [(19, .d (.v (.int .i64 (i : Int)))), (17, .d (.sl (b.ctr.groups.map Grp.ds))), (18, .d (.v (.int .i64 ((b.ctr.groups.map Grp.ds).length : Int)))), (4, .d (.fp b.ctr.ds)), (5, .d (.fp b.ds)), (2, .d (.sl (P.map intD))), (3, .d (.sl ((advL b.ctr b.next).map intD)))]) (fun i => []) (fun i => i ≤ b.ctr.groups.length) (fun i => b.ctr.groups.length - i) 0 (Nat.zero_le _) (Sub.less ⟨(SLe.of_eq rfl), SLe.refl _, SLe.refl _, SLe.refl _, SLe.refl _, SLe.refl _, SLe.refl _, trivial⟩ (fun _ h => h)) ?_)
 intro i hk
 refine .sr ?_
 refine .sA (.lss rfl rfl rfl) (.nil ?_)
 refine .seq ?_
 refine .cond rfl (fun h1 => ?_) (fun h1 => ?_)
 ·replace h1 := dcT h1
  rw [List.length_map] at h1
  have hlt : i < b.ctr.groups.length := by omega
  have hiP : i < P.length := by omega
  have hib : i < b.bal.length := by omega
  have hPr := hU.rng _ (List.getElem_mem hiP)
  have hbr := okb.ba _ (List.getElem_mem hib)
  have hSu := hU.sum i hlt
  rw [atP_get hiP, atP_get hib, show gAt b i = b.ctr.groups[i].name from by unfold gAt; rw [List.getD_eq_getElem?_getD, List.getElem?_eq_getElem hlt]; rfl] at hSu
  unfold sumBk at hSu
  refine .skip (.seq (.block (.sr (.mA ?_))))
  refine .sA (.indexAddr rfl et_34 rfl rfl i rfl (at_lst hlt) rfl) (.sA (.loadAgg rfl ag_128 rfl rfl) ?_)
  refine .alloc 101 rfl rfl rfl rfl zt_128 rfl rfl rfl ?_
  refine .aA ?_
  refine .store rfl rfl rfl sz_128 rfl (.head _) rfl rfl rfl (Nat.le_of_ble_eq_true rfl) ?_
  refine .freezeCells 10 (ds := b.ctr.groups[i].ds) rfl (.head _) (.nil ?_)
  refine .seq (.draw (by kernel_rfl) (by kernel_rfl) ?_)
  refine .sA (.moveD rfl rfl) (.sA (.moveD rfl rfl) (.sA (.indexAddr rfl et_37 rfl rfl i rfl (at_lst hiP) rfl) (.sA (.load rfl sc_3 rfl) (.sA (.fieldAddr rfl fo_40_4 rfl) (.sA (.load rfl sc_37 rfl) ?_)))))
  refine .sA (.moveD rfl rfl) (.sA (.indexAddr rfl et_37 rfl rfl i rfl (at_lst hib) rfl) (.sA (.load rfl sc_3 rfl) ?_))
  refine .sA (.add64 rfl rfl rfl (by omega) (by omega)) ?_
  refine .sA (.assignD rfl rfl) ?_
  refine .nil ?_
  refine .seq (.sr (.sA (.fieldAddr rfl fo_36_1 rfl) ?_))
  refine .sA (.load rfl sc_33 rfl) (.sA (.lenSl rfl et_33.ht rfl) ?_)
  refine .mA (.nil ?_)
  refine .block (.loop (G := Nat) (fun k => Env.of [(37, .d (.v (.int .i64 (k : Int)))), (11, .d (.v (.int .i64 ((P[i] + b.bal[i]) + sumD b.ctr.groups[i].name (ownV b.next b.held) ((dls b).take k))))), (35, .d (.sl (b.ctr.deals.map Deal.ds))), (36, .d (.v (.int .i64 ((b.ctr.deals.map Deal.ds).length : Int)))), (10, .d (.fp b.ctr.groups[i].ds)), (19, .d (.v (.int .i64 (i : Int)))), (17, .d (.sl (b.ctr.groups.map Grp.ds))), (18, .d (.v (.int .i64 ((b.ctr.groups.map Grp.ds).length : Int)))), (4, .d (.fp b.ctr.ds)), (5, .d (.fp b.ds)), (2, .d (.sl (P.map intD))), (3, .d (.sl ((advL b.ctr b.next).map intD)))]) (fun k => []) (fun k => k ≤ b.ctr.deals.length) (fun k => b.ctr.deals.length - k) 0 (Nat.zero_le _) (Sub.less ⟨(SLe.of_eq rfl), (SLe.i64 (by show _ = _ + (0 : Int); omega)), SLe.refl _, SLe.refl _, SLe.refl _, SLe.refl _, SLe.refl _, SLe.refl _, SLe.refl _, SLe.refl _, SLe.refl _, SLe.refl _, trivial⟩ (fun _ h => h)) ?_)
  intro k hk
  refine .sr ?_
  refine .sA (.lss rfl rfl rfl) (.nil ?_)
  refine .seq ?_
  refine .cond rfl (fun h2 => ?_) (fun h2 => ?_)
  ·replace h2 := dcT h2
   rw [List.length_map] at h2
   have hkl : k < b.ctr.deals.length := by omega
   have hks : k < b.stated.length := by omega
   have hkz : k < (dls b).length := by omega
   have hde : (dls b)[k] = (b.ctr.deals[k], b.stated[k]) := dls_at hkz
   have hsr := okb.st _ (List.getElem_mem hks)
   have hD := okb.deal _ (List.getElem_mem hkl)
   have hA : 0 ≤ advV b.next b.ctr.deals[k] ∧ advV b.next b.ctr.deals[k] ≤ 1000000000 := by unfold advV; split <;> omega
   have hDr := sumD_rng b.ctr.groups[i].name (f := ownV b.next b.held) (B := 110000000000000000) (l := (dls b).take k) (by decide) fun p hp => owns_rng okb p (List.mem_of_mem_take hp)
   rw [List.length_take] at hDr
   have HS := sumD_snoc b.ctr.groups[i].name (ownV b.next b.held) (dls b)[k] ((dls b).take k)
   rw [← takeS hkz, hde] at HS
   dsimp only at HS
   refine .skip (.seq (.block (.sr (.mA ?_))))
   refine .sA (.indexAddr rfl et_33 rfl rfl k rfl (at_lst hkl) rfl) (.sA (.loadAgg rfl ag_63 rfl rfl) ?_)
   refine .alloc 102 rfl rfl rfl rfl zt_63 rfl rfl rfl ?_
   refine .aA ?_
   refine .store rfl rfl rfl sz_63 rfl (.head _) rfl rfl rfl (Nat.le_of_ble_eq_true rfl) ?_
   refine .freezeCells 13 (ds := b.ctr.deals[k].ds) rfl (.head _) (.nil ?_)
   refine .seq (.sr (.sA (.fieldAddr rfl fo_63_1 rfl) ?_))
   refine .sA (.load rfl sc_9 rfl) (.sA (.fieldAddr rfl fo_128_0 rfl) (.sA (.load rfl sc_9 rfl) ?_))
   refine .sA (.sneq rfl rfl rfl) (.nil ?_)
   refine .cond rfl (fun h3 => ?_) (fun h3 => ?_)
   ·replace h3 := dcT h3
    rw [if_neg h3] at HS
    refine .exit (.region (.sA (.add64 rfl rfl rfl (by omega) (by omega)) ?_))
    refine .mA (.nil ?_)
    refine ⟨k + 1, (by omega), (by dsimp only; omega), Sub.less ⟨(SLe.of_eq rfl), (SLe.i64 (by rw [HS]; omega)), SLe.refl _, SLe.refl _, SLe.refl _, SLe.refl _, SLe.refl _, SLe.refl _, SLe.refl _, SLe.refl _, SLe.refl _, SLe.refl _, trivial⟩ (fun _ h => h)⟩
   replace h3 := dcF h3
   have hgn := Decidable.not_not.1 h3
   rw [if_pos hgn] at HS
   refine .skip (.seq (.draw (by kernel_rfl) (by kernel_rfl) ?_))
   refine .sA (.moveD rfl rfl) (.sA (.moveD rfl rfl) (.sA (.moveD rfl rfl) (.sA (.indexAddr rfl et_37 rfl rfl k rfl (advL_at hkl) rfl) (.sA (.load rfl sc_3 rfl) (.sA (.fieldAddr rfl fo_40_2 rfl) ?_)))))
   refine .sA (.load rfl sc_37 rfl) (.sA (.moveD rfl rfl) (.sA (.indexAddr rfl et_37 rfl rfl k rfl (at_lst hks) rfl) (.sA (.load rfl sc_3 rfl) ?_)))
   refine .sA (.sub64 rfl rfl rfl (by omega) (by omega)) ?_
   refine .sA (.add64 rfl rfl rfl (by omega) (by omega)) ?_
   refine .sA (.assignD rfl rfl) ?_
   refine .nil ?_
   refine .sr (.sA (.fieldAddr rfl fo_40_3 rfl) ?_)
   refine .sA (.load rfl sc_38 rfl) (.sA (.lenSl rfl et_38.ht rfl) ?_)
   refine .mA (.nil ?_)
   refine .block (.loop (G := Nat) (fun j => Env.of [(62, .d (.v (.int .i64 (j : Int)))), (11, .d (.v (.int .i64 (((P[i] + b.bal[i]) + sumD b.ctr.groups[i].name (ownV b.next b.held) ((dls b).take k)) + (advV b.next b.ctr.deals[k] - b.stated[k]) + sumH b.ctr.deals[k].name (b.held.take j))))), (60, .d (.sl (b.held.map Hld.ds))), (61, .d (.v (.int .i64 ((b.held.map Hld.ds).length : Int)))), (13, .d (.fp b.ctr.deals[k].ds)), (37, .d (.v (.int .i64 (k : Int)))), (35, .d (.sl (b.ctr.deals.map Deal.ds))), (36, .d (.v (.int .i64 ((b.ctr.deals.map Deal.ds).length : Int)))), (10, .d (.fp b.ctr.groups[i].ds)), (19, .d (.v (.int .i64 (i : Int)))), (17, .d (.sl (b.ctr.groups.map Grp.ds))), (18, .d (.v (.int .i64 ((b.ctr.groups.map Grp.ds).length : Int)))), (4, .d (.fp b.ctr.ds)), (5, .d (.fp b.ds)), (2, .d (.sl (P.map intD))), (3, .d (.sl ((advL b.ctr b.next).map intD)))]) (fun j => []) (fun j => j ≤ b.held.length) (fun j => b.held.length - j) 0 (Nat.zero_le _) (Sub.less ⟨(SLe.of_eq rfl), (SLe.i64 (by show _ = _ + (0 : Int); omega)), SLe.refl _, SLe.refl _, SLe.refl _, SLe.refl _, SLe.refl _, SLe.refl _, SLe.refl _, SLe.refl _, SLe.refl _, SLe.refl _, SLe.refl _, SLe.refl _, SLe.refl _, SLe.refl _, trivial⟩ (fun _ h => h)) ?_)
   intro j hk
   refine .sr ?_
   refine .sA (.lss rfl rfl rfl) (.nil ?_)
   refine .seq ?_
   refine .cond rfl (fun h4 => ?_) (fun h4 => ?_)
   ·replace h4 := dcT h4
    rw [List.length_map] at h4
    have hjl : j < b.held.length := by omega
    have hHr := sumH_rng b.ctr.deals[k].name (L := b.held.take j) fun x hx => (okb.hr x (List.mem_of_mem_take hx)).2.2
    rw [List.length_take] at hHr
    have hxr := (okb.hr _ (List.getElem_mem hjl)).2.2
    have HH := sumH_snoc b.ctr.deals[k].name b.held[j] (b.held.take j)
    rw [← takeS hjl] at HH
    refine .skip (.seq (.block (.sr (.sA (.indexAddr rfl et_38 rfl rfl j rfl (at_lst hjl) rfl) ?_))))
    refine .sA (.loadAgg rfl ag_105 rfl rfl) ?_
    refine .alloc 103 rfl rfl rfl rfl zt_105 rfl rfl rfl ?_
    refine .store rfl rfl rfl sz_105 rfl (.head _) rfl rfl rfl (Nat.le_of_ble_eq_true rfl) ?_
    refine .freezeCells 15 (ds := b.held[j].ds) rfl (.head _) (.nil ?_)
    refine .sr (.sA (.fieldAddr rfl fo_105_0 rfl) ?_)
    refine .sA (.load rfl sc_9 rfl) (.sA (.fieldAddr rfl fo_63_0 rfl) (.sA (.load rfl sc_9 rfl) ?_))
    refine .sA (.seql rfl rfl rfl) (.nil ?_)
    refine .cond rfl (fun h5 => ?_) (fun h5 => ?_)
    ·replace h5 := dcT h5
     rw [if_pos h5] at HH
     refine .region (.mA ?_)
     refine .sA (.fieldAddr rfl fo_105_2 rfl) (.sA (.load rfl sc_3 rfl) ?_)
     refine .sA (.add64 rfl rfl rfl (by omega) (by omega)) ?_
     refine .aA (.nil ?_)
     refine .region (.sA (.add64 rfl rfl rfl (by omega) (by omega)) ?_)
     refine .mA (.nil ?_)
     refine ⟨j + 1, (by omega), (by dsimp only; omega), Sub.less ⟨(SLe.of_eq rfl), (SLe.i64 (by rw [HH]; omega)), SLe.refl _, SLe.refl _, SLe.refl _, SLe.refl _, SLe.refl _, SLe.refl _, SLe.refl _, SLe.refl _, SLe.refl _, SLe.refl _, SLe.refl _, SLe.refl _, SLe.refl _, SLe.refl _, trivial⟩ (fun _ h => h)⟩
    replace h5 := dcF h5
    rw [if_neg h5] at HH
    refine .skip (.region (.sA (.add64 rfl rfl rfl (by omega) (by omega)) ?_))
    refine .mA (.nil ?_)
    refine ⟨j + 1, (by omega), (by dsimp only; omega), Sub.less ⟨(SLe.of_eq rfl), (SLe.i64 (by rw [HH]; omega)), SLe.refl _, SLe.refl _, SLe.refl _, SLe.refl _, SLe.refl _, SLe.refl _, SLe.refl _, SLe.refl _, SLe.refl _, SLe.refl _, SLe.refl _, SLe.refl _, SLe.refl _, SLe.refl _, trivial⟩ (fun _ h => h)⟩
   replace h4 := dcF h4
   rw [List.length_map] at h4
   obtain rfl : j = b.held.length := by omega
   rw [List.take_length]
   refine .exit (.region (.sA (.add64 rfl rfl rfl (by omega) (by omega)) ?_))
   refine .mA (.nil ?_)
   refine ⟨k + 1, (by omega), (by dsimp only; omega), Sub.less ⟨(SLe.of_eq rfl), (SLe.i64 (by rw [HS]; unfold ownV; dsimp only; omega)), SLe.refl _, SLe.refl _, SLe.refl _, SLe.refl _, SLe.refl _, SLe.refl _, SLe.refl _, SLe.refl _, SLe.refl _, SLe.refl _, trivial⟩ (fun _ h => h)⟩
  replace h2 := dcF h2
  rw [List.length_map] at h2
  obtain rfl : k = b.ctr.deals.length := by omega
  rw [← hzl, List.take_length]
  refine .exit (.sr (.mA ?_))
  refine .sA (.neq rfl rfl rfl) (.nil ?_)
  refine .cond rfl (fun h6 => ?_) (fun h6 => ?_)
  ·replace h6 := dcT h6
   exact absurd hSu h6
  replace h6 := dcF h6
  refine .skip (.region (.sA (.add64 rfl rfl rfl (by omega) (by omega)) ?_))
  refine .mA (.nil ?_)
  refine ⟨i + 1, (by omega), (by dsimp only; omega), Sub.less ⟨(SLe.of_eq rfl), SLe.refl _, SLe.refl _, SLe.refl _, SLe.refl _, SLe.refl _, SLe.refl _, trivial⟩ (fun _ h => h)⟩
 replace h1 := dcF h1
 refine .exit (.sr ?_)
 refine .aA (.nil ?_)
 refine .ret ?_
 refine ⟨RetD.eq rfl ?_, trivial⟩
 all_goals (first | rfl)
def bkC (b : Bks) : Nat × Ob := (901, .cells [.d (.sl (b.ctr.als.map Ali.ds)), .d (.sl (b.ctr.deals.map Deal.ds)), .d (.sl (b.ctr.groups.map Grp.ds)), .d (.v (.int .i64 b.next)), .d (.sl (b.stated.map intD)), .d (.sl (b.held.map Hld.ds)), .d (.sl (b.bal.map intD))])
theorem in3P {σ : Obs} {p q r : Nat × Ob} (h1 : p ∈ σ) (h2 : q ∈ σ) (h3 : r ∈ σ) : ∀ x ∈ [p, q, r], x ∈ σ := fun x hx => by
  simp only [List.mem_cons, List.not_mem_nil, or_false] at hx
  rcases hx with rfl | rfl | rfl
  · exact h1
  · exact h2
  · exact h3
theorem row_eqP {e s : Nat} {A B : List (List D)} (h : A = B) : Ob.row e s A = Ob.row e s B := congrArg (Ob.row e s) h
theorem adv_rep (c : Ctr) : List.replicate c.deals.length [D.v (.int .i64 0)] = (advL c 0).map intD := by
  unfold advL
  rw [List.map_map]
  refine (List.eq_replicate_iff.2 ⟨List.length_map .., fun x hx => ?_⟩).symm
  obtain ⟨d, _, rfl⟩ := List.mem_map.1 hx
  show intD (advV 0 d) = _
  rw [adv_0]; rfl
theorem pay_0 {c : Ctr} (hc : okCtr c) (h : ctrF c = 0) : PayI c 0 [] (newB c) (List.replicate c.groups.length 0) :=
  ⟨⟨by simp, fun x hx => absurd hx List.not_mem_nil, .nil⟩, fun x hx => absurd hx List.not_mem_nil, by rw [newB_ok h], new_bks h, by rw [newB_ok h]; rfl, ok_newB hc, new_add h⟩
theorem pay_next {c : Ctr} {n : Nat} {all A2 : List Rpt} {b : Bks} {P : List Int} (hp : PayI c n all b P) (hlj : Log A2) (hoj : ∀ x ∈ A2, okRpt x) (HF : issF b A2 = 0) : PayI c (n + 1) A2 (issB b A2) (addP P (pdB (salB b A2) b)) := by
  refine ⟨hlj, hoj, by rw [issB_ok HF]; exact hp.ctr, iss_bks hoj HF, by rw [issB_ok HF]; show b.next + 1 = _; rw [hp.nx]; omega, iss_okB hp.okb, ?_⟩
  have := addU_next (bkOk hp.bk) (isOk HF) hp.add
  rw [issB_ok HF]
  exact this
theorem st_new {b : Bks} {A2 : List Rpt} (HF : issF b A2 = 0) (ok : BkOk b) : (issB b A2).ctr.deals.map (nowV (salB (issB b A2) A2) ((issB b A2).next - 1)) = (issB b A2).stated := by
  have e1 : salB (issB b A2) A2 = salB b A2 := by unfold salB; rw [issB_ok HF]
  have e2 : (issB b A2).next - 1 = b.next := by rw [issB_ok HF]; show b.next + 1 - 1 = _; omega
  have e3 : (issB b A2).ctr = b.ctr := by rw [issB_ok HF]
  have e4 : (issB b A2).stated = nowsB (salB b A2) b := by rw [issB_ok HF]
  rw [e1, e2, e3, e4, nows_eq ok]
theorem bas_new {b : Bks} {A2 : List Rpt} (HF : issF b A2 = 0) (ok : BkOk b) : ∀ d ∈ (issB b A2).ctr.deals, basV d ((issB b A2).next - 1) (salB (issB b A2) A2) ≤ 1000000000000 := fun d hd => by
  have e1 : salB (issB b A2) A2 = salB b A2 := by unfold salB; rw [issB_ok HF]
  have e2 : (issB b A2).next - 1 = b.next := by rw [issB_ok HF]; show b.next + 1 - 1 = _; omega
  have e3 : (issB b A2).ctr = b.ctr := by rw [issB_ok HF]
  rw [e3] at hd
  rw [e1, e2]
  obtain ⟨k, hk, rfl⟩ := List.mem_iff_getElem.1 hd
  have hk2 : k < (dls b).length := by rw [dls_len ok]; exact hk
  have := (dl_parts ok hk2 ((isOk HF).dl k hk)).1
  rw [dls_at hk2] at this
  exact this
theorem stm_at {S : List Sal} {b : Bks} (ok : BkOk b) {k : Nat} (h : k < (stmsB S b).length) (hg : gpK S b k = 0) : (sumP (stmsB S b)[k].parts = (stmsB S b)[k].paid ∧ (stmsB S b)[k].parts.length ≤ 20 ∧ ∀ p ∈ (stmsB S b)[k].parts, 0 ≤ p.cents ∧ p.cents ≤ 1000000001) ∧ (0 ≤ (stmsB S b)[k].paid ∧ (stmsB S b)[k].paid ≤ 1000000000) ∧ ∃ h2 : k < (pdB S b).length, (pdB S b)[k] = (stmsB S b)[k].paid := by
  have hk2 : k < (gps b).length := by unfold stmsB at h; rw [List.length_map] at h; exact h
  have e : (stmsB S b)[k] = stG b.next (gps b)[k].1 (gps b)[k].2 (rsG S b (gps b)[k]) := List.getElem_map ..
  have hl : k < (pdB S b).length := by unfold pdB; rw [List.length_map]; exact hk2
  have e2 : (pdB S b)[k] = pdG (gps b)[k].1 (numB S b (gps b)[k]) := List.getElem_map ..
  unfold gpK at hg
  rw [dif_pos hk2] at hg
  refine ⟨?_, ?_, hl, ?_⟩
  · rw [e]; exact st_pts hg (ok.cut _ (gps_mem (List.getElem_mem hk2)).1)
  · rw [e]; exact pd_rng hg
  · rw [e, e2]; rfl
theorem lawPays (c : Ctr) (logs : List (List Rpt)) (hc : okCtr c) (hl : ∀ l ∈ logs, ∀ x ∈ l, okRpt x) : ACallT Tryz.prog MaxT 7 [.agg c.ds, .sl (logs.map lgD)] (.v (.bool true)) := by
 refine acall_ofT (n := 139) (ds' := [.v (.bool true)]) Tryz.func7 rfl (by kernel_rfl) rfl [4] rfl rfl ?_
 intro B w0 F0 hT
 have hX12 : (logs.take 12).length ≤ 12 := by rw [List.length_take]; omega
 refine .sr (.sA (.box rfl rfl rfl) ?_)
 refine .aA (.nil ?_)
 refine .seqJ (True) (Env.of [(1, .d (.sl ((logs.take 12).map lgD))), (2, .d (.fp c.ds))]) [] ?_ (fun _ => ?_)
 ·skip
  refine .sr (.mA ?_)
  refine .sA (.lenSl rfl et_51.ht rfl) ?_
  refine .sA (.gtr rfl rfl rfl) (.nil ?_)
  refine .cond rfl (fun h1 => ?_) (fun h1 => ?_)
  ·replace h1 := dcT h1
   rw [List.length_map] at h1
   refine .region (.mA ?_)
   refine .sA (.sliceH rfl et_51 rfl rfl (by omega) (by rw [List.length_map]; omega) (fun y hy => by obtain ⟨l, _, rfl⟩ := List.mem_map.1 hy; rfl)) ?_
   refine .aA (.nil ?_)
   refine ⟨?_, Sub.less ⟨(SLe.of_eq (by first | (rw [hX]; rfl) | (rw [List.map_take]; rfl))), SLe.refl _, trivial⟩ (fun _ h => h)⟩
   trivial
  replace h1 := dcF h1
  rw [List.length_map] at h1
  have hX : (logs.take 12) = logs := List.take_of_length_le (by omega)
  refine .skip ?_
  refine ⟨?_, Sub.less ⟨(SLe.of_eq (by first | (rw [hX]; rfl) | (rw [List.map_take]; rfl))), SLe.refl _, trivial⟩ (fun _ h => h)⟩
  trivial
 refine .sr (.sA (.loadAgg rfl ag_36 rfl rfl) ?_)
 -- wants the world
 refine .callT rfl rfl rfl hT maxT_stays rfl (.cons (.rfl' rfl) .nil) (c_pNew c hc) ?_
 refine .mA ?_
 refine .sA (.extract rfl rfl rfl) (.sA (.extract rfl rfl rfl) ?_)
 refine .alloc 901 rfl rfl rfl rfl zt_40 rfl rfl rfl ?_
 refine .store rfl rfl rfl sz_40 rfl (.head _) rfl rfl rfl (Nat.le_of_ble_eq_true rfl) ?_
 refine .aA (.nil ?_)
 refine .seq (.sr (.mA ?_))
 refine .sA (.neq rfl rfl rfl) (.nil ?_)
 refine .cond rfl (fun h2 => ?_) (fun h2 => ?_)
 ·replace h2 := dcT h2
  have HB : newB c = zBks := newB_bad h2
  refine .sr (.sA (.fieldAddrP rfl fo_40_2 rfl) ?_)
  refine .sA (.loadP rfl sc_37 rfl (.head _) rfl) (.sA (.lenSl rfl et_37.ht rfl) (.sA (.eql rfl rfl rfl) ?_))
  refine .mA ?_
  refine .split 36 rfl (fun g3 => ?_) (fun g3 => ?_)
  ·replace g3 := dcT g3
   refine .sG (.call rfl .nil c_awake) ?_
   refine .sA (.pickT rfl rfl rfl) ?_
   refine .aA (.nil ?_)
   refine .ret ?_
   refine ⟨RetD.eq rfl ?_, trivial⟩
   all_goals (first | rfl)
  replace g3 := dcF g3
  exact absurd (by rw [HB]; rfl) g3
 replace h2 := dcF h2
 have hc0 : ctrF c = 0 := Decidable.not_not.1 h2
 have okc := ctr_ok hc0
 have okd := okc.deals
 have okg := okc.groups
 have HP0 := pay_0 hc hc0
 refine .skip (.sr ?_)
 refine .aA (.nil ?_)
 refine .sr (.sA (.fieldAddr rfl fo_36_2 rfl) ?_)
 refine .sA (.load rfl sc_34 rfl) (.sA (.lenSl rfl et_34.ht rfl) ?_)
 refine .makeI 902 c.groups.length rfl rfl rfl rfl et_37 rfl rfl (by rw [List.length_map]) (by omega) (by omega) rfl rfl ?_
 refine .sA (.assignO rfl rfl) (.nil ?_)
 refine .sr (.sA (.fieldAddr rfl fo_36_1 rfl) ?_)
 refine .sA (.load rfl sc_33 rfl) (.sA (.lenSl rfl et_33.ht rfl) ?_)
 refine .makeI 903 c.deals.length rfl rfl rfl rfl et_37 rfl rfl (by rw [List.length_map]) (by omega) (by omega) rfl rfl ?_
 refine .sA (.assignO rfl rfl) (.nil ?_)
 refine .seq (.sr (.mA ?_))
 refine .sA (.lenSl rfl et_51.ht rfl) ?_
 refine .mA (.nil ?_)
 refine .block (.loop (G := Nat × List Rpt × Bks × List Int) (fun g => Env.of [(49, .d (.v (.int .i64 (g.1 : Int)))), (7, .d (.sl (g.2.1.map Rpt.ds))), (47, .d (.sl ((logs.take 12).map lgD))), (48, .d (.v (.int .i64 (((logs.take 12).map lgD).length : Int)))), (2, .d (.fp c.ds)), (5, .ptr 901 0), (8, .own 902), (9, .own 903)]) (fun g => [bkC g.2.2.1, (902, .row 3 1 ((g.2.2.2).map intD)), (903, .row 3 1 ((advL c (g.1 : Int)).map intD))]) (fun g => g.1 ≤ (logs.take 12).length ∧ PayI c g.1 g.2.1 g.2.2.1 g.2.2.2) (fun g => (logs.take 12).length - g.1) (0, [], newB c, List.replicate c.groups.length 0) ⟨Nat.zero_le _, HP0⟩ (Sub.less ⟨(SLe.of_eq rfl), (SLe.d Le.nil), SLe.refl _, SLe.refl _, SLe.refl _, SLe.refl _, SLe.refl _, SLe.refl _, trivial⟩ (in3P (.tail _ (.tail _ (.head _))) (mem_ob_eq (.tail _ (.head _)) (row_eqP (rep_zero _))) (mem_ob_eq (.head _) (row_eqP (adv_rep c))))) ?_)
 rintro ⟨n, all, b, P⟩ ⟨hn, hp⟩
 dsimp only at hn hp ⊢
 refine .sr ?_
 refine .sA (.lss rfl rfl rfl) (.nil ?_)
 refine .seq ?_
 refine .cond rfl (fun h4 => ?_) (fun h4 => ?_)
 ·replace h4 := dcT h4
  rw [List.length_map] at h4
  have hlt : n < (logs.take 12).length := by omega
  have hoX : ∀ x ∈ (logs.take 12)[n], okRpt x := hl _ (List.mem_of_mem_take (List.getElem_mem hlt))
  refine .skip (.seq (.block (.sr (.sA (.indexAddr rfl et_51 rfl rfl n rfl (at_lst hlt) rfl) ?_))))
  refine .sA (.load rfl sc_22 rfl) ?_
  refine .aA (.nil ?_)
  refine .sr (.mA ?_)
  refine .mA ?_
  -- wants the world
  refine .callT rfl rfl rfl hT maxT_stays rfl (.cons (.rfl' rfl) (.cons (.rfl' rfl) .nil)) (c_pJoin all (logs.take 12)[n] hp.oks hoX) ?_
  refine .mA ?_
  refine .sA (.extract rfl rfl rfl) (.sA (.extract rfl rfl rfl) ?_)
  refine .aA ?_
  refine .aA (.nil ?_)
  refine .seq (.sr (.mA ?_))
  refine .sA (.neq rfl rfl rfl) (.nil ?_)
  refine .cond rfl (fun h5 => ?_) (fun h5 => ?_)
  ·replace h5 := dcT h5
   refine .sr (.sA (.call rfl .nil c_awake) ?_)
   refine .aA (.nil ?_)
   refine .ret ?_
   refine ⟨RetD.eq rfl ?_, trivial⟩
   all_goals (first | rfl)
  replace h5 := dcF h5
  have hj : joinF all (logs.take 12)[n] = 0 := Decidable.not_not.1 h5
  have hlj := log_join hj
  have hoj := ok_join hp.oks hoX
  generalize joinR all (logs.take 12)[n] = A2 at *
  refine .skip (.sr (.mA ?_))
  refine .aA (.nil ?_)
  refine .sr (.sA (.loadPU rfl ag_40 rfl (.head _) rfl rfl) ?_)
  refine .mA ?_
  -- wants the world
  refine .callT rfl rfl rfl hT maxT_stays rfl (.cons (.rfl' rfl) (.cons (.rfl' rfl) .nil)) (c_pIss b A2 hp.okb hoj) ?_
  refine .mA ?_
  refine .sA (.extract rfl rfl rfl) (.sA (.extract rfl rfl rfl) (.sA (.extract rfl rfl rfl) ?_))
  refine .alloc 104 rfl rfl rfl rfl zt_40 rfl rfl rfl ?_
  refine .store rfl rfl rfl sz_40 rfl (.head _) rfl rfl rfl (Nat.le_of_ble_eq_true rfl) ?_
  refine .freezeCells 14 (ds := (issB b A2).ds) rfl (.head _) ?_
  refine .aA ?_
  refine .aA (.nil ?_)
  refine .seq (.sr (.mA ?_))
  refine .sA (.neq rfl rfl rfl) (.nil ?_)
  refine .cond rfl (fun h6 => ?_) (fun h6 => ?_)
  ·replace h6 := dcT h6
   have HF2 := iss_two hp.bk (of_log hlj) (by have := hp.nx; omega) h6
   refine .sr (.mA ?_)
   refine .sA (.eql rfl rfl rfl) ?_
   refine .mA ?_
   refine .split 74 rfl (fun g7 => ?_) (fun g7 => ?_)
   ·replace g7 := dcT g7
    refine .sG (.call rfl .nil c_awake) ?_
    refine .sA (.pickT rfl rfl rfl) ?_
    refine .aA (.nil ?_)
    refine .ret ?_
    refine ⟨RetD.eq rfl ?_, trivial⟩
    all_goals (first | rfl)
   replace g7 := dcF g7
   exact absurd HF2 g7
  replace h6 := dcF h6
  have HF : issF b A2 = 0 := Decidable.not_not.1 h6
  have hi := isOk HF
  have okb := bkOk hp.bk
  have hgl := gps_len okb
  have hgl2 := okb.gl
  have hctr := hp.ctr
  have hnx := hp.nx
  have hU := hp.add
  have hUl := hU.len
  have hPN := pay_next hp hlj hoj HF
  have okb2 := bkOk hPN.bk
  have hctr2 := hPN.ctr
  have hnx2 := hPN.nx
  have HSB := c_stBy (issB b A2) A2 ((issB b A2).next - 1) okb2 hlj hoj (bas_new HF okb)
  rw [st_new HF okb, hctr2] at HSB
  have HAD := c_adds (addP P (pdB (salB b A2) b)) (issB b A2) okb2 (by rw [hnx2]; omega) hPN.add
  rw [hctr2, hnx2] at HAD
  have hql := pdB_len (S := (salB b A2)) okb
  have hPQ : P.length = (pdB (salB b A2) b).length := by omega
  have hal := addP_len hPQ
  have hsl : (stmsB (salB b A2) b).length = b.ctr.groups.length := by unfold stmsB; rw [List.length_map]; exact hgl
  have hdc : b.ctr.deals.length = c.deals.length := by rw [hctr]
  rw [issS_ok HF]
  refine .skip (.seq (.sr (.mA ?_)))
  refine .sA (.lenSl rfl et_41.ht rfl) ?_
  refine .mA (.nil ?_)
  refine .block (.loop (G := Nat) (fun k => Env.of [(79, .d (.v (.int .i64 (k : Int)))), (77, .d (.sl ((stmsB (salB b A2) b).map Stm.ds))), (78, .d (.v (.int .i64 (((stmsB (salB b A2) b).map Stm.ds).length : Int)))), (47, .d (.sl ((logs.take 12).map lgD))), (48, .d (.v (.int .i64 (((logs.take 12).map lgD).length : Int)))), (2, .d (.fp c.ds)), (5, .ptr 901 0), (8, .own 902), (9, .own 903), (49, .d (.v (.int .i64 (n : Int)))), (7, .d (.sl (A2.map Rpt.ds))), (14, .d (.fp (issB b A2).ds))]) (fun k => [bkC b, (902, .row 3 1 ((paidK P (pdB (salB b A2) b) k).map intD)), (903, .row 3 1 ((advL c (n : Int)).map intD))]) (fun k => k ≤ (stmsB (salB b A2) b).length) (fun k => (stmsB (salB b A2) b).length - k) 0 (Nat.zero_le _) (Sub.less ⟨(SLe.of_eq rfl), SLe.refl _, SLe.refl _, SLe.refl _, SLe.refl _, SLe.refl _, SLe.refl _, SLe.refl _, SLe.refl _, SLe.refl _, SLe.refl _, SLe.refl _, trivial⟩ (in3P (.head _) (.tail _ (.head _)) (.tail _ (.tail _ (.head _))))) ?_)
  intro k hk
  refine .sr ?_
  refine .sA (.lss rfl rfl rfl) (.nil ?_)
  refine .seq ?_
  refine .cond rfl (fun h8 => ?_) (fun h8 => ?_)
  ·replace h8 := dcT h8
   rw [List.length_map] at h8
   have hlt : k < (stmsB (salB b A2) b).length := by omega
   obtain ⟨HP3, hpr, hq, HPd⟩ := stm_at okb hlt (hi.gp k (by omega))
   have hkP : k < P.length := by omega
   have hka : k < (addP P (pdB (salB b A2) b)).length := by omega
   have hPr := hU.rng _ (List.getElem_mem hkP)
   have HA : (addP P (pdB (salB b A2) b))[k] = P[k] + (stmsB (salB b A2) b)[k].paid := by rw [← HPd]; exact List.getElem_zipWith ..
   have hkl : (paidK P (pdB (salB b A2) b) k).length = P.length := half_len hal (by omega)
   have hat : ((paidK P (pdB (salB b A2) b) k).map intD)[k]? = some (intD P[k]) := by rw [List.getElem?_map, show (paidK P (pdB (salB b A2) b) k)[k]? = some P[k] from half_at hka hkP]; rfl
   have HSET : ((paidK P (pdB (salB b A2) b) k).map intD).set k (intD (P[k] + (stmsB (salB b A2) b)[k].paid)) = (paidK P (pdB (salB b A2) b) (k + 1)).map intD := by rw [← HA, ← List.map_set]; exact congrArg (List.map intD) (half_set hka hkP)
   refine .skip (.seq (.block (.sr (.mA ?_))))
   refine .sA (.indexAddr rfl et_41 rfl rfl k rfl (at_lst hlt) rfl) (.sA (.loadAgg rfl ag_59 rfl rfl) ?_)
   refine .alloc 105 rfl rfl rfl rfl zt_59 rfl rfl rfl ?_
   refine .aA ?_
   refine .store rfl rfl rfl sz_59 rfl (.head _) rfl rfl rfl (Nat.le_of_ble_eq_true rfl) ?_
   refine .freezeCells 17 (ds := (stmsB (salB b A2) b)[k].ds) rfl (.head _) (.nil ?_)
   refine .seq (.drawG (fun k => (Nat.beq k 8) || (Nat.beq k 2 || Nat.beq k 3 || Nat.beq k 7)) (fun k => Nat.beq k 8) (fun k h => Bool.or_eq_true_iff.2 (.inl h)) (by kernel_rfl) (by kernel_rfl) (by kernel_rfl) ?_)
   refine .step rfl rfl rfl (fun _ => AOp.moveO rfl rfl) ?_
   refine .step rfl rfl rfl (fun _ => AOp.moveD rfl rfl) ?_
   refine .stepS rfl rfl rfl rfl (.indexOwn rfl et_37 rfl rfl (.tail _ (.head _)) k rfl (by rw [List.length_map, hkl]; exact hkP)) ?_
   refine .stepS rfl rfl rfl rfl (.loadRow rfl sc_3 rfl (.tail _ (.head _)) k 0 rfl hat rfl) ?_
   refine .step rfl rfl rfl (fun _ => AOp.fieldAddr rfl fo_59_4 rfl) ?_
   refine .step rfl rfl rfl (fun _ => AOp.load rfl sc_3 rfl) ?_
   refine .step rfl rfl rfl (fun _ => AOp.add64 rfl rfl rfl (by omega) (by omega)) ?_
   refine .stepS rfl rfl rfl rfl (.indexOwn rfl et_37 rfl rfl (.tail _ (.head _)) k rfl (by rw [List.length_map, hkl]; exact hkP)) ?_
   refine .eff rfl rfl rfl (.storeRow rfl rfl sz_3 rfl (.tail _ (.head _)) rfl rfl rfl k 0 rfl hat (Nat.le_of_ble_eq_true rfl)) ?_
   refine .nil ?_
   refine .seq (.draw (by kernel_rfl) (by kernel_rfl) ?_)
   refine .sA (.fieldAddr rfl fo_59_4 rfl) (.sA (.load rfl sc_3 rfl) (.sA (.fieldAddr rfl fo_59_5 rfl) (.sA (.load rfl sc_57 rfl) (.sA (.call rfl (.cons (.rfl' rfl) .nil) (c_sumOf (stmsB (salB b A2) b)[k].parts HP3.2.1 HP3.2.2)) (.sA (.neq rfl rfl rfl) ?_)))))
   refine .nil ?_
   refine .cond rfl (fun h9 => ?_) (fun h9 => ?_)
   ·replace h9 := dcT h9
    exact absurd HP3.1.symm h9
   replace h9 := dcF h9
   refine .skip (.region (.sA (.add64 rfl rfl rfl (by omega) (by omega)) ?_))
   refine .mA (.nil ?_)
   refine ⟨k + 1, (by omega), (by dsimp only; omega), Sub.less ⟨(SLe.of_eq rfl), SLe.refl _, SLe.refl _, SLe.refl _, SLe.refl _, SLe.refl _, SLe.refl _, SLe.refl _, SLe.refl _, SLe.refl _, SLe.refl _, SLe.refl _, trivial⟩ (in3P (.head _) (mem_ob_eq (.tail _ (.head _)) (row_eqP HSET)) (.tail _ (.tail _ (.head _))))⟩
  replace h8 := dcF h8
  rw [List.length_map] at h8
  obtain rfl : k = (stmsB (salB b A2) b).length := by omega
  rw [show paidK P (pdB (salB b A2) b) (stmsB (salB b A2) b).length = addP P (pdB (salB b A2) b) from half_end (by omega) (by omega)]
  refine .exit (.seq (.sr (.sA (.fieldAddr rfl fo_36_1 rfl) ?_)))
  refine .sA (.load rfl sc_33 rfl) (.sA (.lenSl rfl et_33.ht rfl) ?_)
  refine .mA (.nil ?_)
  refine .block (.loop (G := Nat) (fun k => Env.of [(102, .d (.v (.int .i64 (k : Int)))), (100, .d (.sl (c.deals.map Deal.ds))), (101, .d (.v (.int .i64 ((c.deals.map Deal.ds).length : Int)))), (47, .d (.sl ((logs.take 12).map lgD))), (48, .d (.v (.int .i64 (((logs.take 12).map lgD).length : Int)))), (2, .d (.fp c.ds)), (5, .ptr 901 0), (8, .own 902), (9, .own 903), (49, .d (.v (.int .i64 (n : Int)))), (7, .d (.sl (A2.map Rpt.ds))), (14, .d (.fp (issB b A2).ds))]) (fun k => [bkC b, (902, .row 3 1 ((addP P (pdB (salB b A2) b)).map intD)), (903, .row 3 1 ((advK c (n : Int) k).map intD))]) (fun k => k ≤ c.deals.length) (fun k => c.deals.length - k) 0 (Nat.zero_le _) (Sub.less ⟨(SLe.of_eq rfl), SLe.refl _, SLe.refl _, SLe.refl _, SLe.refl _, SLe.refl _, SLe.refl _, SLe.refl _, SLe.refl _, SLe.refl _, SLe.refl _, SLe.refl _, trivial⟩ (in3P (.head _) (.tail _ (.head _)) (.tail _ (.tail _ (.head _))))) ?_)
  intro k hk
  refine .sr ?_
  refine .sA (.lss rfl rfl rfl) (.nil ?_)
  refine .seq ?_
  refine .cond rfl (fun h10 => ?_) (fun h10 => ?_)
  ·replace h10 := dcT h10
   rw [List.length_map] at h10
   have hlt : k < c.deals.length := by omega
   have hk1 : k < (advL c ((n : Int) + 1)).length := by rw [advL_len]; exact hlt
   have hk0 : k < (advL c (n : Int)).length := by rw [advL_len]; exact hlt
   have hkl : (advK c (n : Int) k).length = c.deals.length := (half_len (by rw [advL_len, advL_len]) (by rw [advL_len]; omega)).trans (advL_len ..)
   have hat : ((advK c (n : Int) k).map intD)[k]? = some (intD (advV (n : Int) c.deals[k])) := by rw [List.getElem?_map, show (advK c (n : Int) k)[k]? = some _ from half_at hk1 hk0, advL_get hlt]; rfl
   have HV := advV_next (next := (n : Int)) (by omega) c.deals[k]
   refine .skip (.seq (.block (.sr (.mA ?_))))
   refine .sA (.indexAddr rfl et_33 rfl rfl k rfl (at_lst hlt) rfl) (.sA (.loadAgg rfl ag_63 rfl rfl) ?_)
   refine .alloc 106 rfl rfl rfl rfl zt_63 rfl rfl rfl ?_
   refine .aA ?_
   refine .store rfl rfl rfl sz_63 rfl (.head _) rfl rfl rfl (Nat.le_of_ble_eq_true rfl) ?_
   refine .freezeCells 19 (ds := c.deals[k].ds) rfl (.head _) (.nil ?_)
   refine .sr (.sA (.fieldAddr rfl fo_63_2 rfl) ?_)
   refine .sA (.load rfl sc_3 rfl) (.sA (.fieldAddrP rfl fo_40_1 rfl) (.sA (.loadP rfl sc_3 rfl (.head _) rfl) ?_))
   refine .sA (.eql rfl rfl rfl) (.nil ?_)
   refine .cond rfl (fun h11 => ?_) (fun h11 => ?_)
   ·replace h11 := dcT h11
    have hfr : (n : Int) = c.deals[k].frm := by rw [← hnx]; exact (h11).symm
    have HV0 : advV (n : Int) c.deals[k] = 0 := by unfold advV; rw [if_neg (by omega)]
    rw [if_pos hfr, HV0] at HV
    have HSET : ((advK c (n : Int) k).map intD).set k (intD c.deals[k].adv) = (advK c (n : Int) (k + 1)).map intD := by
     have h5 : (advL c ((n : Int) + 1))[k] = c.deals[k].adv := by rw [advL_get hlt, HV]; omega
     rw [← h5, ← List.map_set]; exact congrArg (List.map intD) (half_set hk1 hk0)
    refine .region (.sA (.moveO rfl rfl) ?_)
    refine .mA ?_
    refine .sA (.fieldAddr rfl fo_63_6 rfl) (.sA (.load rfl sc_3 rfl) ?_)
    refine .sA (.indexOwn rfl et_37 rfl rfl (.tail _ (.tail _ (.head _))) k rfl (by rw [List.length_map, hkl]; exact hlt)) ?_
    refine .storeRow rfl rfl rfl sz_3 rfl (.tail _ (.tail _ (.head _))) rfl rfl rfl k 0 rfl hat (Nat.le_of_ble_eq_true rfl) (.nil ?_)
    refine .region (.sA (.add64 rfl rfl rfl (by omega) (by omega)) ?_)
    refine .mA (.nil ?_)
    refine ⟨k + 1, (by omega), (by dsimp only; omega), Sub.less ⟨(SLe.of_eq rfl), SLe.refl _, SLe.refl _, SLe.refl _, SLe.refl _, SLe.refl _, SLe.refl _, SLe.refl _, SLe.refl _, SLe.refl _, SLe.refl _, SLe.refl _, trivial⟩ (in3P (.head _) (.tail _ (.head _)) (mem_ob_eq (.tail _ (.tail _ (.head _))) (row_eqP HSET)))⟩
   replace h11 := dcF h11
   have HSET : (advK c (n : Int) k).map intD = (advK c (n : Int) (k + 1)).map intD := by
    rw [if_neg (fun hh => h11 (by rw [hnx]; exact hh.symm))] at HV
    exact congrArg (List.map intD) (half_eq hk1 hk0 (by rw [advL_get hlt, advL_get hlt, HV]; omega)).symm
   refine .skip (.region (.sA (.add64 rfl rfl rfl (by omega) (by omega)) ?_))
   refine .mA (.nil ?_)
   refine ⟨k + 1, (by omega), (by dsimp only; omega), Sub.less ⟨(SLe.of_eq rfl), SLe.refl _, SLe.refl _, SLe.refl _, SLe.refl _, SLe.refl _, SLe.refl _, SLe.refl _, SLe.refl _, SLe.refl _, SLe.refl _, SLe.refl _, trivial⟩ (in3P (.head _) (.tail _ (.head _)) (mem_ob_eq (.tail _ (.tail _ (.head _))) (row_eqP HSET)))⟩
  replace h10 := dcF h10
  rw [List.length_map] at h10
  obtain rfl : k = c.deals.length := by omega
  rw [show advK c (n : Int) c.deals.length = advL c ((n : Int) + 1) from half_end (advL_len ..) (advL_len ..)]
  refine .exit (.sr (.sA (.loadAgg rfl ag_40 rfl rfl) ?_))
  refine .store rfl rfl rfl sz_40 rfl (.head _) rfl rfl rfl (Nat.le_of_ble_eq_true rfl) (.nil ?_)
  refine .seq (.draw (by kernel_rfl) (by kernel_rfl) ?_)
  refine .sA (.fieldAddrP rfl fo_40_2 rfl) (.sA (.loadP rfl sc_37 rfl (.head _) rfl) (.sA (.loadAgg rfl ag_36 rfl rfl) (.sA (.moveD rfl rfl) (.sA (.fieldAddrP rfl fo_40_1 rfl) (.sA (.loadP rfl sc_3 rfl (.head _) rfl) ?_)))))
  refine .sA (.sub64 rfl rfl rfl (by omega) (by omega)) ?_
  refine .sA (.call rfl (.cons (.rfl' rfl) (.cons (.rfl' rfl) (.cons (.rfl' rfl) .nil))) HSB) (.sA (.call rfl (.cons (.rfl' rfl) (.cons (.rfl' rfl) .nil)) (c_eqI _)) (.sA (.not rfl rfl) (.sA (.moveD rfl rfl) ?_)))
  refine .sG (.loadAgg rfl ag_36 rfl rfl) ?_
  refine .sG (.loadPU rfl ag_40 rfl (.head _) rfl rfl) ?_
  refine .sG (.moveO rfl rfl) ?_
  refine .sG (.moveO rfl rfl) ?_
  refine .sG (.callV rfl (.cons (.d rfl) (.cons (.d rfl) (.cons (.own rfl (.tail _ (.head _))) (.cons (.own rfl (.tail _ (.tail _ (.head _)))) .nil)))) HAD) ?_
  refine .sG (.not rfl rfl) ?_
  refine .sA (.pickF rfl rfl rfl) ?_
  refine .nil ?_
  refine .cond rfl (fun h => nomatch h) (fun _ => ?_)
  refine .skip (.region (.sA (.add64 rfl rfl rfl (by omega) (by omega)) ?_))
  refine .mA (.nil ?_)
  refine ⟨(n + 1, A2, issB b A2, addP P (pdB (salB b A2) b)), ⟨by dsimp only; omega, hPN⟩, (by dsimp only; omega), Sub.less ⟨(SLe.of_eq rfl), SLe.refl _, SLe.refl _, SLe.refl _, SLe.refl _, SLe.refl _, SLe.refl _, SLe.refl _, trivial⟩ (in3P (.head _) (.tail _ (.head _)) (.tail _ (.tail _ (.head _))))⟩
 replace h4 := dcF h4
 refine .exit (.sr (.sA (.call rfl .nil c_awake) ?_))
 refine .aA (.nil ?_)
 refine .ret ?_
 refine ⟨RetD.eq rfl ?_, trivial⟩
 all_goals (first | rfl)
end Go.Proofs.YtcfamaddnmnaeaaGreatDoor
