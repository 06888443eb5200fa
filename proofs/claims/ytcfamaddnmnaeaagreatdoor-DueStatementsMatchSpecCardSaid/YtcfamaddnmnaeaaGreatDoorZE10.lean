/- Walks and laws over abstract values, merged by tools/merge.py. No statement of the seat. -/
import Derived.Test.YtcfamaddnmnaeaaGreatDoorZE9
set_option linter.unusedSimpArgs false
set_option linter.unusedVariables false
set_option maxHeartbeats 8000000
set_option maxRecDepth 100000
open List renaming length_map -> ZlM, getElem?_eq_getElem -> ZgE, getElem_mem -> ZgM, length_take -> ZlT, getElem_append_left -> ZgL, getElem_map -> ZgP, getElem_append_right -> ZgR, map_append -> ZmA, length_append -> ZlA, mem_singleton -> ZmS, mem_map -> ZmM
open Nat renaming le_of_ble_eq_true -> ZnB, ne_of_beq_eq_false -> ZnE, zero_le -> ZnZ, le_refl -> ZnR, le_trans -> ZnT
open Bool renaming and_eq_true -> ZbA, or_eq_true_iff -> ZbO
namespace Go.Proofs.YtcfamaddnmnaeaaGreatDoor
open Go.RowKit
namespace Ty
theorem bu_108 : StructT Tryz.prog 108 (fun i => (#[(0, 7), (7, 1), (8, 1)] : Array (Nat × Nat))[i]?) [(.slice none 0 0), (.slice none 0 0), (.slice none 0 0), (.int .i64 0), (.slice none 0 0), (.slice none 0 0), (.slice none 0 0), (.slice none 0 0), (.slice none 0 0)] := .of (by kernel_rfl) (by kernel_rfl) (by decide)
theorem bu_40 : StructT Tryz.prog 40 (fun i => (#[(0, 3), (3, 1), (4, 1), (5, 1), (6, 1)] : Array (Nat × Nat))[i]?) [(.slice none 0 0), (.slice none 0 0), (.slice none 0 0), (.int .i64 0), (.slice none 0 0), (.slice none 0 0), (.slice none 0 0)] := .of (by kernel_rfl) (by kernel_rfl) (by decide)
theorem et_41 : ElemTy Tryz.prog 41 59 7 96 (.agg #[(.int .i64 0), (.string ⟨#[]⟩), (.slice none 0 0), (.int .i64 0), (.int .i64 0), (.slice none 0 0), (.int .i64 0)]) := ⟨by kernel_rfl, by kernel_rfl, by kernel_rfl, by decide⟩
theorem sz_40 : ∀ w, (sizeOf 40).run Tryz.prog w = .ok 7 w := SizeT.of (by kernel_rfl)
theorem zt_40 : (Tryz.prog.info? 40).bind (·.zero) = some (.agg #[(.slice none 0 0), (.slice none 0 0), (.slice none 0 0), (.int .i64 0), (.slice none 0 0), (.slice none 0 0), (.slice none 0 0)]) := by kernel_rfl
end Ty
open Ty
open Go.Lib
theorem AWP.forget {cx : Cx} {c : Code} {e : Env} {σ : Obs} {Q : Post} (id off : Nat) {ss : List S} {s : S} (hm : (id, Ob.cells ss) ∈ σ) (hs : ss[off]? = some s) (k : AWP cx c e (Obs.upd id (.cells (ss.set off (.d .any))) σ) Q) : AWP cx c e σ Q := fun a w ⟨F, ρ, hr⟩ => k a w ⟨F, ρ, hr.recell hm hs (fun x _ => .d (.any _))⟩
theorem in7 {σ : Obs} {n o p q r s t : Nat × Ob} (hn : n ∈ σ) (h0 : o ∈ σ) (h1 : p ∈ σ) (h2 : q ∈ σ) (h3 : r ∈ σ) (h4 : s ∈ σ) (h5 : t ∈ σ) : ∀ x ∈ [n, o, p, q, r, s, t], x ∈ σ := fun x hx => by
 rcases List.mem_cons.1 hx with rfl | hx
 ·exact hn
 ·exact in6 h0 h1 h2 h3 h4 h5 x hx
theorem iss_ask {b : Bks} {l : List Rpt} (h : askB b l ≠ 0) : issF b l = askB b l := if_pos h
theorem iss_11 {b : Bks} {l : List Rpt} (h : ¬ askB b l ≠ 0) (h1 : 2400 < b.next) : issF b l = 11 := (if_neg h).trans (if_pos h1)
theorem iss_d {b : Bks} {l : List Rpt} (h : ¬ askB b l ≠ 0) (h1 : ¬ 2400 < b.next) (h2 : ffst (dlK (salB b l) b) b.ctr.deals.length ≠ 0) : issF b l = ffst (dlK (salB b l) b) b.ctr.deals.length := (if_neg h).trans ((if_neg h1).trans (if_pos h2))
theorem iss_g {b : Bks} {l : List Rpt} (h : ¬ askB b l ≠ 0) (h1 : ¬ 2400 < b.next) (h2 : ffst (dlK (salB b l) b) b.ctr.deals.length = 0) : issF b l = ffst (gpK (salB b l) b) b.ctr.groups.length := (if_neg h).trans ((if_neg h1).trans (if_neg (fun hh => hh h2)))
theorem Yb7 {b : Bks} {l : List Rpt} (h : issF b l ≠ 0) : issB b l = zBks := if_neg h
theorem Yb6 {b : Bks} {l : List Rpt} (h : issF b l ≠ 0) : issS b l = [] := if_neg h
theorem issB_ok {b : Bks} {l : List Rpt} (h : issF b l = 0) : issB b l = ⟨b.ctr, b.next + 1, Ybl (salB b l) b, hldR (salB b l) b.next b.held (dls b), YbQ (salB b l) b⟩ := if_pos h
theorem issS_ok {b : Bks} {l : List Rpt} (h : issF b l = 0) : issS b l = stmsB (salB b l) b := if_pos h
theorem c_pIss (b : Bks) (l : List Rpt) (hb : okBks b) (ho : ∀ x ∈ l, okRpt x) : Ya3 Tryz.prog MaxT 14 [.agg b.ds, .sl (l.map Rpt.ds)] (.tup [.agg (issB b l).ds, .sl ((issS b l).map Stm.ds), .v (.int .i64 (issF b l))]) := by
 refine acall_ofRT (n := 107) (ds' := [.agg (issB b l).ds, .sl ((issS b l).map Stm.ds), .v (.int .i64 (issF b l))]) Tryz.func14 J (by kernel_rfl) J [.cell 4 40, .tmp 5, .tmp 6] J J ?_
 intro B w0 F0 hT
 refine .sr (.boxOwn 700 J J J J J J J ?_)
 refine .alloc 710 J J J J zt_40 J J J ?_
 refine .aA ?_
 refine .aN ?_
 refine .seq (.sr (.sA (.loadPU J Ybs J (.tail _ (.head _)) J J) ?_))
 refine .mA ?_
 -- wants the world
 refine .callT J J J hT Yan J (.cons (.rfl' J) (.cons (.rfl' J) .nil)) (c_pCkI b l hb ho) ?_
 refine .aN ?_
 refine .sr (.mA ?_)
 refine .sA (.neq J J J) (.nil ?_)
 refine .cT J (fun h1 => ?_) fun h1 => ?_
 ·have HF := iss_ask h1
  rw [Yb7 (by rw [HF]; exact h1), Yb6 (by rw [HF]; exact h1), HF]
  refine .sr (.sA (.build J bu_40 .nil J) ?_)
  refine .mA ?_
  refine .store J J J sz_40 J (.head _) J J J (ZnB J) ?_
  refine .aA ?_
  refine .aN ?_
  refine .ret ?_
  refine ⟨RetR.agg J (.head _) Ybs J (.c0 (.c0 (.c0 (.c0 (.c0 (.c0 (.c0 .nil))))))), RetD.nil J, RetD.eq J ?_, trivial⟩
  all_goals (first | rfl)
 have h0 : ¬ askB b l ≠ 0 := h1
 obtain ⟨hbz, hlz⟩ := ask_0 (Decidable.not_not.1 h0)
 have okb := bkOk hbz
 have hlog := log_of hlz
 have okS : SalsOk (salB b l) := sals_ok hlog ho okb.als
 have hnx := okb.next
 have hdl := okb.dl
 have hgl := okb.gl
 have hzl := Ybo okb
 have hgz := gps_len okb
 refine .skip (.seq (.sr (.sA (.fieldAddrP J YaB J) ?_)))
 refine .sA (.loadP J sc_3 J (.tail _ (.head _)) J) ?_
 refine .sA (.gtr J J J) (.nil ?_)
 refine .cT J (fun h2 => ?_) fun h2 => ?_
 ·have HF := iss_11 h0 h2
  rw [Yb7 (by rw [HF]; decide), Yb6 (by rw [HF]; decide), HF]
  refine .sr (.sA (.build J bu_40 .nil J) ?_)
  refine .store J J J sz_40 J (.head _) J J J (ZnB J) ?_
  refine .aA ?_
  refine .aN ?_
  refine .ret ?_
  refine ⟨RetR.agg J (.head _) Ybs J (.c0 (.c0 (.c0 (.c0 (.c0 (.c0 (.c0 .nil))))))), RetD.nil J, RetD.eq J ?_, trivial⟩
  all_goals (first | rfl)
 have h1n : ¬ 2400 < b.next := h2
 refine .skip (.sr (.mA ?_))
 refine .sA (.fieldAddrP J Yay J) (.sA (.fieldAddrP J Yck J) (.sA (.loadP J sc_32 J (.tail _ (.head _)) J) (.sA (.call J (.cons (.rfl' J) (.cons (.rfl' J) .nil)) (c_sums l b.ctr.als hlog ho okb.als)) ?_)))
 refine .mA ?_
 refine .sA (.extract J J J) (.sA (.extract J J J) ?_)
 refine .aA ?_
 refine .aN ?_
 refine .seq (.drawFresh 13 [⟨41, 501, .own 501, .row 3 1 (b.stated.map intD)⟩, ⟨44, 502, .own 502, .row 105 3 (b.held.map Hld.ds)⟩, ⟨47, 503, .own 503, .row 3 1 (b.bal.map intD)⟩] (FrOk.three rfl (by simp) rfl rfl rfl rfl (by simp) rfl rfl rfl rfl (by simp) rfl rfl rfl (ZnE rfl) (ZnE rfl) (ZnE rfl) (ZnE rfl) (ZnE rfl) (ZnE rfl) ⟨rfl, rfl⟩ ⟨rfl, rfl⟩ ⟨rfl, rfl⟩ ⟨rfl, rfl⟩ ⟨rfl, rfl⟩ ⟨rfl, rfl⟩) (by kernel_rfl) (by kernel_rfl) (by kernel_rfl) (by kernel_rfl) ?_)
 refine .step J J J (.fieldAddrP J Yay J) ?_ (hs := ⟨.inl J, .inl J, .inl J, trivial⟩)
 refine .step J J J (.loadPU J ag_36 J (.tail _ (.head _)) J J) ?_ (hs := ⟨.inl J, .inl J, .inl J, trivial⟩)
 refine .step J J J (.call J (.cons (.rfl' J) .nil) (c_ownCtr b.ctr (ctr_ok okb.ctr))) ?_ (hs := ⟨.inl J, .inl J, .inl J, trivial⟩)
 refine .step J J J (.fieldAddrP J Ybh J) ?_ (hs := ⟨.inl J, .inl J, .inl J, trivial⟩)
 refine .step J J J (.loadP J YaO J (.tail _ (.head _)) J) ?_ (hs := ⟨.inl J, .inl J, .inl J, trivial⟩)
 refine .callO _ (.head _) J J J J J (.cons (.rfl' J) .nil) (c_clInt b.stated (by have := okb.sl; have := okb.dl; omega)) J J ?_
 refine .step J J J (.fieldAddrP J YaJ J) ?_ (hs := ⟨.inl J, .inl J, .inl J, trivial⟩)
 refine .step J J J (.loadP J Ycn J (.tail _ (.head _)) J) ?_ (hs := ⟨.inl J, .inl J, .inl J, trivial⟩)
 refine .callO _ (.tail _ (.head _)) J J J J J (.cons (.rfl' J) .nil) (c_clHld b.held (by have := held_len okb; omega)) J J ?_
 refine .step J J J (.fieldAddrP J Ybv J) ?_ (hs := ⟨.inl J, .inl J, .inl J, trivial⟩)
 refine .step J J J (.loadP J YaO J (.tail _ (.head _)) J) ?_ (hs := ⟨.inl J, .inl J, .inl J, trivial⟩)
 refine .callO _ (.tail _ (.tail _ (.head _))) J J J J J (.cons (.rfl' J) .nil) (c_clInt b.bal (by have := okb.bl; have := okb.gl; omega)) J J ?_
 refine .step J J J (.fieldAddrP J Yay J) ?_ (hs := ⟨.inl J, .inl J, .inl J, trivial⟩)
 refine .nil ⟨J, J, J, trivial⟩ ?_
 refine .store J J J sz_36 J (.tail _ (.tail _ (.tail _ (.tail _ (.head _))))) J J J (ZnB J) ?_
 refine .sA (.fieldAddrP J Ybh J) ?_
 refine .storeS J J J sz_37 J (.tail _ (.tail _ (.tail _ (.tail _ (.head _))))) J (.head _) (ZnB J) ?_
 refine .sA (.fieldAddrP J YaJ J) ?_
 refine .storeS J J J sz_38 J (.tail _ (.tail _ (.tail _ (.tail _ (.head _))))) J (.tail _ (.head _)) (ZnB J) ?_
 refine .sA (.fieldAddrP J Ybv J) ?_
 refine .storeS J J J sz_37 J (.tail _ (.tail _ (.tail _ (.tail _ (.head _))))) J (.tail _ (.tail _ (.head _))) (ZnB J) (.nil ?_)
 refine .sr (.loadVal 720 J J J J Ybs J (.tail _ (.tail _ (.tail _ (.tail _ (.head _))))) (ZnB J) J ?_)
 refine .mA ?_
 refine .buildV 721 J J J J bu_108 J J J J J J J (.head _) J J J J ?_
 refine .boxVal 600 J J J J J (.head _) J ?_
 refine .sA (.assignP J J) (.nil ?_)
 refine .seq (.seq (.forget 700 4 (.tail _ (.tail _ (.tail _ (.tail _ (.tail _ (.tail _ (.tail _ (.head _)))))))) J ?_))
 refine .forget 700 5 (.tail _ (.tail _ (.tail _ (.tail _ (.tail _ (.tail _ (.tail _ (.head _)))))))) J ?_
 refine .forget 700 6 (.tail _ (.tail _ (.tail _ (.tail _ (.tail _ (.tail _ (.tail _ (.head _)))))))) J ?_
 refine .adoptCell 504 114 5 600 8 (.head _) J J ?_
 refine .region (.sA (.fieldAddrP J Yay J) ?_)
 refine .sA (.fieldAddrP J YaE J) (.sA (.loadP J YbI J (.tail _ (.tail _ (.tail _ (.tail _ (.tail _ (.tail _ (.tail _ (.tail _ (.head _))))))))) J) (.sA (.lenSl J et_33.ht J) ?_))
 refine .mN ?_
 refine .block (.loop (G := Nat) (fun k => Env.of [(60, .iv k), (59, .iv (b.ctr.deals.map Deal.ds).length), (10, .ptr 600 0), (4, .ptr 710 0), (2, .ptr 700 0)]) (fun k => [isC b.ctr b.next (salB b l), isT (tK (salB b l) b k), isH (lK (salB b l) b k), isB b.bal, isR (rK (salB b l) b k), (700, .cells [.d (.sl (b.ctr.als.map Ali.ds)), .d (.sl (b.ctr.deals.map Deal.ds)), .d (.sl (b.ctr.groups.map Grp.ds)), .d (.v (.int .i64 b.next)), .d .any, .d .any, .d .any]), (710, .cells [.d (.v (.slice none 0 0)), .d (.v (.slice none 0 0)), .d (.v (.slice none 0 0)), .d (.v (.int .i64 0)), .d (.v (.slice none 0 0)), .d (.v (.slice none 0 0)), .d (.v (.slice none 0 0))])]) (fun k => k <= b.ctr.deals.length /\ ffst (dlK (salB b l) b) k = 0) (fun k => b.ctr.deals.length - k) 0 ⟨ZnZ _, J⟩ (Sub.less ⟨U, U, U, U, U, trivial⟩ (in7 (.tail _ (.head _)) (.tail _ (.tail _ (.tail _ (.tail _ (.head _))))) (.tail _ (.tail _ (.tail _ (.tail _ (.tail _ (.head _)))))) (.tail _ (.tail _ (.tail _ (.tail _ (.tail _ (.tail _ (.head _))))))) (.head _) (.tail _ (.tail _ (.tail _ (.tail _ (.tail _ (.tail _ (.tail _ (.tail _ (.head _))))))))) (.tail _ (.tail _ (.tail _ (.tail _ (.tail _ (.tail _ (.tail _ (.head _)))))))))) ?_)
 intro k hk
 refine .sr (.sA (.lss J J J) (.nil ?_))
 refine .seq (.cT J (fun h3 => ?_) fun h3 => ?_)
 ·rw [ZlM] at h3
  have hlt : k < b.ctr.deals.length := by omega
  have hz : k < (dls b).length := by omega
  have hda : b.ctr.deals[k]? = some (dls b)[k].1 := by rw [dls_at hz]; exact ZgE hlt
  have hD := okb.deal _ (dls_mem (ZgM hz)).1
  have hS := okb.st _ (dls_mem (ZgM hz)).2
  have hL := lK_ok (S := (salB b l)) okb k
  have hRl : (rK (salB b l) b k).length <= 40 := by unfold rK; rw [ZlT, rowsB_len okb]; omega
  have HK : dlK (salB b l) b k = dlF (salB b l) b.next b.held ((dls b)[k].1, (dls b)[k].2) := dif_pos hz
  refine .skip (.seq (.block (.sr (.mA ?_))))
  refine .aN ?_
  refine .sr (.sA (.moveP J J) ?_)
  refine .mA ?_
  -- writes 600 501 502 504
  refine .callX J J J (.cons U (.cons U .nil)) (c_deal b.ctr b.next (salB b l) b.held (lK (salB b l) b k) (tK (salB b l) b k) (rK (salB b l) b k) k (dls b)[k].1 (dls b)[k].2 hda (tK_at okb hz) okS hD.1 hL.1 (by omega) (fun q => lK_cen okb hz q) (fun q => cen_rng okb.held (fun x hx => (okb.hr x hx).2.2) _) hS (by omega) ⟨hD.2.2.2.1, hD.2.2.2.2⟩ hRl) ⟨(.head _), (.tail _ (.head _)), (.tail _ (.tail _ (.head _))), (.tail _ (.tail _ (.tail _ (.tail _ (.head _))))), trivial⟩ J J (fun _ h => J) ?_
  rw [<- HK]
  refine .aN ?_
  refine .sr (.mA ?_)
  refine .sA (.neq J J J) (.nil ?_)
  refine .cT J (fun h4 => ?_) fun h4 => ?_
  ·have HX := Yab (f := dlK (salB b l) b) hk.2 h4 _ hlt
   have HF := (iss_d h0 h1n (by rw [HX]; exact h4)).trans HX
   rw [Yb7 (by rw [HF]; exact h4), Yb6 (by rw [HF]; exact h4), HF]
   refine .sr (.sA (.build J bu_40 .nil J) ?_)
   refine .mA ?_
   refine .store J J J sz_40 J (.tail _ (.tail _ (.tail _ (.tail _ (.tail _ (.tail _ (.head _))))))) J J J (ZnB J) ?_
   refine .aA ?_
   refine .aN ?_
   refine .ret ?_
   refine ⟨RetR.agg J (.tail _ (.tail _ (.tail _ (.tail _ (.tail _ (.tail _ (.head _))))))) Ybs J (.c0 (.c0 (.c0 (.c0 (.c0 (.c0 (.c0 .nil))))))), RetD.nil J, RetD.eq J ?_, trivial⟩
   all_goals (first | rfl)
  have HZ : dlK (salB b l) b k = 0 := Decidable.not_not.1 h4
  have HB : ¬ 1000000000000 < basV (dls b)[k].1 b.next (salB b l) := fun hh => by
   rw [HK] at HZ
   unfold dlF at HZ
   rw [if_pos hh] at HZ
   exact absurd HZ (by decide)
  have HT := tK_next (S := (salB b l)) okb hz
  have HL := lK_next (S := (salB b l)) hz
  have HR := rK_next (S := (salB b l)) hz
  simp only [if_neg HB]
  refine .skip (.region (.sA (.add64 J J J) ?_))
  refine .mN ?_
  refine ⟨k + 1, ⟨by omega, Yag hk.2 HZ⟩, (by dsimp only; omega), Sub.less ⟨U, U, U, U, U, trivial⟩ (in7 (.head _) (Yac (.tail _ (.head _)) (by rw [HT])) (Yac (.tail _ (.tail _ (.head _))) (by rw [HL]; first | done | rfl)) (.tail _ (.tail _ (.tail _ (.tail _ (.head _))))) (Yac (.tail _ (.tail _ (.tail _ (.head _)))) (by rw [HR]; first | done | rfl)) (.tail _ (.tail _ (.tail _ (.tail _ (.tail _ (.head _)))))) (.tail _ (.tail _ (.tail _ (.tail _ (.tail _ (.tail _ (.head _))))))))⟩
 rw [ZlM] at h3
 obtain rfl : k = b.ctr.deals.length := by omega
 rw [tK_end okb, lK_end okb, rK_end okb]
 have hdz := Ya2 _ hk.2
 have hRw := rows_ok okS okb hdz
 refine .exit (.sr (.aN ?_))
 refine .seq (.seq (.freezeIn 600 4 J (.head _) (.tail _ (.head _)) ?_))
 refine .freezeIn 600 5 J (.head _) (.tail _ (.head _)) ?_
 refine .freezeIn 600 8 J (.head _) (.tail _ (.tail _ (.head _))) ?_
 refine .region (.sA (.fieldAddrP J Yay J) ?_)
 refine .sA (.fieldAddrP J YaP J) (.sA (.loadP J Yce J (.tail _ (.tail _ (.head _))) J) (.sA (.lenSl J et_34.ht J) ?_))
 refine .mN ?_
 refine .block (.adopt 13 505 59 7 J J ?_)
 have hd0 := hk.2
 refine .loop (G := Nat) (fun k => Env.of [(75, .iv k), (74, .iv (b.ctr.groups.map Grp.ds).length), (10, .ptr 600 0), (4, .ptr 710 0), (13, .own 505)]) (fun k => [(505, .row 59 7 (((stmsB (salB b l) b).take k).map Stm.ds)), isG b.ctr b.next (Ybl (salB b l) b) (hldR (salB b l) b.next b.held (dls b)) (salB b l) (YbC (salB b l) b), isB (bK (salB b l) b k), (710, .cells [.d (.v (.slice none 0 0)), .d (.v (.slice none 0 0)), .d (.v (.slice none 0 0)), .d (.v (.int .i64 0)), .d (.v (.slice none 0 0)), .d (.v (.slice none 0 0)), .d (.v (.slice none 0 0))])]) (fun k => k <= b.ctr.groups.length /\ ffst (gpK (salB b l) b) k = 0) (fun k => b.ctr.groups.length - k) 0 ⟨ZnZ _, J⟩ (Sub.less ⟨U, U, U, U, U, trivial⟩ (in4 (.head _) (.tail _ (.head _)) (.tail _ (.tail _ (.head _))) (.tail _ (.tail _ (.tail _ (.tail _ (.head _))))))) ?_
 intro k hk
 refine .sr (.sA (.lss J J J) (.nil ?_))
 refine .seq (.cT J (fun h5 => ?_) fun h5 => ?_)
 ·rw [ZlM] at h5
  have hlt : k < b.ctr.groups.length := by omega
  have hz : k < (gps b).length := by omega
  have hga : b.ctr.groups[k]? = some (gps b)[k].1 := by rw [gps_at hz]; exact ZgE hlt
  have hgm := gps_mem (ZgM hz)
  have HK : gpK (salB b l) b k = stF (gps b)[k].1 (numB (salB b l) b (gps b)[k]) := dif_pos hz
  have hsl : k < (stmsB (salB b l) b).length := by unfold stmsB; rw [ZlM]; exact hz
  refine .skip (.seq (.block (.sr (.mA ?_))))
  refine .aN ?_
  refine .sr (.sA (.moveP J J) ?_)
  refine .mA ?_
  -- writes 600 503
  refine .callX J J J (.cons U (.cons U .nil)) (c_grp b.ctr b.next (salB b l) (hldR (salB b l) b.next b.held (dls b)) (Ybl (salB b l) b) (YbC (salB b l) b) (bK (salB b l) b k) k (gps b)[k].1 (gps b)[k].2 hga (bK_at okb hz) (rowsB_len okb) hdl hRw (okb.ba _ hgm.2) (okb.cut _ hgm.1)) ⟨(.tail _ (.head _)), (.tail _ (.tail _ (.head _))), trivial⟩ J J (fun _ h => J) ?_
  rw [show stF (gps b)[k].1 (numG (gps b)[k].2 (Yai (gps b)[k].1.name (b.ctr.deals.zip (YbC (salB b l) b)))) = gpK (salB b l) b k from HK.symm]
  refine .mA ?_
  refine .sA (.extract J J J) (.sA (.extract J J J) ?_)
  refine .alloc 106 J J J J zt_59 J J J ?_
  refine .store J J J sz_59 J (.head _) J J J (ZnB J) ?_
  refine .freezeCells 15 (ds := (if gpK (salB b l) b k = 0 then stG b.next (gps b)[k].1 (gps b)[k].2 (rsG (salB b l) b (gps b)[k]) else badG b.next (gps b)[k].1 (gps b)[k].2 (rsG (salB b l) b (gps b)[k])).ds) J (.head _) ?_
  refine .aN ?_
  refine .seq (.sr (.mA ?_))
  refine .sA (.neq J J J) (.nil ?_)
  refine .cT J (fun h6 => ?_) fun h6 => ?_
  ·have HX := Yab (f := gpK (salB b l) b) hk.2 h6 _ hlt
   have HF := (iss_g h0 h1n hd0).trans HX
   rw [Yb7 (by rw [HF]; exact h6), Yb6 (by rw [HF]; exact h6), HF]
   refine .sr (.sA (.build J bu_40 .nil J) ?_)
   refine .mA ?_
   refine .store J J J sz_40 J (.tail _ (.tail _ (.tail _ (.head _)))) J J J (ZnB J) ?_
   refine .aA ?_
   refine .aN ?_
   refine .ret ?_
   refine ⟨RetR.agg J (.tail _ (.tail _ (.tail _ (.head _)))) Ybs J (.c0 (.c0 (.c0 (.c0 (.c0 (.c0 (.c0 .nil))))))), RetD.nil J, RetD.eq J ?_, trivial⟩
   all_goals (first | rfl)
  have HZ : gpK (salB b l) b k = 0 := Decidable.not_not.1 h6
  have HZ2 := HK.symm.trans HZ
  have HT := bK_next (S := (salB b l)) okb hz
  have HX : (if gpK (salB b l) b k = 0 then stG b.next (gps b)[k].1 (gps b)[k].2 (rsG (salB b l) b (gps b)[k]) else badG b.next (gps b)[k].1 (gps b)[k].2 (rsG (salB b l) b (gps b)[k])) = (stmsB (salB b l) b)[k] := by
   rw [if_pos HZ]
   exact (ZgP (h := hsl) ..).symm
  have HS := Ycd hsl
  refine .skip (.region (.sA (.moveO J J) ?_))
  refine .sA (.loadAgg J ag_59 J J) ?_
  refine .sA (.buildSlice J et_41 (.cons J J J .nil) J (by decide)) ?_
  -- append 91
  refine .append rfl rfl rfl rfl et_41 rfl (.tail _ (.tail _ (.head _))) rfl (by simp [D.parts, Stm.ds]) (by simp; omega) (by simp; omega) ?_
  refine .sA (.assignO J J) (.nil ?_)
  refine .region (.sA (.add64 J J J) ?_)
  refine .mN ?_
  refine ⟨k + 1, ⟨by omega, Yag hk.2 HZ⟩, (by dsimp only; omega), Sub.less ⟨U, U, U, U, U, trivial⟩ (in4 (Yac (.tail _ (.tail _ (.head _))) (by rw [HS, <- HX, ZmA]; rfl)) (.head _) (Yac (.tail _ (.head _)) (by rw [<- HT, if_pos HZ]; rfl)) (.tail _ (.tail _ (.tail _ (.head _)))))⟩
 rw [ZlM] at h5
 obtain rfl : k = b.ctr.groups.length := by omega
 rw [bK_end okb]
 have HF : issF b l = 0 := (iss_g h0 h1n (by assumption)).trans hk.2
 rw [issB_ok HF, issS_ok HF, HF]
 have hstl : (stmsB (salB b l) b).length = b.ctr.groups.length := by unfold stmsB; rw [ZlM]; exact hgz
 rw [<- hstl, List.take_length]
 refine .exit (.sr (.sA (.moveP J J) ?_))
 refine .sA (.nilCheckP J J) (.sA (.fieldAddrP J Yav J) (.sA (.fieldAddrP J YaB J) (.sA (.loadP J sc_3 J (.tail _ (.head _)) J) ?_)))
 refine .sA (.add64 J J J) ?_
 refine .sA (.nilCheckP J J) (.sA (.fieldAddrP J Yav J) (.sA (.fieldAddrP J YaB J) ?_))
 refine .store J J J sz_3 J (.tail _ (.head _)) J J J (ZnB J) (.nil ?_)
 refine .seq (.freezeIn 600 6 J (.tail _ (.head _)) (.tail _ (.tail _ (.head _))) ?_)
 refine .region (.sA (.moveP J J) ?_)
 refine .sA (.nilCheckP J J) (.sA (.fieldAddrP J Yav J) (.sA (.loadPU J Ybs J (.tail _ (.head _)) J J) (.sA (.moveO J J) ?_)))
 refine .store J J J sz_40 J (.tail _ (.tail _ (.head _))) J J J (ZnB J) ?_
 refine .sA (.assignO J J) ?_
 refine .aN ?_
 refine .ret ?_
 refine ⟨RetR.agg J (.tail _ (.tail _ (.head _))) Ybs J (.c0 (.c0 (.c0 (.c0 (.c0 (.c0 (.c0 .nil))))))), RetD.own J (.head _) ?_, RetD.eq J ?_, trivial⟩
 all_goals (first | rfl)
open Go.Lib
def owK (S : List Sal) (b : Bks) (k : Nat) : Int := if h : k < (dls b).length then (if 1000000000000 < basV (dls b)[k].1 (b.next - 1) S then 2 else 0) else 0
def owsB (S : List Sal) (b : Bks) : List Int := (dls b).map fun p => nowV S (b.next - 1) p.1 - p.2
def owF (b : Bks) (l : List Rpt) : Int := if askB b l ≠ 0 then askB b l else ffst (owK (salB b l) b) b.ctr.deals.length
def owS (b : Bks) (l : List Rpt) : List Int := if owF b l = 0 then owsB (salB b l) b else []
theorem ow_ask {b : Bks} {l : List Rpt} (h : askB b l ≠ 0) : owF b l = askB b l := if_pos h
theorem ow_k {b : Bks} {l : List Rpt} (h : ¬ askB b l ≠ 0) : owF b l = ffst (owK (salB b l) b) b.ctr.deals.length := if_neg h
theorem owS_bad {b : Bks} {l : List Rpt} (h : owF b l ≠ 0) : owS b l = [] := if_neg h
theorem owS_ok {b : Bks} {l : List Rpt} (h : owF b l = 0) : owS b l = owsB (salB b l) b := if_pos h
def zRw : Rw := ⟨⟨#[]⟩, 0, 0, 0, 0⟩
def rwR (S : List Sal) (next : Int) (H : List Hld) (p : Deal × Int) : Rw := if 1000000000000 < basV p.1 next S then zRw else rwD S next H p
def nwR (S : List Sal) (next : Int) (H : List Hld) (p : Deal × Int) : Int := if dlF S next H p = 0 then nowV S next p.1 else 0
def cdR (S : List Sal) (next : Int) (H : List Hld) (p : Deal × Int) : Int := if dlF S next H p = 0 then cenD S next H p else 0
theorem c_pOw (b : Bks) (l : List Rpt) (hb : okBks b) (ho : ∀ x ∈ l, okRpt x) : Ya3 Tryz.prog MaxT 19 [.agg b.ds, .sl (l.map Rpt.ds)] (.tup [.sl ((owS b l).map intD), .v (.int .i64 (owF b l))]) := by
 refine YaF (n := 59) (ds' := [.sl ((owS b l).map intD), .v (.int .i64 (owF b l))]) Tryz.func19 J (by kernel_rfl) J [4, 5] J J ?_
 intro B w0 F0 hT
 refine .sr (.sA (.box J J J) ?_)
 refine .aA ?_
 refine .aN ?_
 refine .seq (.sr (.sA (.loadAgg J Ybs J J) ?_))
 refine .mA ?_
 -- wants the world
 refine .callT J J J hT Yan J (.cons (.rfl' J) (.cons (.rfl' J) .nil)) (c_pCkI b l hb ho) ?_
 refine .aN ?_
 refine .sr (.mA ?_)
 refine .sA (.neq J J J) (.nil ?_)
 refine .cT J (fun h1 => ?_) fun h1 => ?_
 ·have HF := ow_ask h1
  rw [owS_bad (by rw [HF]; exact h1), HF]
  refine .sr (.mA ?_)
  refine .aA ?_
  refine .aN ?_
  refine .ret ?_
  refine ⟨RetD.nil J, RetD.eq J ?_, trivial⟩
  all_goals (first | rfl)
 have h0 : ¬ askB b l ≠ 0 := h1
 obtain ⟨hbz, hlz⟩ := ask_0 (Decidable.not_not.1 h0)
 have okb := bkOk hbz
 have hlog := log_of hlz
 have okS : SalsOk (salB b l) := sals_ok hlog ho okb.als
 have hnx := okb.next
 have hdl := okb.dl
 have hzl := Ybo okb
 have hsl := okb.sl
 refine .skip (.sr (.mA ?_))
 refine .sA (.fieldAddr J Yay J) (.sA (.fieldAddr J Yck J) (.sA (.load J sc_32 J) (.sA (.call J (.cons (.rfl' J) (.cons (.rfl' J) .nil)) (c_sums l b.ctr.als hlog ho okb.als)) ?_)))
 refine .mA ?_
 refine .sA (.extract J J J) (.sA (.extract J J J) ?_)
 refine .aA ?_
 refine .aN ?_
 refine .sr (.aN ?_)
 refine .seq (.sr (.sA (.fieldAddr J Yay J) ?_))
 refine .sA (.fieldAddr J YaE J) (.sA (.load J YbI J) (.sA (.lenSl J et_33.ht J) ?_))
 refine .mN ?_
 refine .block (.adopt 9 61 3 1 J J ?_)
 refine .loop (G := Nat) (fun k => Env.of [(31, .iv k), (29, .d (.sl (b.ctr.deals.map Deal.ds))), (30, .iv (b.ctr.deals.map Deal.ds).length), (2, .d (.fp b.ds)), (7, .d (.sl ((salB b l).map Sal.ds))), (9, .own 61)]) (fun k => [(61, .row 3 1 (((owsB (salB b l) b).take k).map intD))]) (fun k => k <= b.ctr.deals.length /\ ffst (owK (salB b l) b) k = 0) (fun k => b.ctr.deals.length - k) 0 ⟨ZnZ _, J⟩ (Sub.less ⟨U, U, U, U, U, U, trivial⟩ (Yaj J)) ?_
 intro k hk
 refine .sr (.sA (.lss J J J) (.nil ?_))
 refine .seq (.cT J (fun h2 => ?_) fun h2 => ?_)
 ·rw [ZlM] at h2
  have hlt : k < b.ctr.deals.length := by omega
  have hls : k < b.stated.length := by omega
  have hz : k < (dls b).length := by omega
  have hde : (dls b)[k] = (b.ctr.deals[k], b.stated[k]) := dls_at hz
  have hD := okb.deal _ (ZgM hlt)
  have hS := okb.st _ (ZgM hls)
  have hbr : 0 <= basV b.ctr.deals[k] (b.next - 1) (salB b l) /\ basV b.ctr.deals[k] (b.next - 1) (salB b l) <= 30000000000000 * ((salB b l).length : Int) := Yca (d := b.ctr.deals[k]) (p := b.next - 1) okS (salB b l).length (ZnR _)
  have HK : owK (salB b l) b k = if 1000000000000 < basV b.ctr.deals[k] (b.next - 1) (salB b l) then 2 else 0 := by unfold owK; rw [dif_pos hz, hde]
  have hol : k < (owsB (salB b l) b).length := by unfold owsB; rw [ZlM]; exact hz
  have HO : (owsB (salB b l) b)[k] = ernV b.ctr.deals[k].tiers (basV b.ctr.deals[k] (b.next - 1) (salB b l)) - b.stated[k] := by
   have h5 : (owsB (salB b l) b)[k] = nowV (salB b l) (b.next - 1) (dls b)[k].1 - (dls b)[k].2 := ZgP (h := hol) ..
   rw [h5, hde]; rfl
  have HT := Ycd hol
  refine .skip (.seq (.block (.sr (.mA ?_))))
  refine .sA (.indexAddr J et_33 J J k J (Yad hlt) J) (.sA (.loadAgg J ag_63 J J) ?_)
  refine .alloc 101 J J J J zt_63 J J J ?_
  refine .aA ?_
  refine .store J J J sz_63 J (.head _) J J J (ZnB J) ?_
  refine .freezeCells 11 (ds := b.ctr.deals[k].ds) J (.head _) (.nil ?_)
  refine .sr (.sA (.loadAgg J ag_63 J J) ?_)
  refine .mA ?_
  refine .sA (.fieldAddr J YaB J) (.sA (.load J sc_3 J) ?_)
  refine .sA (.sub64 J J J) ?_
  refine .sA (.call J (.cons (.rfl' J) (.cons (.rfl' J) (.cons (.rfl' J) .nil))) (c_pBase b.ctr.deals[k] (salB b l) (b.next - 1) okS)) ?_
  refine .aN ?_
  refine .seq (.sr (.mA ?_))
  refine .sA (.gtr J J J) (.nil ?_)
  refine .cT J (fun h3 => ?_) fun h3 => ?_
  ·have HK2 : owK (salB b l) b k = 2 := HK.trans (if_pos h3)
   have HX := Yab (f := owK (salB b l) b) hk.2 (by rw [HK2]; decide) _ hlt
   have HF := ((ow_k h0).trans HX).trans HK2
   rw [owS_bad (by rw [HF]; decide), HF]
   refine .sr (.aA ?_)
   refine .aN ?_
   refine .ret ?_
   refine ⟨RetD.nil J, RetD.eq J ?_, trivial⟩
   all_goals (first | rfl)
  have hbm : basV b.ctr.deals[k] (b.next - 1) (salB b l) <= 1000000000000 := Int.not_lt.1 h3
  have HK2 : owK (salB b l) b k = 0 := HK.trans (if_neg h3)
  have hev := ernV_le hD.1 hbr.1 hbm
  refine .skip (.drawTail 12 (by kernel_rfl) (by kernel_rfl) (by kernel_rfl) ?_)
  refine .sA (.moveO J J) (.sA (.fieldAddr J Yci J) (.sA (.load J sc_61 J) (.sA (.moveD J J) (.sA (.call J (.cons (.rfl' J) (.cons (.rfl' J) .nil)) (c_pErn b.ctr.deals[k].tiers (basV b.ctr.deals[k] (b.next - 1) (salB b l)) hD.1 ⟨hbr.1, hbm⟩)) (.sA (.fieldAddr J Ybh J) ?_)))))
  refine .sA (.load J YaO J) (.sA (.moveD J J) (.sA (.indexAddr J et_37 J J k J (Yad hls) J) (.sA (.load J sc_3 J) ?_)))
  refine .sA (.sub64 J J J) ?_
  refine .sA (.buildSlice J et_37 (.cons J J J .nil) J (by decide)) ?_
  refine .nil ?_
  -- append 56
  refine .append rfl rfl rfl rfl et_37 rfl (.head _) rfl (by simp [D.parts]) (by simp; omega) (by simp; omega) ?_
  refine .sA (.assignO J J) (.nil ?_)
  refine .region (.sA (.add64 J J J) ?_)
  refine .mN ?_
  refine ⟨k + 1, ⟨by omega, Yag hk.2 HK2⟩, (by dsimp only; omega), Sub.less ⟨U, U, U, U, U, U, trivial⟩ (Yaj (by rw [HT, HO, ZmA]; rfl))⟩
 rw [ZlM] at h2
 obtain rfl : k = b.ctr.deals.length := by omega
 have HF : owF b l = 0 := (ow_k h0).trans hk.2
 rw [owS_ok HF, HF]
 have hol : (owsB (salB b l) b).length = b.ctr.deals.length := by unfold owsB; rw [ZlM]; exact hzl
 rw [<- hol, List.take_length]
 refine .exit (.sr (.sA (.moveO J J) ?_))
 refine .sA (.assignO J J) ?_
 refine .aN ?_
 refine .ret ?_
 refine ⟨RetD.own J (.head _) ?_, RetD.eq J ?_, trivial⟩
 all_goals (first | rfl)
theorem c_rOw (b : Bks) (l : List Rpt) (hb : okBks b) (ho : ∀ x ∈ l, okRpt x) : Ya3 Tryz.prog MaxT 20 [.agg b.ds, .sl (l.map Rpt.ds)] (.tup [.sl ((owS b l).map intD), .v (.int .i64 (owF b l))]) := by
 refine YaF (n := 55) (ds' := [.sl ((owS b l).map intD), .v (.int .i64 (owF b l))]) Tryz.func20 J (by kernel_rfl) J [4, 5] J J ?_
 intro B w0 F0 hT
 refine .sr (.sA (.box J J J) ?_)
 refine .aA ?_
 refine .aN ?_
 refine .seq (.sr (.sA (.loadAgg J Ybs J J) ?_))
 refine .mA ?_
 -- wants the world
 refine .callT J J J hT Yan J (.cons (.rfl' J) (.cons (.rfl' J) .nil)) (c_rAsk8 b l hb ho) ?_
 refine .aN ?_
 refine .sr (.mA ?_)
 refine .sA (.neq J J J) (.nil ?_)
 refine .cT J (fun h1 => ?_) fun h1 => ?_
 ·have HF := ow_ask h1
  rw [owS_bad (by rw [HF]; exact h1), HF]
  refine .sr (.mA ?_)
  refine .aA ?_
  refine .aN ?_
  refine .ret ?_
  refine ⟨RetD.nil J, RetD.eq J ?_, trivial⟩
  all_goals (first | rfl)
 have h0 : ¬ askB b l ≠ 0 := h1
 obtain ⟨hbz, hlz⟩ := ask_0 (Decidable.not_not.1 h0)
 have okb := bkOk hbz
 have hlog := log_of hlz
 have okS : SalsOk (salB b l) := sals_ok hlog ho okb.als
 have hnx := okb.next
 have hdl := okb.dl
 have hzl := Ybo okb
 have hsl := okb.sl
 refine .skip (.sr (.mA ?_))
 refine .sA (.fieldAddr J Yay J) (.sA (.fieldAddr J Yck J) (.sA (.load J sc_32 J) (.sA (.call J (.cons (.rfl' J) (.cons (.rfl' J) .nil)) (c_rSales l b.ctr.als hlog ho okb.als)) ?_)))
 refine .aN ?_
 refine .sr (.aN ?_)
 refine .seq (.sr (.sA (.fieldAddr J Yay J) ?_))
 refine .sA (.fieldAddr J YaE J) (.sA (.load J YbI J) (.sA (.lenSl J et_33.ht J) ?_))
 refine .mN ?_
 refine .block (.adopt 8 61 3 1 J J ?_)
 refine .loop (G := Nat) (fun k => Env.of [(27, .iv k), (25, .d (.sl (b.ctr.deals.map Deal.ds))), (26, .iv (b.ctr.deals.map Deal.ds).length), (2, .d (.fp b.ds)), (7, .d (.sl ((salB b l).map Sal.ds))), (8, .own 61)]) (fun k => [(61, .row 3 1 (((owsB (salB b l) b).take k).map intD))]) (fun k => k <= b.ctr.deals.length /\ ffst (owK (salB b l) b) k = 0) (fun k => b.ctr.deals.length - k) 0 ⟨ZnZ _, J⟩ (Sub.less ⟨U, U, U, U, U, U, trivial⟩ (Yaj J)) ?_
 intro k hk
 refine .sr (.sA (.lss J J J) (.nil ?_))
 refine .seq (.cT J (fun h2 => ?_) fun h2 => ?_)
 ·rw [ZlM] at h2
  have hlt : k < b.ctr.deals.length := by omega
  have hls : k < b.stated.length := by omega
  have hz : k < (dls b).length := by omega
  have hde : (dls b)[k] = (b.ctr.deals[k], b.stated[k]) := dls_at hz
  have hD := okb.deal _ (ZgM hlt)
  have hS := okb.st _ (ZgM hls)
  have hbr : 0 <= basV b.ctr.deals[k] (b.next - 1) (salB b l) /\ basV b.ctr.deals[k] (b.next - 1) (salB b l) <= 30000000000000 * ((salB b l).length : Int) := Yca (d := b.ctr.deals[k]) (p := b.next - 1) okS (salB b l).length (ZnR _)
  have HK : owK (salB b l) b k = if 1000000000000 < basV b.ctr.deals[k] (b.next - 1) (salB b l) then 2 else 0 := by unfold owK; rw [dif_pos hz, hde]
  have hol : k < (owsB (salB b l) b).length := by unfold owsB; rw [ZlM]; exact hz
  have HO : (owsB (salB b l) b)[k] = ernV b.ctr.deals[k].tiers (basV b.ctr.deals[k] (b.next - 1) (salB b l)) - b.stated[k] := by
   have h5 : (owsB (salB b l) b)[k] = nowV (salB b l) (b.next - 1) (dls b)[k].1 - (dls b)[k].2 := ZgP (h := hol) ..
   rw [h5, hde]; rfl
  have HT := Ycd hol
  refine .skip (.seq (.block (.sr (.mA ?_))))
  refine .sA (.indexAddr J et_33 J J k J (Yad hlt) J) (.sA (.loadAgg J ag_63 J J) ?_)
  refine .alloc 101 J J J J zt_63 J J J ?_
  refine .aA ?_
  refine .store J J J sz_63 J (.head _) J J J (ZnB J) ?_
  refine .freezeCells 10 (ds := b.ctr.deals[k].ds) J (.head _) (.nil ?_)
  refine .sr (.mA ?_)
  refine .sA (.loadAgg J ag_63 J J) (.sA (.fieldAddr J YaB J) (.sA (.load J sc_3 J) ?_))
  refine .sA (.sub64 J J J) ?_
  refine .sA (.call J (.cons (.rfl' J) (.cons (.rfl' J) (.cons (.rfl' J) .nil))) (c_rBase (salB b l) b.ctr.deals[k] (b.next - 1) okS hD.2.1)) ?_
  refine .aN ?_
  refine .seq (.sr (.mA ?_))
  refine .sA (.gtr J J J) (.nil ?_)
  refine .cT J (fun h3 => ?_) fun h3 => ?_
  ·have HK2 : owK (salB b l) b k = 2 := HK.trans (if_pos h3)
   have HX := Yab (f := owK (salB b l) b) hk.2 (by rw [HK2]; decide) _ hlt
   have HF := ((ow_k h0).trans HX).trans HK2
   rw [owS_bad (by rw [HF]; decide), HF]
   refine .sr (.aA ?_)
   refine .aN ?_
   refine .ret ?_
   refine ⟨RetD.nil J, RetD.eq J ?_, trivial⟩
   all_goals (first | rfl)
  have hbm : basV b.ctr.deals[k] (b.next - 1) (salB b l) <= 1000000000000 := Int.not_lt.1 h3
  have HK2 : owK (salB b l) b k = 0 := HK.trans (if_neg h3)
  have hev := ernV_le hD.1 hbr.1 hbm
  refine .skip (.drawTail 12 (by kernel_rfl) (by kernel_rfl) (by kernel_rfl) ?_)
  refine .sA (.moveO J J) (.sA (.fieldAddr J Yci J) (.sA (.load J sc_61 J) (.sA (.moveD J J) (.sA (.call J (.cons (.rfl' J) (.cons (.rfl' J) .nil)) (c_rErn b.ctr.deals[k].tiers (basV b.ctr.deals[k] (b.next - 1) (salB b l)) hD.1 ⟨hbr.1, hbm⟩)) (.sA (.fieldAddr J Ybh J) ?_)))))
  refine .sA (.load J YaO J) (.sA (.moveD J J) (.sA (.indexAddr J et_37 J J k J (Yad hls) J) (.sA (.load J sc_3 J) ?_)))
  refine .sA (.sub64 J J J) ?_
  refine .sA (.buildSlice J et_37 (.cons J J J .nil) J (by decide)) ?_
  refine .nil ?_
  -- append 52
  refine .append rfl rfl rfl rfl et_37 rfl (.head _) rfl (by simp [D.parts]) (by simp; omega) (by simp; omega) ?_
  refine .sA (.assignO J J) (.nil ?_)
  refine .region (.sA (.add64 J J J) ?_)
  refine .mN ?_
  refine ⟨k + 1, ⟨by omega, Yag hk.2 HK2⟩, (by dsimp only; omega), Sub.less ⟨U, U, U, U, U, U, trivial⟩ (Yaj (by rw [HT, HO, ZmA]; rfl))⟩
 rw [ZlM] at h2
 obtain rfl : k = b.ctr.deals.length := by omega
 have HF : owF b l = 0 := (ow_k h0).trans hk.2
 rw [owS_ok HF, HF]
 have hol : (owsB (salB b l) b).length = b.ctr.deals.length := by unfold owsB; rw [ZlM]; exact hzl
 rw [<- hol, List.take_length]
 refine .exit (.sr (.sA (.moveO J J) ?_))
 refine .sA (.assignO J J) ?_
 refine .aN ?_
 refine .ret ?_
 refine ⟨RetD.own J (.head _) ?_, RetD.eq J ?_, trivial⟩
 all_goals (first | rfl)
theorem c_rRow (b : Bks) (S : List Sal) (k : Nat) (okb : BkOk b) (okS : SalsOk S) (hz : k < (dls b).length) (hn : b.next <= 2400) : Yaq Tryz.prog 49 [.agg b.ds, .sl (S.map Sal.ds), .v (.int .i64 (k : Int))] (.tup [.agg (rwR S b.next b.held (dls b)[k]).ds, .v (.int .i64 (nwR S b.next b.held (dls b)[k])), .v (.int .i64 (cdR S b.next b.held (dls b)[k])), .v (.int .i64 (dlF S b.next b.held (dls b)[k]))]) := by
 refine acall_ofR (n := 84) (ds' := [.agg (rwR S b.next b.held (dls b)[k]).ds, .v (.int .i64 (nwR S b.next b.held (dls b)[k])), .v (.int .i64 (cdR S b.next b.held (dls b)[k])), .v (.int .i64 (dlF S b.next b.held (dls b)[k]))]) Tryz.func49 J (by kernel_rfl) J [.cell 6 114, .tmp 7, .tmp 8, .tmp 9] J J ?_
 intro B w0 F0 fr
 have hzl := Ybo okb
 have hsl := okb.sl
 have hlt : k < b.ctr.deals.length := by omega
 have hls : k < b.stated.length := by omega
 have hde := dls_at hz
 have hDd : (b.ctr.deals.map Deal.ds)[k]? = some (dls b)[k].1.ds := by rw [hde]; exact Yad hlt
 have hSd : (b.stated.map intD)[k]? = some (intD (dls b)[k].2) := by rw [hde]; exact Yad hls
 have hD := okb.deal _ (dls_mem (ZgM hz)).1
 have hS := okb.st _ (dls_mem (ZgM hz)).2
 have hnx := okb.next
 have hhl := held_len okb
 have hbl := okS.len
 have hbr : 0 <= basV (dls b)[k].1 b.next S /\ basV (dls b)[k].1 b.next S <= 30000000000000 * (S.length : Int) := Yca (d := (dls b)[k].1) (p := b.next) okS S.length (ZnR _)
 clear hde
 generalize hp9 : (dls b)[k] = p9 at *
 refine .sr (.sA (.box J J J) ?_)
 refine .alloc 201 J J J J zt_114 J J J ?_
 refine .aA ?_
 refine .aA ?_
 refine .aN ?_
 refine .sr (.sA (.fieldAddr J Yay J) ?_)
 refine .sA (.fieldAddr J YaE J) (.sA (.load J YbI J) ?_)
 refine .mA ?_
 refine .sA (.indexAddr J et_33 J J k J hDd J) (.sA (.loadAgg J ag_63 J J) ?_)
 refine .alloc 102 J J J J zt_63 J J J ?_
 refine .store J J J sz_63 J (.head _) J J J (ZnB J) ?_
 refine .freezeCells 10 (ds := p9.1.ds) J (.head _) (.nil ?_)
 refine .sr (.mA ?_)
 refine .sA (.loadAgg J ag_63 J J) (.sA (.fieldAddr J YaB J) (.sA (.load J sc_3 J) (.sA (.call J (.cons (.rfl' J) (.cons (.rfl' J) (.cons (.rfl' J) .nil))) (c_rBase S p9.1 b.next okS hD.2.1)) ?_)))
 refine .aN ?_
 refine .seq (.sr (.mA ?_))
 refine .sA (.gtr J J J) (.nil ?_)
 refine .cT J (fun h1 => ?_) fun h1 => ?_
 ·have HB : 1000000000000 < basV p9.1 b.next S := h1
  have HF : dlF S b.next b.held p9 = 2 := if_pos HB
  have H1 : rwR S b.next b.held p9 = zRw := if_pos HB
  have H2 : nwR S b.next b.held p9 = 0 := if_neg (by rw [HF]; decide)
  have H3 : cdR S b.next b.held p9 = 0 := if_neg (by rw [HF]; decide)
  rw [H1, H2, H3, HF]
  refine .sr (.sA (.loadPU J Ycb J (.head _) J J) ?_)
  refine .store J J J sz_114 J (.head _) J J J (ZnB J) ?_
  refine .aA ?_
  refine .aA ?_
  refine .aN ?_
  refine .ret ?_
  refine ⟨RetR.agg J (.head _) Ycb J (.c0 (.c0 (.c0 (.c0 (.c0 .nil))))), RetD.eq J ?_, RetD.eq J ?_, RetD.eq J ?_, trivial⟩
  all_goals (first | rfl)
 have hbm : basV p9.1 b.next S <= 1000000000000 := Int.not_lt.1 h1
 have H1 : rwR S b.next b.held p9 = rwD S b.next b.held p9 := if_neg h1
 have HF0 : dlF S b.next b.held p9 = if 1000000000000 < cenD S b.next b.held p9 then 2 else 0 := if_neg h1
 have hev := ernV_le hD.1 hbr.1 hbm
 have hc1 := cen_rng okb.held (fun x hx => (okb.hr x hx).2.2) (p9.1.name, b.next + p9.1.hold)
 rw [H1]
 refine .skip (.sr (.sA (.fieldAddr J Yci J) ?_))
 refine .sA (.load J sc_61 J) ?_
 refine .mA ?_
 refine .sA (.call J (.cons (.rfl' J) (.cons (.rfl' J) .nil)) (c_rErn p9.1.tiers (basV p9.1 b.next S) hD.1 ⟨hbr.1, hbm⟩)) ?_
 refine .aN ?_
 refine .seq (.drawG (fun k => (Nat.beq k 17) || (false)) (fun k => Nat.beq k 17) (fun k h => ZbO.2 (.inl h)) (by kernel_rfl) (by kernel_rfl) (by kernel_rfl) ?_)
 refine .step J J J (fun _ => AOp.fieldAddr J YaZ J) ?_
 refine .step J J J (fun _ => AOp.load J sc_9 J) ?_
 refine .step J J J (fun _ => AOp.moveD J J) ?_
 refine .step J J J (fun _ => AOp.fieldAddr J Ybh J) ?_
 refine .step J J J (fun _ => AOp.load J YaO J) ?_
 refine .step J J J (fun _ => AOp.moveD J J) ?_
 refine .step J J J (fun _ => AOp.indexAddr J et_37 J J k J hSd J) ?_
 refine .step J J J (fun _ => AOp.load J sc_3 J) ?_
 refine .step J J J (fun _ => AOp.sub64 J J J (by omega) (by omega)) ?_
 refine .step J J J (fun _ => AOp.fieldAddr J YaJ J) ?_
 refine .step J J J (fun _ => AOp.load J Ycn J) ?_
 refine .step J J J (fun _ => AOp.fieldAddr J YaZ J) ?_
 refine .step J J J (fun _ => AOp.load J sc_9 J) ?_
 refine .step J J J (fun _ => AOp.fieldAddr J YaB J) ?_
 refine .step J J J (fun _ => AOp.load J sc_3 J) ?_
 refine .step J J J (fun _ => AOp.call J (.cons (.rfl' J) (.cons (.rfl' J) (.cons (.rfl' J) .nil))) (c_heldOf b.held p9.1.name b.next)) ?_
 refine .step J J J (fun _ => AOp.build J bu_114 (.cons J J (.cons J J (.cons J J .nil))) J) ?_
 refine .eff J J J (.store J J sz_114 J (.head _) J J J (ZnB J)) ?_
 refine .nil ?_
 refine .seqJ (0 <= whD S b.next p9 /\ whD S b.next p9 <= 1000000000000) (Env.of [(3, .d (.fp b.ds)), (6, .ptr 201 0), (7, .iv (nowV S b.next p9.1)), (10, .d (.fp p9.1.ds))]) [(201, .cells [.d (.v (.string p9.1.name)), .iv (nowV S b.next p9.1 - p9.2), .iv (whD S b.next p9), .iv (cenH b.held (p9.1.name, b.next)), .d (.v (.int .i64 0))])] ?_ (fun hW => ?_)
 ·skip
  refine .sr (.sA (.fieldAddrP J fo_114_1 J) ?_)
  refine .sA (.loadP J sc_3 J (.head _) J) ?_
  refine .sA (.gtr J J J) (.nil ?_)
  refine .cT J (fun h2 => ?_) fun h2 => ?_
  ·have hp : 0 < nowV S b.next p9.1 - p9.2 := h2
   have hm1 : 0 <= (ernV p9.1.tiers (basV p9.1 b.next S) - p9.2) * p9.1.resv := Int.mul_nonneg (by omega) hD.2.2.2.1.1
   have hm2 : (ernV p9.1.tiers (basV p9.1 b.next S) - p9.2) * p9.1.resv <= 1000000000000 * 1000 := Int.mul_le_mul (by omega) hD.2.2.2.1.2 hD.2.2.2.1.1 (by omega)
   have HW : whD S b.next p9 = (ernV p9.1.tiers (basV p9.1 b.next S) - p9.2) * p9.1.resv / 1000 := if_pos hp
   have HWr : 0 <= whD S b.next p9 /\ whD S b.next p9 <= 1000000000000 := by rw [HW]; omega
   refine .region (.sA (.fieldAddrP J fo_114_1 J) ?_)
   refine .sA (.loadP J sc_3 J (.head _) J) (.sA (.fieldAddr J fo_63_7 J) (.sA (.load J sc_3 J) ?_))
   refine .sA (.mul64 J J J) ?_
   refine .sA (.quo64 J J J (by omega) (by omega) (by omega)) ?_
   refine .sA (.fieldAddrP J fo_114_2 J) ?_
   refine .store J J J sz_3 J (.head _) J J J (ZnB J) (.nil ?_)
   refine ⟨?_, Sub.less ⟨U, U, U, U, trivial⟩ (obs_hd (by rw [HW]; first | done | rfl))⟩
   exact HWr
  have hp : ¬ 0 < nowV S b.next p9.1 - p9.2 := h2
  have HW : whD S b.next p9 = 0 := if_neg hp
  have HWr : 0 <= whD S b.next p9 /\ whD S b.next p9 <= 1000000000000 := by rw [HW]; decide
  refine .skip ?_
  refine ⟨?_, Sub.less ⟨U, U, U, U, trivial⟩ (obs_hd (by rw [HW]; first | done | rfl))⟩
  exact HWr
 refine .seqJ (True) (Env.of [(3, .d (.fp b.ds)), (6, .ptr 201 0), (7, .iv (nowV S b.next p9.1)), (10, .d (.fp p9.1.ds))]) [(201, .cells [.d (.v (.string p9.1.name)), .iv (nowV S b.next p9.1 - p9.2), .iv (whD S b.next p9), .iv (cenH b.held (p9.1.name, b.next)), .iv (if b.next = p9.1.frm then p9.1.adv else 0)])] ?_ (fun _ => ?_)
 ·skip
  refine .sr (.sA (.fieldAddr J Ycj J) ?_)
  refine .sA (.load J sc_3 J) (.sA (.fieldAddr J YaB J) (.sA (.load J sc_3 J) ?_))
  refine .sA (.eql J J J) (.nil ?_)
  refine .cT J (fun h3 => ?_) fun h3 => ?_
  ·have HA : (if b.next = p9.1.frm then p9.1.adv else 0) = p9.1.adv := if_pos (h3).symm
   refine .region (.sA (.fieldAddr J fo_63_6 J) ?_)
   refine .sA (.load J sc_3 J) (.sA (.fieldAddrP J fo_114_4 J) ?_)
   refine .store J J J sz_3 J (.head _) J J J (ZnB J) (.nil ?_)
   refine ⟨?_, Sub.less ⟨U, U, U, U, trivial⟩ (obs_hd (by rw [HA]; first | done | rfl))⟩
   trivial
  have HA : (if b.next = p9.1.frm then p9.1.adv else 0) = 0 := if_neg (fun hh => h3 hh.symm)
  refine .skip ?_
  refine ⟨?_, Sub.less ⟨U, U, U, U, trivial⟩ (obs_hd (by rw [HA]; first | done | rfl))⟩
  trivial
 refine .seq (.draw (by kernel_rfl) (by kernel_rfl) ?_)
 refine .sA (.fieldAddr J YaJ J) (.sA (.load J Ycn J) (.sA (.fieldAddr J YaZ J) (.sA (.load J sc_9 J) (.sA (.fieldAddr J YaB J) (.sA (.load J sc_3 J) ?_)))))
 refine .sA (.fieldAddr J fo_63_8 J) (.sA (.load J sc_3 J) ?_)
 refine .sA (.add64 J J J) ?_
 refine .sA (.call J (.cons (.rfl' J) (.cons (.rfl' J) (.cons (.rfl' J) .nil))) (c_heldOf b.held p9.1.name (b.next + p9.1.hold))) (.sA (.fieldAddrP J fo_114_2 J) (.sA (.loadP J sc_3 J (.head _) J) ?_))
 refine .sA (.add64 J J J) ?_
 refine .sA (.assignD J J) ?_
 refine .nil ?_
 refine .seq (.sr (.mA ?_))
 refine .sA (.gtr J J J) (.nil ?_)
 refine .cT J (fun h4 => ?_) fun h4 => ?_
 ·have HF : dlF S b.next b.held p9 = 2 := HF0.trans (if_pos h4)
  have H2 : nwR S b.next b.held p9 = 0 := if_neg (by rw [HF]; decide)
  have H3 : cdR S b.next b.held p9 = 0 := if_neg (by rw [HF]; decide)
  rw [H2, H3, HF]
  refine .sr (.sA (.loadPU J Ycb J (.head _) J J) ?_)
  refine .store J J J sz_114 J (.head _) J J J (ZnB J) ?_
  refine .aA ?_
  refine .aA ?_
  refine .aN ?_
  refine .ret ?_
  refine ⟨RetR.agg J (.head _) Ycb J (.c0 (.c0 (.c0 (.c0 (.c0 .nil))))), RetD.eq J ?_, RetD.eq J ?_, RetD.eq J ?_, trivial⟩
  all_goals (first | rfl)
 have HF : dlF S b.next b.held p9 = 0 := HF0.trans (if_neg h4)
 have H2 : nwR S b.next b.held p9 = nowV S b.next p9.1 := if_pos HF
 have H3 : cdR S b.next b.held p9 = cenD S b.next b.held p9 := if_pos HF
 rw [H2, H3, HF]
 refine .skip (.sr (.sA (.loadPU J Ycb J (.head _) J J) ?_))
 refine .mA ?_
 refine .mA ?_
 refine .store J J J sz_114 J (.head _) J J J (ZnB J) ?_
 refine .aA ?_
 refine .aA ?_
 refine .aN ?_
 refine .ret ?_
 refine ⟨RetR.agg J (.head _) Ycb J (.c0 (.c0 (.c0 (.c0 (.c0 .nil))))), RetD.eq J ?_, RetD.eq J ?_, RetD.eq J ?_, trivial⟩
 all_goals (first | rfl)
open Go.Lib
def segC (next : Int) (H : List Hld) (p : Deal × Int) (c : Int) : List Hld := if 0 < c then addH (outH next H p) ⟨p.1.name, next + p.1.hold, c⟩ else outH next H p
theorem outH_y {next : Int} {H : List Hld} {p : Deal × Int} {k : Nat} (hk : k < H.length) (h1 : H[k].deal = p.1.name) (h2 : ¬ H[k].period = next) (h3 : ¬ H[k].period = next + p.1.hold) : outH next (H.take (k + 1)) p = outH next (H.take k) p ++ [H[k]] := by
 have hq : outQ next p H[k].key = true := by unfold outQ Hld.key; simp [h1, h2, h3]
 unfold outH
 rw [Ycd hk, List.filter_append, List.filter_cons, if_pos hq]; rfl
theorem outH_n {next : Int} {H : List Hld} {p : Deal × Int} {k : Nat} (hk : k < H.length) (h : ¬ (H[k].deal = p.1.name /\ ¬ H[k].period = next /\ ¬ H[k].period = next + p.1.hold)) : outH next (H.take (k + 1)) p = outH next (H.take k) p := by
 have hq : ¬ outQ next p H[k].key = true := fun hh => by
  unfold outQ Hld.key at hh
  simp only [ZbA, decide_eq_true_eq] at hh
  exact h hh
 unfold outH
 rw [Ycd hk, List.filter_append, List.filter_cons, if_neg hq]; simp
theorem outH_len (next : Int) (H : List Hld) (p : Deal × Int) : (outH next H p).length <= H.length := List.length_filter_le _ _
theorem outH_key {next : Int} {H : List Hld} {p : Deal × Int} : ∀ o ∈ outH next H p, o.key ≠ (p.1.name, next + p.1.hold) := fun o ho e => by
 have h := (List.mem_filter.1 ho).2
 rw [e] at h
 unfold outQ at h
 simp at h
theorem hLess_ltH {a b : Hld} : hLess a b = true ↔ ltH a.key b.key = true := by unfold hLess; rw [decide_eq_true_eq, hldCmp_lt]
theorem ins_out {O : List Hld} {x : Hld} {i : Nat} (hi : i <= O.length) (ha : ∀ o ∈ O.take i, hLess o x = true) (hs : i = O.length \/ ∃ h : i < O.length, hLess O[i] x = false) (hk : ∀ o ∈ O, o.key ≠ x.key) : addH O x = O.take i ++ [x] ++ O.drop i := by
 unfold addH
 rw [addO_ins (i := i) (by rw [HL_len]; exact hi) (fun o ho => by
  obtain ⟨j, hj, rfl⟩ := List.mem_take_iff_getElem.1 ho
  have hj2 : j < O.length := by have := HL_len O; omega
  have := hLess_ltH.1 (ha O[j] (List.mem_take_iff_getElem.2 ⟨j, by omega, rfl⟩))
  simpa [HL] using this) (by
  rcases hs with hs | ⟨h, hs⟩
  ·exact .inl (by rw [HL_len]; exact hs)
  ·refine .inr ⟨by rw [HL_len]; exact h, ?_, ?_⟩
   ·have : ltH O[i].key x.key = false := by
     cases hc : ltH O[i].key x.key with
     | false => rfl
     | true => rw [hLess_ltH.2 hc] at hs; cases hs
    simpa [HL] using this
   ·have := hk _ (ZgM h)
    simpa [HL] using this)]
 rw [ZmA, ZmA, List.map_take, List.map_drop, toH_HL]
 rfl
theorem take_less {O : List Hld} {x : Hld} {i : Nat} (h : i < O.length) (ha : ∀ o ∈ O.take i, hLess o x = true) (h1 : hLess O[i] x = true) : ∀ o ∈ O.take (i + 1), hLess o x = true := fun o ho => by
 rw [Ycd h, List.mem_append, ZmS] at ho
 rcases ho with ho | rfl
 ·exact ha o ho
 ·exact h1
def badR (next : Int) (g : Grp) (op : Int) (rs : List Rw) : Stm := ⟨next, g.name, rs, op, pdG g (numG op rs), [], clG g (numG op rs)⟩
theorem st_big {g : Grp} {n : Int} (h : 1000000000 < pdG g n) : stF g n = 2 := by
 unfold pdG at h
 unfold stF
 by_cases hp : payP g n
 ·rw [if_pos hp] at h
  rw [if_pos hp, if_pos h]
 ·rw [if_neg hp] at h; exact absurd h (by decide)
theorem st_out {g : Grp} {n : Int} (h1 : ¬ 1000000000 < pdG g n) (h : ¬ (-1000000000000 <= pdG g n + clG g n /\ pdG g n + clG g n <= 1000000000000)) : stF g n = 2 := by
 unfold pdG at h h1
 unfold clG at h
 unfold stF
 by_cases hp : payP g n
 ·rw [if_pos hp] at h h1
  rw [if_pos hp] at h
  have := hp.1
  omega
 ·rw [if_neg hp] at h h1
  rw [if_neg hp] at h
  rw [if_neg hp, if_neg (by omega)]
theorem st_pd {g : Grp} {n : Int} : pdG g n + clG g n = n := by unfold pdG clG; split <;> omega
theorem st_0 {g : Grp} {n : Int} (h : -1000000000000 <= pdG g n + clG g n /\ pdG g n + clG g n <= 1000000000000) (h0 : pdG g n = 0) : stF g n = 0 /\ ptG g n = [] := by
 have hp : ¬ payP g n := fun hp => by unfold pdG at h0; rw [if_pos hp] at h0; have := hp.1; omega
 rw [st_pd] at h
 exact ⟨(if_neg hp).trans (if_pos h), if_neg hp⟩
theorem st_n {g : Grp} {n : Int} (h : ¬ 1000000000 < pdG g n) (h0 : ¬ pdG g n = 0) : stF g n = Yau n (wtS g) /\ ptG g n = ptsG g n /\ pdG g n = n /\ clG g n = 0 := by
 have hp : payP g n := Classical.byContradiction fun hp => h0 (if_neg hp)
 have h1 : pdG g n = n := if_pos hp
 rw [h1] at h
 exact ⟨(if_pos hp).trans (if_neg h), if_pos hp, h1, if_pos hp⟩
theorem pts_bad {g : Grp} {n : Int} (h : ¬ Yau n (wtS g) = 0) : ptsG g n = [] := by unfold ptsG; rw [divI_bad h]; simp
theorem in3 {σ : Obs} {p q r : Nat × Ob} (h1 : p ∈ σ) (h2 : q ∈ σ) (h3 : r ∈ σ) : ∀ x ∈ [p, q, r], x ∈ σ := fun x hx => by
 simp only [List.mem_cons, List.not_mem_nil, or_false] at hx
 rcases hx with rfl | rfl | rfl
 ·exact h1
 ·exact h2
 ·exact h3
theorem c_rHold (b : Bks) (k : Nat) (c : Int) (p9 : Deal × Int) (hd : b.ctr.deals[k]? = some p9.1) (hh : 1 <= p9.1.hold /\ p9.1.hold <= 100) (hn : 0 <= b.next /\ b.next <= 2401) (hl : b.held.length <= 200000) : Yaq Tryz.prog 50 [.agg b.ds, .v (.int .i64 (k : Int)), .v (.int .i64 c)] (.sl ((segC b.next b.held p9 c).map Hld.ds)) := by
 refine Yah (n := 84) (ds' := [.sl ((segC b.next b.held p9 c).map Hld.ds)]) Tryz.func50 J (by kernel_rfl) J [6] J J ?_
 intro B w0 F0 fr
 have hDd : (b.ctr.deals.map Deal.ds)[k]? = some p9.1.ds := by rw [List.getElem?_map, hd]; rfl
 have hol := outH_len b.next b.held p9
 refine .sr (.sA (.box J J J) ?_)
 refine .aN ?_
 refine .sr (.sA (.fieldAddr J Yay J) ?_)
 refine .sA (.fieldAddr J YaE J) (.sA (.load J YbI J) ?_)
 refine .mA ?_
 refine .sA (.indexAddr J et_33 J J k J hDd J) (.sA (.loadAgg J ag_63 J J) ?_)
 refine .alloc 101 J J J J zt_63 J J J ?_
 refine .store J J J sz_63 J (.head _) J J J (ZnB J) ?_
 refine .freezeCells 7 (ds := p9.1.ds) J (.head _) (.nil ?_)
 refine .sr (.aN ?_)
 refine .seq (.sr (.sA (.fieldAddr J YaJ J) ?_))
 refine .sA (.load J Ycn J) (.sA (.lenSl J et_38.ht J) ?_)
 refine .mN ?_
 refine .block (.adopt 8 61 105 3 J J ?_)
 refine .loop (G := Nat) (fun j => Env.of [(22, .iv j), (20, .d (.sl (b.held.map Hld.ds))), (21, .iv (b.held.map Hld.ds).length), (2, .d (.v (.int .i64 c))), (3, .d (.fp b.ds)), (7, .d (.fp p9.1.ds)), (8, .own 61)]) (fun j => [(61, .row 105 3 ((outH b.next (b.held.take j) p9).map Hld.ds))]) (fun j => j <= b.held.length) (fun j => b.held.length - j) 0 (ZnZ _) (Sub.less ⟨U, U, U, U, U, U, U, trivial⟩ (Yaj J)) ?_
 intro j hk
 refine .sr (.sA (.lss J J J) (.nil ?_))
 refine .seq (.cT J (fun h1 => ?_) fun h1 => ?_)
 ·rw [ZlM] at h1
  have hlt : j < b.held.length := by omega
  have hoj := outH_len b.next (b.held.take j) p9
  rw [ZlT] at hoj
  refine .skip (.seq (.block (.sr (.sA (.indexAddr J et_38 J J j J (Yad hlt) J) ?_))))
  refine .sA (.loadAgg J Ybk J J) ?_
  refine .alloc 102 J J J J zt_105 J J J ?_
  refine .store J J J sz_105 J (.head _) J J J (ZnB J) ?_
  refine .freezeCells 10 (ds := b.held[j].ds) J (.head _) (.nil ?_)
  refine .sr (.sA (.fieldAddr J Ybn J) ?_)
  refine .sA (.load J sc_9 J) (.sA (.fieldAddr J YaZ J) (.sA (.load J sc_9 J) (.sA (.seql J J J) ?_)))
  refine .mA ?_
  refine .sT 31 J (fun g2 => ?_) fun g2 => ?_
  ·have g30 := g2
   refine .sG (.fieldAddr J Ybf J) ?_
   refine .sG (.load J sc_3 J) ?_
   refine .sG (.fieldAddr J YaB J) ?_
   refine .sG (.load J sc_3 J) ?_
   refine .sG (.neq J J J) ?_
   refine .sA (.pickT J J J) ?_
   refine .mA ?_
   refine .sT 38 J (fun g3 => ?_) fun g3 => ?_
   ·have g36 := g3
    refine .sG (.fieldAddr J Ybf J) ?_
    refine .sG (.load J sc_3 J) ?_
    refine .sG (.fieldAddr J YaB J) ?_
    refine .sG (.load J sc_3 J) ?_
    refine .sG (.fieldAddr J fo_63_8 J) ?_
    refine .sG (.load J sc_3 J) ?_
    refine .sG (.add64 J J J) ?_
    refine .sG (.neq J J J) ?_
    refine .sA (.pickT J J J) (.nil ?_)
    refine .cT J (fun h4 => ?_) fun h4 => ?_
    ·have HO := outH_y (next := b.next) (p := p9) hlt g30 g36 h4
     refine .region (.sA (.moveO J J) ?_)
     refine .sA (.loadAgg J Ybk J J) ?_
     refine .sA (.buildSlice J et_38 (.cons J J J .nil) J (by decide)) ?_
     -- append 51
     refine .append rfl rfl rfl rfl et_38 rfl (.head _) rfl (by simp [D.parts, Hld.ds]) (by simp; omega) (by simp; omega) ?_
     refine .sA (.assignO J J) (.nil ?_)
     refine .region (.sA (.add64 J J J) ?_)
     refine .mN ?_
     refine ⟨j + 1, (by omega), (by dsimp only; omega), Sub.less ⟨U, U, U, U, U, U, U, trivial⟩ (Yaj (by rw [HO]; first | done | (rw [ZmA]; rfl)))⟩
    have HO := outH_n (next := b.next) (p := p9) hlt (fun hh => h4 hh.2.2)
    refine .skip (.region (.sA (.add64 J J J) ?_))
    refine .mN ?_
    refine ⟨j + 1, (by omega), (by dsimp only; omega), Sub.less ⟨U, U, U, U, U, U, U, trivial⟩ (Yaj (by rw [HO]; first | done | (rw [ZmA]; rfl)))⟩
   have HO := outH_n (next := b.next) (p := p9) hlt (fun hh => g3 hh.2.1)
   refine .pA ?_
   refine .pA ?_
   refine .pA ?_
   refine .pA ?_
   refine .pA ?_
   refine .pA ?_
   refine .pA ?_
   refine .pA ?_
   refine .sA (.pickF J J J) (.nil ?_)
   refine .cond J (fun h => nomatch h) (fun _ => ?_)
   refine .skip (.region (.sA (.add64 J J J) ?_))
   refine .mN ?_
   refine ⟨j + 1, (by omega), (by dsimp only; omega), Sub.less ⟨U, U, U, U, U, U, U, trivial⟩ (Yaj (by rw [HO]; first | done | (rw [ZmA]; rfl)))⟩
  have HO := outH_n (next := b.next) (p := p9) hlt (fun hh => g2 hh.1)
  refine .pA ?_
  refine .pA ?_
  refine .pA ?_
  refine .pA ?_
  refine .pA ?_
  refine .sA (.pickF J J J) ?_
  refine .mA ?_
  refine .pA ?_
  refine .pA ?_
  refine .pA ?_
  refine .pA ?_
  refine .pA ?_
  refine .pA ?_
  refine .pA ?_
  refine .pA ?_
  refine .sA (.pickF J J J) (.nil ?_)
  refine .cond J (fun h => nomatch h) (fun _ => ?_)
  refine .skip (.region (.sA (.add64 J J J) ?_))
  refine .mN ?_
  refine ⟨j + 1, (by omega), (by dsimp only; omega), Sub.less ⟨U, U, U, U, U, U, U, trivial⟩ (Yaj (by rw [HO]; first | done | (rw [ZmA]; rfl)))⟩
 rw [ZlM] at h1
 obtain rfl : j = b.held.length := by omega
 rw [List.take_length]
 refine .exit (.seq (.sr (.mA ?_)))
 refine .sA (.gtr J J J) (.nil ?_)
 refine .cT J (fun h5 => ?_) fun h5 => ?_
 ·have HC : segC b.next b.held p9 c = addH (outH b.next b.held p9) (⟨p9.1.name, b.next + p9.1.hold, c⟩ : Hld) := if_pos h5
  rw [HC]
  refine .sr (.sA (.fieldAddr J YaZ J) ?_)
  refine .sA (.load J sc_9 J) (.sA (.fieldAddr J YaB J) (.sA (.load J sc_3 J) (.sA (.fieldAddr J fo_63_8 J) (.sA (.load J sc_3 J) ?_))))
  refine .sA (.add64 J J J) ?_
  refine .mA ?_
  refine .sA (.build J bu_105 (.cons J J (.cons J J (.cons J J .nil))) J) ?_
  refine .alloc 103 J J J J zt_105 J J J ?_
  refine .store J J J sz_105 J (.head _) J J J (ZnB J) ?_
  refine .freezeCells 11 (ds := (⟨p9.1.name, b.next + p9.1.hold, c⟩ : Hld).ds) J (.head _) (.nil ?_)
  refine .sr (.aN ?_)
  refine .seq (.block (.loop (G := Nat) (fun i => Env.of [(12, .iv i), (8, .own 61), (11, .d (.fp (⟨p9.1.name, b.next + p9.1.hold, c⟩ : Hld).ds))]) (fun i => [(61, .row 105 3 ((outH b.next b.held p9).map Hld.ds))]) (fun i => i <= (outH b.next b.held p9).length /\ ∀ o ∈ (outH b.next b.held p9).take i, hLess o (⟨p9.1.name, b.next + p9.1.hold, c⟩ : Hld) = true) (fun i => (outH b.next b.held p9).length - i) 0 ⟨ZnZ _, fun o h => by simp at h⟩ (Sub.less ⟨U, U, U, trivial⟩ (Yaj rfl)) ?_))
  intro i hi
  refine .seq (.seq (.draw (by kernel_rfl) (by kernel_rfl) ?_))
  refine .sA (.moveD J J) (.sA (.moveO J J) (.sA (.lenOwn J et_38.ht J (.head _)) (.sA (.lss J J J) (.sA (.moveD J J) ?_))))
  refine .sT 68 J (fun g6 => ?_) fun g6 => ?_
  ·rw [ZlM] at g6
   have hil : i < (outH b.next b.held p9).length := by omega
   refine .sG (.moveO J J) ?_
   refine .sG (.moveD J J) ?_
   refine .sG (.indexOwn J et_38 J J (.head _) i J (by rw [ZlM]; exact hil)) ?_
   refine .sG (.loadRowAgg J Ybk J (.head _) i J (Yad hil)) ?_
   refine .sG (.loadAgg J Ybk J J) ?_
   refine .sG (.call J (.cons (.rfl' J) (.cons (.rfl' J) .nil)) (c_hLess (outH b.next b.held p9)[i] (⟨p9.1.name, b.next + p9.1.hold, c⟩ : Hld))) ?_
   refine .sA (.pickT J J J) ?_
   refine .nil ?_
   refine .cond J (fun h7 => ?_) (fun h7 => ?_)
   ·skip
    have HT := take_less hil hi.2 h7
    refine .skip (.block (.region (.mA ?_)))
    refine .sA (.add64 J J J) ?_
    refine .aN ?_
    refine ⟨i + 1, ⟨by omega, HT⟩, (by dsimp only; omega), Sub.less ⟨U, U, U, trivial⟩ (Yaj rfl)⟩
   have HI := ins_out hi.1 hi.2 (.inr ⟨hil, by simpa using h7⟩) outH_key
   refine .exit (.region (.sA (.moveO J J) ?_))
   refine .mA ?_
   refine .sA (.loadAgg J Ybk J J) ?_
   refine .buildS 171 J J J J et_38 J J J J J ?_
   -- inserts into 61
   refine .insertK (id := 61) (idx := 171) (k := i) InsH.insT J J J J J (.tail _ (.head _)) J J (by rw [ZlM]; exact hi.1) J (.head _) (by decide) (by rw [ZlM]; omega) ?_
   refine .sA (.assignO J J) (.nil ?_)
   refine .sr (.sA (.moveO J J) ?_)
   refine .sA (.assignO J J) (.nil ?_)
   refine .ret ?_
   refine ⟨RetD.own J (.head _) ?_, trivial⟩
   all_goals (first | rfl | (rw [HI, ZmA, ZmA, List.map_take, List.map_drop]; rfl))
  rw [ZlM] at g6
  have HI := ins_out (x := (⟨p9.1.name, b.next + p9.1.hold, c⟩ : Hld)) hi.1 hi.2 (.inl (by omega)) outH_key
  refine .pA ?_
  refine .pA ?_
  refine .pA ?_
  refine .pA ?_
  refine .pA ?_
  refine .pA ?_
  refine .sA (.pickF J J J) ?_
  refine .nil ?_
  refine .cond J (fun h => nomatch h) (fun _ => ?_)
  refine .exit (.region (.sA (.moveO J J) ?_))
  refine .mA ?_
  refine .sA (.loadAgg J Ybk J J) ?_
  refine .buildS 171 J J J J et_38 J J J J J ?_
  -- inserts into 61
  refine .insertK (id := 61) (idx := 171) (k := i) InsH.insT J J J J J (.tail _ (.head _)) J J (by rw [ZlM]; exact hi.1) J (.head _) (by decide) (by rw [ZlM]; omega) ?_
  refine .sA (.assignO J J) (.nil ?_)
  refine .sr (.sA (.moveO J J) ?_)
  refine .sA (.assignO J J) (.nil ?_)
  refine .ret ?_
  refine ⟨RetD.own J (.head _) ?_, trivial⟩
  all_goals (first | rfl | (rw [HI, ZmA, ZmA, List.map_take, List.map_drop]; rfl))
 have HC : segC b.next b.held p9 c = (outH b.next b.held p9) := if_neg h5
 rw [HC]
 refine .skip (.sr (.sA (.moveO J J) ?_))
 refine .sA (.assignO J J) (.nil ?_)
 refine .ret ?_
 refine ⟨RetD.own J (.head _) ?_, trivial⟩
 all_goals (first | rfl | (rw [HI, ZmA, ZmA, List.map_take, List.map_drop]; rfl))
theorem c_rStm (b : Bks) (R : List Rw) (j : Nat) (g : Grp) (op : Int) (hg : b.ctr.groups[j]? = some g) (hB : b.bal[j]? = some op) (hRl : R.length = b.ctr.deals.length) (hdl : b.ctr.deals.length <= 40) (hR : ∀ r ∈ R, RwOk r) (hop : -1000000000000 <= op /\ op <= 1000000000000) (hcl : g.cut.length <= 20) : Yaq Tryz.prog 51 [.agg b.ds, .sl (R.map Rw.ds), .v (.int .i64 (j : Int))] (.tup [.agg (if stF g (numG op (Yai g.name (b.ctr.deals.zip R))) = 0 then stG b.next g op (Yai g.name (b.ctr.deals.zip R)) else badR b.next g op (Yai g.name (b.ctr.deals.zip R))).ds, .v (.int .i64 (stF g (numG op (Yai g.name (b.ctr.deals.zip R)))))]) := by
 refine acall_ofR (n := 151) (ds' := [.agg (if stF g (numG op (Yai g.name (b.ctr.deals.zip R))) = 0 then stG b.next g op (Yai g.name (b.ctr.deals.zip R)) else badR b.next g op (Yai g.name (b.ctr.deals.zip R))).ds, .v (.int .i64 (stF g (numG op (Yai g.name (b.ctr.deals.zip R)))))]) Tryz.func51 J (by kernel_rfl) J [.cell 6 59, .tmp 7] J J ?_
 intro B w0 F0 fr
 have hgd : (b.ctr.groups.map Grp.ds)[j]? = some g.ds := by rw [List.getElem?_map, hg]; rfl
 have hBd : (b.bal.map intD)[j]? = some (intD op) := by rw [List.getElem?_map, hB]; rfl
 have hZl : (b.ctr.deals.zip R).length = b.ctr.deals.length := by rw [List.length_zip, hRl, Nat.min_self]
 have hNr := num_rng (op := op) hop (Yai g.name (b.ctr.deals.zip R)) (fun r hr => by
  obtain ⟨p, hp, e⟩ := rowsG_mem hr
  exact e ▸ hR _ (zip_mem2 hp))
 have hNl := rowsG_len g.name (b.ctr.deals.zip R)
 refine .sr (.sA (.box J J J) ?_)
 refine .alloc 904 J J J J zt_59 J J J ?_
 refine .aN ?_
 refine .sr (.sA (.fieldAddr J Yay J) ?_)
 refine .sA (.fieldAddr J YaP J) (.sA (.load J Yce J) ?_)
 refine .mA ?_
 refine .sA (.indexAddr J et_34 J J j J hgd J) (.sA (.loadAgg J ag_128 J J) ?_)
 refine .alloc 102 J J J J zt_128 J J J ?_
 refine .store J J J sz_128 J (.head _) J J J (ZnB J) ?_
 refine .freezeCells 8 (ds := g.ds) J (.head _) (.nil ?_)
 refine .seq (.drawFresh 11 [⟨9, 901, .ptr 901 0, .cells [.d (.v (.int .i64 0)), .d (.v (.string ⟨#[]⟩)), .d (.v (.slice none 0 0)), .d (.v (.int .i64 0)), .d (.v (.int .i64 0)), .d (.v (.slice none 0 0)), .d (.v (.int .i64 0))]⟩] (FrOk.one rfl (by simp) rfl rfl rfl) (by kernel_rfl) (by kernel_rfl) (by kernel_rfl) (by kernel_rfl) ?_)
 refine .step J J J (.fieldAddr J YaB J) ?_
 refine .step J J J (.load J sc_3 J) ?_
 refine .step J J J (.fieldAddr J Ya1 J) ?_
 refine .step J J J (.load J sc_9 J) ?_
 refine .step J J J (.fieldAddr J Ybv J) ?_
 refine .step J J J (.load J YaO J) ?_
 refine .step J J J (.moveD J J) ?_
 refine .step J J J (.indexAddr J et_37 J J j J hBd J) ?_
 refine .step J J J (.load J sc_3 J) ?_
 refine .step J J J (.build J bu_59 (.cons J J (.cons J J (.cons J J .nil))) J) ?_
 refine .alloc _ (.head _) J J J J J zt_59 J J J J ?_
 refine .nil ⟨J, trivial⟩ ?_
 refine .store J J J sz_59 J (.head _) J J J (ZnB J) (.nil ?_)
 refine .sr (.sA (.fieldAddrP J fo_59_3 J) ?_)
 refine .sA (.loadP J sc_3 J (.head _) J) (.sA (.fieldAddrP J YbJ J) ?_)
 refine .store J J J sz_3 J (.head _) J J J (ZnB J) (.nil ?_)
 refine .seq (.seq (.adoptCell 902 114 5 901 2 (.head _) J J ?_))
 refine .region (.mA ?_)
 refine .sA (.lenSl J et_56.ht J) ?_
 refine .mN ?_
 refine .block (.loop (G := Nat) (fun k => Env.of [(40, .iv k), (38, .d (.sl (R.map Rw.ds))), (39, .iv (R.map Rw.ds).length), (3, .d (.fp b.ds)), (6, .ptr 904 0), (8, .d (.fp g.ds)), (9, .ptr 901 0)]) (fun k => [(902, .row 114 5 ((Yai g.name ((b.ctr.deals.zip R).take k)).map Rw.ds)), (901, .cells [.d (.v (.int .i64 b.next)), .d (.v (.string g.name)), .own 902, .d (.v (.int .i64 op)), .d (.v (.int .i64 0)), .d (.v (.slice none 0 0)), .d (.v (.int .i64 (numG op (Yai g.name ((b.ctr.deals.zip R).take k)))))]), (904, .cells [.d (.v (.int .i64 0)), .d (.v (.string ⟨#[]⟩)), .d (.v (.slice none 0 0)), .d (.v (.int .i64 0)), .d (.v (.int .i64 0)), .d (.v (.slice none 0 0)), .d (.v (.int .i64 0))])]) (fun k => k <= R.length) (fun k => R.length - k) 0 (ZnZ _) (Sub.less ⟨U, U, U, U, U, U, U, trivial⟩ (in3 (.head _) (.tail _ (.head _)) (.tail _ (.tail _ (.head _))))) ?_)
 intro k hk
 refine .sr (.sA (.lss J J J) (.nil ?_))
 refine .seq (.cT J (fun h1 => ?_) fun h1 => ?_)
 ·rw [ZlM] at h1
  have hlt : k < R.length := by omega
  have hkd : k < b.ctr.deals.length := by omega
  have hkz : k < (b.ctr.deals.zip R).length := by omega
  have hkr2 := rows_rng (nm := g.name) (l := b.ctr.deals) (k := k) hR
  have hnk := num_rng (op := op) hop (Yai g.name ((b.ctr.deals.zip R).take k)) hkr2
  have hkl := rowsG_len g.name ((b.ctr.deals.zip R).take k)
  rw [ZlT] at hkl
  have hrk := hR _ (ZgM hlt)
  have re := hrk.e
  have rw_ := hrk.w
  have rr := hrk.rel
  have ra := hrk.a
  have hzg : (b.ctr.deals.zip R)[k].1 = b.ctr.deals[k] := by rw [List.getElem_zip]
  have hzr : (b.ctr.deals.zip R)[k].2 = R[k] := by rw [List.getElem_zip]
  refine .skip (.seq (.block (.sr (.mA ?_))))
  refine .sA (.indexAddr J et_56 J J k J (Yad hlt) J) (.sA (.loadAgg J Ycb J J) ?_)
  refine .alloc 104 J J J J zt_114 J J J ?_
  refine .aA ?_
  refine .store J J J sz_114 J (.head _) J J J (ZnB J) ?_
  refine .freezeCells 11 (ds := R[k].ds) J (.head _) (.nil ?_)
  refine .seq (.draw (by kernel_rfl) (by kernel_rfl) ?_)
  refine .sA (.fieldAddr J Yay J) (.sA (.fieldAddr J YaE J) (.sA (.load J YbI J) (.sA (.moveD J J) ?_)))
  refine .sA (.indexAddr J et_33 J J k J (Yad (by omega)) J) ?_
  refine .sA (.fieldAddr J fo_63_1 J) (.sA (.load J sc_9 J) (.sA (.fieldAddr J Ya1 J) (.sA (.load J sc_9 J) (.sA (.seql J J J) ?_))))
  refine .nil ?_
  refine .cT J (fun h2 => ?_) fun h2 => ?_
  ·have HRG := rowsG_y (nm := g.name) hkz (by rw [hzg]; exact h2)
   rw [hzr] at HRG
   refine .sr (.sA (.fieldAddrP J fo_59_2 J) ?_)
   refine .sA (.loadP J sc_56 J (.tail _ (.head _)) J) (.sA (.loadAgg J Ycb J J) ?_)
   refine .sA (.buildSlice J et_56 (.cons J J J .nil) J (by decide)) ?_
   -- append 59
   refine .append rfl rfl rfl rfl et_56 rfl (.head _) rfl (by simp [D.parts, Rw.ds]) (by simp; omega) (by simp; omega) ?_
   refine .sA (.fieldAddrP J fo_59_2 J) ?_
   refine .storeS J J J sz_56 J (.tail _ (.head _)) J (.head _) (ZnB J) (.nil ?_)
   refine .region (.sA (.fieldAddrP J YbJ J) ?_)
   refine .sA (.loadP J sc_3 J (.tail _ (.head _)) J) (.sA (.fieldAddr J fo_114_1 J) (.sA (.load J sc_3 J) (.sA (.fieldAddr J fo_114_2 J) (.sA (.load J sc_3 J) ?_))))
   refine .sA (.sub64 J J J) ?_
   refine .sA (.fieldAddr J fo_114_3 J) (.sA (.load J sc_3 J) ?_)
   refine .sA (.add64 J J J) ?_
   refine .sA (.fieldAddr J fo_114_4 J) (.sA (.load J sc_3 J) ?_)
   refine .sA (.sub64 J J J) ?_
   refine .sA (.add64 J J J) ?_
   refine .sA (.fieldAddrP J YbJ J) ?_
   refine .store J J J sz_3 J (.tail _ (.head _)) J J J (ZnB J) (.nil ?_)
   refine .region (.sA (.add64 J J J) ?_)
   refine .mN ?_
   refine ⟨k + 1, (by omega), (by dsimp only; omega), Sub.less ⟨U, U, U, U, U, U, U, trivial⟩ (in3 (Yac (.head _) (by rw [HRG, ZmA]; first | done | rfl)) (Yac (.tail _ (.head _)) (by rw [HRG, num_snoc]; first | done | rfl)) (.tail _ (.tail _ (.head _))))⟩
  have HRG := rowsG_n (nm := g.name) hkz (by rw [hzg]; exact h2)
  refine .skip (.region (.sA (.add64 J J J) ?_))
  refine .mN ?_
  refine ⟨k + 1, (by omega), (by dsimp only; omega), Sub.less ⟨U, U, U, U, U, U, U, trivial⟩ (in3 (Yac (.head _) (by rw [HRG]; first | done | rfl)) (Yac (.tail _ (.head _)) (by rw [HRG]; first | done | rfl)) (.tail _ (.tail _ (.head _))))⟩
 rw [ZlM] at h1
 obtain rfl : k = R.length := by omega
 rw [hRl, <- hZl, List.take_length]
 refine .exit (.seqJ (True) (Env.of [(3, .d (.fp b.ds)), (6, .ptr 904 0), (8, .d (.fp g.ds)), (9, .ptr 901 0)]) [(901, .cells [.d (.v (.int .i64 b.next)), .d (.v (.string g.name)), .d (.sl ((Yai g.name (b.ctr.deals.zip R)).map Rw.ds)), .d (.v (.int .i64 op)), .d (.v (.int .i64 (pdG g (numG op (Yai g.name (b.ctr.deals.zip R)))))), .d (.v (.slice none 0 0)), .d (.v (.int .i64 (clG g (numG op (Yai g.name (b.ctr.deals.zip R))))))]), (904, .cells [.d (.v (.int .i64 0)), .d (.v (.string ⟨#[]⟩)), .d (.v (.slice none 0 0)), .d (.v (.int .i64 0)), .d (.v (.int .i64 0)), .d (.v (.slice none 0 0)), .d (.v (.int .i64 0))])] ?_ (fun _ => ?_))
 ·skip
  refine .seq (.freezeIn 901 2 J (.head _) (.head _) ?_)
  refine .region (.sA (.fieldAddrP J YbJ J) ?_)
  refine .sA (.loadP J sc_3 J (.head _) J) (.sA (.gtr J J J) ?_)
  refine .mA ?_
  refine .sT 80 J (fun g3 => ?_) fun g3 => ?_
  ·have hp0 := g3
   refine .sG (.fieldAddrP J YbJ J) ?_
   refine .sG (.loadP J sc_3 J (.head _) J) ?_
   refine .sG (.fieldAddr J fo_128_1 J) ?_
   refine .sG (.load J sc_3 J) ?_
   refine .sG (.geq J J J) ?_
   refine .sA (.pickT J J J) (.nil ?_)
   refine .cT J (fun h4 => ?_) fun h4 => ?_
   ·have HPP : payP g (numG op (Yai g.name (b.ctr.deals.zip R))) := ⟨hp0, h4⟩
    have HPD : (pdG g (numG op (Yai g.name (b.ctr.deals.zip R)))) = (numG op (Yai g.name (b.ctr.deals.zip R))) := if_pos HPP
    have HCL : (clG g (numG op (Yai g.name (b.ctr.deals.zip R)))) = 0 := if_pos HPP
    refine .sr (.sA (.fieldAddrP J YbJ J) ?_)
    refine .sA (.loadP J sc_3 J (.head _) J) (.sA (.fieldAddrP J fo_59_4 J) ?_)
    refine .store J J J sz_3 J (.head _) J J J (ZnB J) (.nil ?_)
    refine .region (.sA (.fieldAddrP J YbJ J) ?_)
    refine .store J J J sz_3 J (.head _) J J J (ZnB J) (.nil ?_)
    refine ⟨?_, Sub.less ⟨U, U, U, U, trivial⟩ (in2 (Yac (.head _) (by rw [HPD, HCL]; first | done | rfl)) (.tail _ (.head _)))⟩
    trivial
   have HNP : ¬ payP g (numG op (Yai g.name (b.ctr.deals.zip R))) := fun hh => h4 hh.2
   have HPD : (pdG g (numG op (Yai g.name (b.ctr.deals.zip R)))) = 0 := if_neg HNP
   have HCL : (clG g (numG op (Yai g.name (b.ctr.deals.zip R)))) = (numG op (Yai g.name (b.ctr.deals.zip R))) := if_neg HNP
   refine .skip ?_
   refine ⟨?_, Sub.less ⟨U, U, U, U, trivial⟩ (in2 (Yac (.head _) (by rw [HPD, HCL]; first | done | rfl)) (.tail _ (.head _)))⟩
   trivial
  have HNP : ¬ payP g (numG op (Yai g.name (b.ctr.deals.zip R))) := fun hh => g3 hh.1
  have HPD : (pdG g (numG op (Yai g.name (b.ctr.deals.zip R)))) = 0 := if_neg HNP
  have HCL : (clG g (numG op (Yai g.name (b.ctr.deals.zip R)))) = (numG op (Yai g.name (b.ctr.deals.zip R))) := if_neg HNP
  refine .pA ?_
  refine .pA ?_
  refine .pA ?_
  refine .pA ?_
  refine .pA ?_
  refine .sA (.pickF J J J) (.nil ?_)
  refine .cond J (fun h => nomatch h) (fun _ => ?_)
  refine .skip ?_
  refine ⟨?_, Sub.less ⟨U, U, U, U, trivial⟩ (in2 (Yac (.head _) (by rw [HPD, HCL]; first | done | rfl)) (.tail _ (.head _)))⟩
  trivial
 refine .seq (.sr (.sA (.fieldAddrP J fo_59_4 J) ?_))
 refine .sA (.loadP J sc_3 J (.head _) J) (.sA (.gtr J J J) ?_)
 refine .mA ?_
 refine .sT 94 J (fun g5 => ?_) fun g5 => ?_
 ·have HF := st_big g5
  rw [HF, if_neg two_ne]
  refine .pA ?_
  refine .pA ?_
  refine .pA ?_
  refine .pA ?_
  refine .pA ?_
  refine .pA ?_
  refine .pA ?_
  refine .sA (.pickT J J J) (.nil ?_)
  refine .cond J (fun _ => ?_) (fun h => nomatch h)
  refine .sr (.sA (.loadPU J ag_59 J (.head _) J J) ?_)
  refine .store J J J sz_59 J (.tail _ (.head _)) J J J (ZnB J) ?_
  refine .aN ?_
  refine .ret ?_
  refine ⟨RetR.agg J (.tail _ (.head _)) ag_59 J (.c0 (.c0 (.c0 (.c0 (.c0 (.c0 (.c0 .nil))))))), RetD.eq J ?_, trivial⟩
  all_goals (first | rfl)
 have h94 := g5
 have hpc : (pdG g (numG op (Yai g.name (b.ctr.deals.zip R)))) + (clG g (numG op (Yai g.name (b.ctr.deals.zip R)))) = (numG op (Yai g.name (b.ctr.deals.zip R))) := st_pd
 have hpr : 0 <= (pdG g (numG op (Yai g.name (b.ctr.deals.zip R)))) := by unfold pdG; split; (rename_i hp; have := hp.1; omega); exact Int.le_refl _
 refine .sG (.fieldAddrP J fo_59_4 J) ?_
 refine .sG (.loadP J sc_3 J (.head _) J) ?_
 refine .sG (.fieldAddrP J YbJ J) ?_
 refine .sG (.loadP J sc_3 J (.head _) J) ?_
 refine .sG (.add64 J J J) ?_
 refine .sG (.call J (.cons (.rfl' J) (.cons (.rfl' J) (.cons (.rfl' J) .nil))) (Ybr _ _ _)) ?_
 refine .sG (.not J J) ?_
 refine .sA (.pickF J J J) (.nil ?_)
 refine .cN J (fun h6 => ?_) fun h6 => ?_
 ·have HF := st_out h94 h6
  rw [HF, if_neg two_ne]
  refine .sr (.sA (.loadPU J ag_59 J (.head _) J J) ?_)
  refine .store J J J sz_59 J (.tail _ (.head _)) J J J (ZnB J) ?_
  refine .aN ?_
  refine .ret ?_
  refine ⟨RetR.agg J (.tail _ (.head _)) ag_59 J (.c0 (.c0 (.c0 (.c0 (.c0 (.c0 (.c0 .nil))))))), RetD.eq J ?_, trivial⟩
  all_goals (first | rfl)
 have hin := h6
 refine .skip (.seq (.sr (.sA (.fieldAddrP J fo_59_4 J) ?_)))
 refine .sA (.loadP J sc_3 J (.head _) J) ?_
 refine .sA (.eql J J J) (.nil ?_)
 refine .cT J (fun h7 => ?_) fun h7 => ?_
 ·obtain ⟨HF, HPT⟩ := st_0 hin h7
  have HSG : stG b.next g op (Yai g.name (b.ctr.deals.zip R)) = badR b.next g op (Yai g.name (b.ctr.deals.zip R)) := by unfold stG badR; rw [HPT]
  rw [HF, if_pos rfl, HSG]
  refine .sr (.sA (.loadPU J ag_59 J (.head _) J J) ?_)
  refine .store J J J sz_59 J (.tail _ (.head _)) J J J (ZnB J) ?_
  refine .aN ?_
  refine .ret ?_
  refine ⟨RetR.agg J (.tail _ (.head _)) ag_59 J (.c0 (.c0 (.c0 (.c0 (.c0 (.c0 (.c0 .nil))))))), RetD.eq J ?_, trivial⟩
  all_goals (first | rfl)
 obtain ⟨HQ1, HQ2, HQ3, HQ4⟩ := st_n h94 h7
 have hwl : (wtS g).length = g.cut.length := ZlM ..
 refine .skip (.sr (.aN ?_))
 refine .seq (.sr (.sA (.fieldAddr J YaT J) ?_))
 refine .sA (.load J YbV J) (.sA (.lenSl J et_126.ht J) ?_)
 refine .mN ?_
 refine .block (.adopt 12 961 3 1 J J ?_)
 refine .loop (G := Nat) (fun k => Env.of [(111, .iv k), (109, .d (.sl (g.cut.map Stk.ds))), (110, .iv (g.cut.map Stk.ds).length), (12, .own 961), (3, .d (.fp b.ds)), (6, .ptr 904 0), (8, .d (.fp g.ds)), (9, .ptr 901 0)]) (fun k => [(961, .row 3 1 (((wtS g).take k).map intD)), (901, .cells [.d (.v (.int .i64 b.next)), .d (.v (.string g.name)), .d (.sl ((Yai g.name (b.ctr.deals.zip R)).map Rw.ds)), .d (.v (.int .i64 op)), .d (.v (.int .i64 (pdG g (numG op (Yai g.name (b.ctr.deals.zip R)))))), .d (.v (.slice none 0 0)), .d (.v (.int .i64 (clG g (numG op (Yai g.name (b.ctr.deals.zip R))))))]), (904, .cells [.d (.v (.int .i64 0)), .d (.v (.string ⟨#[]⟩)), .d (.v (.slice none 0 0)), .d (.v (.int .i64 0)), .d (.v (.int .i64 0)), .d (.v (.slice none 0 0)), .d (.v (.int .i64 0))])]) (fun k => k <= g.cut.length) (fun k => g.cut.length - k) 0 (ZnZ _) (Sub.less ⟨U, U, U, U, U, U, U, U, trivial⟩ (in3 (.head _) (.tail _ (.head _)) (.tail _ (.tail _ (.head _))))) ?_
 intro k hk
 refine .sr (.sA (.lss J J J) (.nil ?_))
 refine .seq (.cT J (fun h8 => ?_) fun h8 => ?_)
 ·rw [ZlM] at h8
  have hlt : k < g.cut.length := by omega
  refine .skip (.seq (.block (.sr (.sA (.indexAddr J et_126 J J k J (Yad hlt) J) ?_))))
  refine .sA (.loadAgg J ag_131 J J) ?_
  refine .alloc 105 J J J J zt_131 J J J ?_
  refine .store J J J sz_131 J (.head _) J J J (ZnB J) ?_
  refine .freezeCells 14 (ds := g.cut[k].ds) J (.head _) (.nil ?_)
  refine .region (.sA (.moveO J J) ?_)
  refine .sA (.fieldAddr J fo_131_1 J) (.sA (.load J sc_3 J) ?_)
  refine .sA (.buildSlice J et_37 (.cons J J J .nil) J (by decide)) ?_
  -- append 119
  refine .append rfl rfl rfl rfl et_37 rfl (.head _) rfl (by simp [D.parts, Rw.ds]) (by simp; omega) (by simp; omega) ?_
  refine .sA (.assignO J J) (.nil ?_)
  refine .region (.sA (.add64 J J J) ?_)
  refine .mN ?_
  refine ⟨k + 1, (by omega), (by dsimp only; omega), Sub.less ⟨U, U, U, U, U, U, U, U, trivial⟩ (in3 (Yac (.head _) (by rw [Ycd (l := wtS g) (by rw [hwl]; exact hlt), ZmA]; simp [wtS, intD]; first | done | rfl)) (.tail _ (.head _)) (.tail _ (.tail _ (.head _))))⟩
 rw [ZlM] at h8
 obtain rfl : k = g.cut.length := by omega
 rw [<- hwl, List.take_length]
 refine .exit (.sr (.sA (.fieldAddrP J fo_59_4 J) ?_))
 refine .freeze 12 J (.head _) ?_
 refine .sA (.loadP J sc_3 J (.head _) J) ?_
 refine .mA ?_
 refine .sA (.call J (.cons (.rfl' J) (.cons (.rfl' J) .nil)) (c_rDiv (pdG g (numG op (Yai g.name (b.ctr.deals.zip R)))) (wtS g))) ?_
 rw [HQ3, divR_I]
 refine .mA ?_
 refine .sA (.extract J J J) (.sA (.extract J J J) ?_)
 refine .aA ?_
 refine .aN ?_
 refine .seq (.seq (.adoptCell 903 135 2 901 5 (.head _) J J ?_))
 refine .region (.mA ?_)
 refine .sA (.lenSl J et_37.ht J) ?_
 refine .mN ?_
 refine .block (.loop (G := Nat) (fun k => Env.of [(130, .iv k), (128, .d (.sl ((divI (numG op (Yai g.name (b.ctr.deals.zip R))) (wtS g)).map intD))), (129, .d (.v (.int .i64 (((divI (numG op (Yai g.name (b.ctr.deals.zip R))) (wtS g)).map intD).length : Int)))), (16, .d (.v (.int .i64 (Yau (numG op (Yai g.name (b.ctr.deals.zip R))) (wtS g))))), (3, .d (.fp b.ds)), (6, .ptr 904 0), (8, .d (.fp g.ds)), (9, .ptr 901 0)]) (fun k => [(903, .row 135 2 (((ptsG g (numG op (Yai g.name (b.ctr.deals.zip R)))).take k).map Pd.ds)), (901, .cells [.d (.v (.int .i64 b.next)), .d (.v (.string g.name)), .d (.sl ((Yai g.name (b.ctr.deals.zip R)).map Rw.ds)), .d (.v (.int .i64 op)), .iv (numG op (Yai g.name (b.ctr.deals.zip R))), .own 903, .d (.v (.int .i64 (clG g (numG op (Yai g.name (b.ctr.deals.zip R))))))]), (904, .cells [.d (.v (.int .i64 0)), .d (.v (.string ⟨#[]⟩)), .d (.v (.slice none 0 0)), .d (.v (.int .i64 0)), .d (.v (.int .i64 0)), .d (.v (.slice none 0 0)), .d (.v (.int .i64 0))])]) (fun k => k <= (divI (numG op (Yai g.name (b.ctr.deals.zip R))) (wtS g)).length) (fun k => (divI (numG op (Yai g.name (b.ctr.deals.zip R))) (wtS g)).length - k) 0 (ZnZ _) (Sub.less ⟨U, U, U, U, U, U, U, U, trivial⟩ (in3 (.head _) (.tail _ (.head _)) (.tail _ (.tail _ (.head _))))) ?_)
 intro k hk
 refine .sr (.sA (.lss J J J) (.nil ?_))
 refine .seq (.cT J (fun h9 => ?_) fun h9 => ?_)
 ·rw [ZlM] at h9
  have hlt : k < (divI (numG op (Yai g.name (b.ctr.deals.zip R))) (wtS g)).length := by omega
  have hkc : k < g.cut.length := by
   by_cases hdf : Yau (numG op (Yai g.name (b.ctr.deals.zip R))) (wtS g) = 0
   ·rw [divI_len hdf, hwl] at hlt; exact hlt
   rw [divI_bad hdf] at hlt; exact absurd hlt (Nat.not_lt_zero _)
  have hpk : k < (ptsG g (numG op (Yai g.name (b.ctr.deals.zip R)))).length := by unfold ptsG; rw [List.length_zipWith]; omega
  have HPK := Ycd hpk
  have HPE := ptsG_at hpk hkc hlt
  refine .skip (.seq (.block (.sr (.mA ?_))))
  refine .sA (.indexAddr J et_37 J J k J (Yad hlt) J) (.sA (.load J sc_3 J) ?_)
  refine .aA ?_
  refine .aN ?_
  refine .drawTail 11 (by kernel_rfl) (by kernel_rfl) (by kernel_rfl) ?_
  refine .sA (.fieldAddrP J fo_59_5 J) (.sA (.loadP J sc_57 J (.tail _ (.head _)) J) (.sA (.fieldAddr J YaT J) (.sA (.load J YbV J) (.sA (.moveD J J) (.sA (.indexAddr J et_126 J J k J (Yad hkc) J) ?_)))))
  refine .sA (.fieldAddr J Yb9 J) (.sA (.load J sc_9 J) (.sA (.moveD J J) (.sA (.build J bu_135 (.cons J J (.cons J J .nil)) J) ?_)))
  refine .sA (.buildSlice J et_57 (.cons J J J .nil) J (by decide)) ?_
  refine .nil ?_
  -- append 146
  refine .append rfl rfl rfl rfl et_57 rfl (.head _) rfl (by simp [D.parts, Rw.ds]) (by simp; omega) (by simp; omega) ?_
  refine .sA (.fieldAddrP J fo_59_5 J) ?_
  refine .storeS J J J sz_57 J (.tail _ (.head _)) J (.head _) (ZnB J) (.nil ?_)
  refine .region (.sA (.add64 J J J) ?_)
  refine .mN ?_
  refine ⟨k + 1, (by omega), (by dsimp only; omega), Sub.less ⟨U, U, U, U, U, U, U, U, trivial⟩ (in3 (Yac (.head _) (by rw [HPK, HPE, ZmA]; rfl)) (.tail _ (.head _)) (.tail _ (.tail _ (.head _))))⟩
 rw [ZlM] at h9
 obtain rfl : k = (divI (numG op (Yai g.name (b.ctr.deals.zip R))) (wtS g)).length := by omega
 have hpl : (ptsG g (numG op (Yai g.name (b.ctr.deals.zip R)))).length <= (divI (numG op (Yai g.name (b.ctr.deals.zip R))) (wtS g)).length := by unfold ptsG; rw [List.length_zipWith]; exact Nat.min_le_right _ _
 rw [List.take_of_length_le hpl]
 have HRES : (if stF g (numG op (Yai g.name (b.ctr.deals.zip R))) = 0 then stG b.next g op (Yai g.name (b.ctr.deals.zip R)) else badR b.next g op (Yai g.name (b.ctr.deals.zip R))) = ⟨b.next, g.name, (Yai g.name (b.ctr.deals.zip R)), op, (numG op (Yai g.name (b.ctr.deals.zip R))), ptsG g (numG op (Yai g.name (b.ctr.deals.zip R))), (clG g (numG op (Yai g.name (b.ctr.deals.zip R))))⟩ := by
  by_cases hdf : Yau (numG op (Yai g.name (b.ctr.deals.zip R))) (wtS g) = 0
  ·rw [HQ1, if_pos hdf]; unfold stG; rw [HQ2, HQ3]
  rw [HQ1, if_neg hdf]; unfold badR; rw [pts_bad hdf, HQ3]
 rw [HRES, HQ1]
 refine .exit (.seq (.freezeIn 901 5 J (.head _) (.head _) ?_))
 refine .region (.sA (.loadPU J ag_59 J (.head _) J J) ?_)
 refine .mA ?_
 refine .store J J J sz_59 J (.tail _ (.head _)) J J J (ZnB J) ?_
 refine .aN ?_
 refine .ret ?_
 refine ⟨RetR.agg J (.tail _ (.head _)) ag_59 J (.c0 (.c0 (.c0 (.c0 (.c0 (.c0 (.c0 .nil))))))), RetD.eq J ?_, trivial⟩
 all_goals (first | rfl)
theorem AOps.appendN {cx : Cx} {ops : Array Oper} {o : Oper} {rest : List Oper} {e : Env} {σ : Obs} {Q : Post} {s x : Operand} {t ee size bytes id dst : Nat} {z : Value} {els els2 : List (List D)} (id2 : Nat) (hg : o.guard = none)
 (ho : o.op = .call { callee := .builtin .append, args := #[s, x], argTypes := #[t, t] }) (hd : o.dst = some dst) (hdn' : Nat.blt dst cx.N = true) (T : ElemTy cx.P t ee size bytes z) (hs : e.ev s = .own id) (hm : (id, Ob.row ee size els) ∈ σ)
 (hx : e.ev x = .d (.sl els2)) (hsz : ∀ y ∈ els2, y.length = size) (hb : (els.length + els2.length) * bytes <= 140737488355328) (hn : els.length + els2.length <= 9223372036854775807)
 (hid : Obs.fresh id2 σ = true) (k : AOps cx ops rest ((e.kill id2).put (some dst) (.own id2)) ((id2, .row ee size (els ++ els2)) :: Obs.kill id2 (Obs.del id σ)) Q) (hfx : cx.free id2 = true := by rfl) : AOps cx ops (o :: rest) e σ Q := by
 intro a w ⟨F, ρ, hr⟩
 have hdn : dst < cx.N := by simpa [Nat.blt_eq] using hdn'
 have h1 := YaC (e := e) (x := s) (a := a) (fun t _ => hr.env t)
 have h2 := YaC (e := e) (x := x) (a := a) (fun t _ => hr.env t)
 rw [hs] at h1
 rw [hx] at h2
 obtain ⟨xs, hown, hlen, hrep, hnF⟩ := hr.obs.ok _ hm
 dsimp only at hown hnF
 have hv : a.eval s = ρ id := by generalize a.eval s = v at h1; cases h1; rfl
 -- the source, as a slice of cells
 obtain ⟨ys, hsl, hys⟩ : ∃ ys : Nat -> Nat -> Value, Sl w size (a.eval x) els2.length (flat ys els2.length size) /\ ∀ i (h : i < els2.length) j (h' : j < els2[i].length), (ys i j).oneCell' = true /\ Rep F w (ys i j) els2[i][j] := by
  rcases YbD (Yao h2) with ⟨h3, h4⟩ | ⟨ad, cap, size', vs, h3, hc, hm', hF', hs', hcell, hone, hrep'⟩
  ·subst h4
   exact ⟨fun _ _ => undef, by rw [h3]; exact Sl.nil _ _, fun i hi => by simp at hi⟩
  ·refine ⟨vs, ⟨Yal _ _ _, .inr ⟨ad, cap, h3, hc, hm', ?_⟩⟩, fun i hi j hj => ?_⟩
   ·intro q hq
    rw [Yal] at hq
    have hs0 : 0 < size := T.hs
    have e1 : q = (q / size) * size + q % size := by rw [Nat.mul_comm]; exact (Nat.div_add_mod q size).symm
    have hlt1 : q / size < els2.length := Nat.div_lt_of_lt_mul (by rw [Nat.mul_comm]; exact hq)
    have hlt2 : q % size < size := Nat.mod_lt _ hs0
    have hss : size' = size := by rw [<- hs' (q / size) hlt1]; exact hsz _ (ZgM hlt1)
    subst hss
    have h5 := hcell (q / size') (q % size') hlt1 hlt2
    rw [<- e1] at h5
    rw [h5]
    have h6 := YaK vs size' els2.length (q / size') (q % size') hlt1 hlt2
    rw [<- e1] at h6
    have h7 : (flat vs els2.length size')[q]? = some (vs (q / size') (q % size')) := h6
    rw [ZgE (by rw [Yal]; exact hq)] at h7
    rw [Option.some.inj h7]
   ·have hss : size' = size := by rw [<- hs' i hi]; exact hsz _ (ZgM hi)
    exact ⟨hone i j hi (by rw [<- hs' i hi]; exact hj), hrep' i hi j hj⟩
 refine Ya4 (B := cx.B) T s x hg ho hown hv J hsl ?_ hb hn hr.hB ?_
 ·intro u hu
  obtain ⟨q, hq, rfl⟩ := List.getElem_of_mem hu
  rw [Yal] at hq
  have hs0 : 0 < size := T.hs
  have e1 : q = (q / size) * size + q % size := by rw [Nat.mul_comm]; exact (Nat.div_add_mod q size).symm
  have hlt1 : q / size < els2.length := Nat.div_lt_of_lt_mul (by rw [Nat.mul_comm]; exact hq)
  have hlt2 : q % size < size := Nat.mod_lt _ hs0
  have h6 := YaK ys size els2.length (q / size) (q % size) hlt1 hlt2
  rw [<- e1] at h6
  have h7 : (flat ys els2.length size)[q]? = some (ys (q / size) (q % size)) := h6
  rw [ZgE (by rw [Yal]; exact hq)] at h7
  rw [Option.some.inj h7]
  exact (hys _ hlt1 _ (by rw [hsz _ (ZgM hlt1)]; exact hlt2)).1
 ·intro v' w' hown' hgr hat
  rw [hd]
  refine k _ _ ⟨F, fun j => if j = id2 then v' else ρ j, ?_⟩
  have hnewb : ∀ g, blk v' = some g -> (ρ id).ownBlock = some g \/ w.heap.size <= g := by
   intro g hg
   have hg' : v'.ownBlock = some g := by
    rcases hown'.2 with ⟨h3, _⟩ | ⟨g', cap, cur, h3, _⟩
    ·rw [h3] at hg; simp [blk] at hg
    ·rw [h3] at hg ⊢; simpa [Value.ownBlock, blk] using hg
   rcases hat with h3 | ⟨g2, h3, h4⟩
   ·exact .inl (by rw [<- h3]; exact hg')
   ·rw [h3] at hg'
    exact .inr (by have := Option.some.inj hg'; omega)
  have hob' : ∀ g, (ρ id).ownBlock = some g -> blk (ρ id) = some g := by
   intro g hg
   rcases hown.2 with ⟨h3, _⟩ | ⟨g', cap, cur, h3, _⟩
   ·rw [h3] at hg; simp [Value.ownBlock] at hg
   ·rw [h3] at hg ⊢; simpa [Value.ownBlock, blk] using hg
  have hturn : Turn w w' (ρ id).ownBlock := ⟨hgr.os, hgr.tape, hgr.output, hgr.size, hgr.block⟩
  have hsub : ∀ p ∈ Obs.del id σ, p ∈ σ := fun p hp => (Obs.mem_del hp).1
  have hr2 : R0 cx F ρ e (Obs.del id σ) a w := ⟨hr.size, hr.defers, hr.lt, hr.base, hr.new, hr.below, hr.hB, hr.env, hr.obs.sub hsub, hr.up, fun p hp => hr.kown p (hsub p hp), hr.fixed⟩
  have h9 := hr2.turn (ρ' := fun j => if j = id2 then v' else ρ j) (id := id2) (ob := .row ee size (els ++ els2)) (row := (ρ id).ownBlock) (w' := w') (F' := F) (fun j hj => by simp [hj]) hturn hfx
   (fun g hg => ⟨hr.kown _ hm g (hob' g hg), hnF g (hob' g hg), fun p hp hpi => fun he => hr.obs.apart p (Obs.mem_del hp).1 _ hm (Obs.mem_del hp).2 g he (hob' g hg)⟩) (fun b hb => hb) (fun b hb => .inl hb)
   (fun b hb => Nat.lt_of_lt_of_le (hr.lt b hb) hgr.size)
   (by
    refine ⟨fun i j => if i < els.length then xs i j else ys (i - els.length) j, ?_, fun i hi => ?_, fun i hi j hj => ?_, fun g hg hf => ?_⟩
    ·dsimp only; rw [if_pos rfl, ZlA]
     have h3 := Ya7 xs ys els.length els2.length size
     unfold flat at h3
     rw [<- h3]
     exact hown'
    ·by_cases hi' : i < els.length
     ·rw [ZgL hi']; exact hlen i hi'
     ·rw [ZgR (by omega)]
      exact hsz _ (ZgM _)
    ·have keep : ∀ {u : Value} {d : D}, Rep F w u d -> Rep F w' u d := fun h => h.mono (fun b hb => hb) fun b hb => hgr.block b (hr.lt b hb) (fun he => hnF b (hob' b he.symm) hb)
     by_cases hi' : i < els.length
     ·simp only [if_pos hi', ZgL hi'] at hj ⊢
      exact ⟨(hrep i hi' j hj).1, keep (hrep i hi' j hj).2⟩
     ·simp only [if_neg hi', ZgR (show els.length <= i by omega)] at hj ⊢
      have := hys (i - els.length) (by simp at hi; omega) j hj
      exact ⟨this.1, keep this.2⟩
    ·dsimp only at hg; rw [if_pos rfl] at hg
     rcases hnewb g hg with h3 | h3
     ·exact hnF g (hob' g h3) hf
     ·have := hr.lt g hf; omega)
   (fun g hg => by
    rw [if_pos rfl] at hg
    exact hnewb g hg)
   ((id2, .row ee size (els ++ els2)) :: Obs.kill id2 (Obs.del id σ)) (fun p hp => by
    cases hp with
    | head => exact .inl rfl
    | tail _ hp =>
     obtain ⟨q, hq, rfl⟩ := Obs.mem_kill hp
     exact .inr ⟨q, hq, Obs.fresh_spec hid q (Obs.mem_del hq).1, J⟩)
  have h10 := h9.put (o := ⟨some dst, .ready 0, 0, "", #[], none⟩) (v := v') (s := .own id2) (Ext.refl h9.lt) (by
   have := RepS.own (F := F) (ρ := fun j => if j = id2 then v' else ρ j) (w := w') id2
   simpa using this) (by simpa [DstOk, Nat.blt_eq] using hdn)
  exact h10
theorem GE.appendN {cx : Cx} {ops : Array Oper} {Φ : List Fc} {o : Oper} {e : Env} {σ : Obs} {s x : Operand} {t ee size bytes id dst : Nat} {z : Value} {els els2 : List (List D)} {σ' : Obs} (id2 : Nat) {sl : List Nat} (hΦ : ⟨id2, sl⟩ ∈ Φ) (hsl : ∀ t, t ≠ dst -> sl.contains t = false) (hg : o.guard = none)
 (ho : o.op = .call { callee := .builtin .append, args := #[s, x], argTypes := #[t, t] }) (hd : o.dst = some dst) (hdn' : Nat.blt dst cx.N = true) (T : ElemTy cx.P t ee size bytes z) (hs : e.ev s = .own id) (hm : (id, Ob.row ee size els) ∈ σ)
 (hx : e.ev x = .d (.sl els2)) (hsz : ∀ y ∈ els2, y.length = size) (hb : (els.length + els2.length) * bytes <= 140737488355328) (hn : els.length + els2.length <= 9223372036854775807) (hid : Obs.fresh id2 σ = true) (hσ : (id2, .row ee size (els ++ els2)) :: Obs.kill id2 (Obs.del id σ) = σ') (hfx : cx.free id2 = true := by rfl) :
 GE cx ops Φ o e σ [(dst, .own id2)] σ' := fun e0 h1 h2 h3 => by
 have e1 : e0.ev s = e.ev s := ev_same fun t hxt => h1 t (YaM (by rw [ho, <- hxt]; simp [Op.operands, Call.operands]))
 have e2 : e0.ev x = e.ev x := ev_same fun t hxt => h1 t (YaM (by rw [ho, <- hxt]; simp [Op.operands, Call.operands]))
 have hp : (e0.kill id2).put (some dst) (.own id2) = Env.puts e0 [(dst, .own id2)] := by
  funext t
  show _ = (e0.put (some dst) (.own id2)) t
  by_cases h4 : t = dst
  ·subst h4; rw [Env.put_same, Env.put_same]
  ·rw [Env.put_other _ _ _ _ h4, Env.put_other _ _ _ _ h4]; exact h3 _ hΦ t (hsl t h4)
 exact AOps.appendN id2 hg ho hd hdn' T (e1.trans hs) hm (e2.trans hx) hsz hb hn hid (.nil ⟨hp, hσ⟩) hfx
open Go.Lib
def hK (S : List Sal) (b : Bks) (k : Nat) : List Hld := hldR S b.next b.held ((dls b).take k)
theorem hK_next {S : List Sal} {b : Bks} {k : Nat} (hk : k < (dls b).length) : hK S b (k + 1) = hK S b k ++ segH S b.next b.held (dls b)[k] := by
 unfold hK hldR
 rw [Ycd hk, List.flatMap_append]
 simp
theorem segH_len (S : List Sal) (next : Int) (H : List Hld) (p : Deal × Int) : (segH S next H p).length <= H.length + 1 := by
 have h1 := outH_len next H p
 unfold segH
 split
 ·have := addH_len (outH next H p) ⟨p.1.name, next + p.1.hold, cenD S next H p⟩
  omega
 ·omega
theorem hldR_len (S : List Sal) (next : Int) (H : List Hld) : ∀ l : List (Deal × Int), (hldR S next H l).length <= l.length * (H.length + 1)
 | [] => by simp [hldR]
 | p :: l => by
  have ih := hldR_len S next H l
  have h1 := segH_len S next H p
  have e : hldR S next H (p :: l) = segH S next H p ++ hldR S next H l := by unfold hldR; rw [List.flatMap_cons]
  rw [e, ZlA, List.length_cons, Nat.succ_mul]
  omega
theorem hK_len {S : List Sal} {b : Bks} (ok : BkOk b) (k : Nat) : (hK S b k).length <= 40 * 100041 := by
 have h1 := hldR_len S b.next b.held ((dls b).take k)
 have h2 := held_len ok
 have h3 := Ybo ok
 have h4 := ok.dl
 rw [ZlT] at h1
 exact ZnT h1 (Nat.mul_le_mul (by omega) (by omega))
theorem all_2 {f g : Fc} {P : Fc -> Prop} (h1 : P f) (h2 : P g) : ∀ x ∈ [f, g], P x := fun x hx => by
 simp only [List.mem_cons, List.not_mem_nil, or_false] at hx
 rcases hx with rfl | rfl
 ·exact h1
 ·exact h2
theorem cl_3 {Φ : List Fc} {p q r : Nat × S} (h1 : ∀ f ∈ Φ, f.slots.contains p.1 = true \/ p.2.kill f.id = p.2) (h2 : ∀ f ∈ Φ, f.slots.contains q.1 = true \/ q.2.kill f.id = q.2) (h3 : ∀ f ∈ Φ, f.slots.contains r.1 = true \/ r.2.kill f.id = r.2) : ∀ x ∈ [p, q, r], ∀ f ∈ Φ, f.slots.contains x.1 = true \/ x.2.kill f.id = x.2 := fun x hx => by
 simp only [List.mem_cons, List.not_mem_nil, or_false] at hx
 rcases hx with rfl | rfl | rfl
 ·exact h1
 ·exact h2
 ·exact h3
theorem cl_1' {Φ : List Fc} {p : Nat × S} (h1 : ∀ f ∈ Φ, f.slots.contains p.1 = true \/ p.2.kill f.id = p.2) : ∀ x ∈ [p], ∀ f ∈ Φ, f.slots.contains x.1 = true \/ x.2.kill f.id = x.2 := fun x hx => by
 rw [ZmS] at hx; subst hx; exact h1
theorem c_rIss (b : Bks) (l : List Rpt) (hb : okBks b) (ho : ∀ x ∈ l, okRpt x) : Ya3 Tryz.prog MaxT 15 [.agg b.ds, .sl (l.map Rpt.ds)] (.tup [.agg (issB b l).ds, .sl ((issS b l).map Stm.ds), .v (.int .i64 (issF b l))]) := by
 refine acall_ofRT (n := 113) (ds' := [.agg (issB b l).ds, .sl ((issS b l).map Stm.ds), .v (.int .i64 (issF b l))]) Tryz.func15 J (by kernel_rfl) J [.cell 4 40, .tmp 5, .tmp 6] J J ?_
 intro B w0 F0 hT
 refine .sr (.sA (.box J J J) ?_)
 refine .alloc 710 J J J J zt_40 J J J ?_
 refine .aA ?_
 refine .aN ?_
 refine .seq (.sr (.sA (.loadAgg J Ybs J J) ?_))
 refine .mA ?_
 -- wants the world
 refine .callT J J J hT Yan J (.cons (.rfl' J) (.cons (.rfl' J) .nil)) (c_rAsk8 b l hb ho) ?_
 refine .aN ?_
 refine .sr (.mA ?_)
 refine .sA (.neq J J J) (.nil ?_)
 refine .cT J (fun h1 => ?_) fun h1 => ?_
 ·have HF := iss_ask h1
  rw [Yb7 (by rw [HF]; exact h1), Yb6 (by rw [HF]; exact h1), HF]
  refine .sr (.sA (.build J bu_40 .nil J) ?_)
  refine .mA ?_
  refine .store J J J sz_40 J (.head _) J J J (ZnB J) ?_
  refine .aA ?_
  refine .aN ?_
  refine .ret ?_
  refine ⟨RetR.agg J (.head _) Ybs J (.c0 (.c0 (.c0 (.c0 (.c0 (.c0 (.c0 .nil))))))), RetD.nil J, RetD.eq J ?_, trivial⟩
  all_goals (first | rfl)
 have h0 : ¬ askB b l ≠ 0 := h1
 obtain ⟨hbz, hlz⟩ := ask_0 (Decidable.not_not.1 h0)
 have okb := bkOk hbz
 have hlog := log_of hlz
 have okS : SalsOk (salB b l) := sals_ok hlog ho okb.als
 have hnx := okb.next
 have hdl := okb.dl
 have hgl := okb.gl
 have hzl := Ybo okb
 have hgz := gps_len okb
 have hhl := held_len okb
 refine .skip (.seq (.sr (.sA (.fieldAddr J YaB J) ?_)))
 refine .sA (.load J sc_3 J) ?_
 refine .sA (.gtr J J J) (.nil ?_)
 refine .cT J (fun h2 => ?_) fun h2 => ?_
 ·have HF := iss_11 h0 h2
  rw [Yb7 (by rw [HF]; decide), Yb6 (by rw [HF]; decide), HF]
  refine .sr (.sA (.build J bu_40 .nil J) ?_)
  refine .store J J J sz_40 J (.head _) J J J (ZnB J) ?_
  refine .aA ?_
  refine .aN ?_
  refine .ret ?_
  refine ⟨RetR.agg J (.head _) Ybs J (.c0 (.c0 (.c0 (.c0 (.c0 (.c0 (.c0 .nil))))))), RetD.nil J, RetD.eq J ?_, trivial⟩
  all_goals (first | rfl)
 have h1n : ¬ 2400 < b.next := h2
 refine .skip (.sr (.mA ?_))
 refine .sA (.fieldAddr J Yay J) (.sA (.fieldAddr J Yck J) (.sA (.load J sc_32 J) (.sA (.call J (.cons (.rfl' J) (.cons (.rfl' J) .nil)) (c_rSales l b.ctr.als hlog ho okb.als)) ?_)))
 refine .aN ?_
 refine .sr (.sA (.fieldAddr J Yay J) ?_)
 refine .sA (.loadAggT J ag_36 J (ZnB J)) (.sA (.fieldAddr J YaB J) (.sA (.load J sc_3 J) ?_))
 refine .sA (.add64 J J J) ?_
 refine .sA (.build J bu_40 (.cons J J (.cons J J .nil)) J) ?_
 refine .alloc 900 J J J J zt_40 J J J ?_
 refine .store J J J sz_40 J (.head _) J J J (ZnB J) (.nil ?_)
 refine .seq (.adoptCell 601 3 1 900 4 (.head _) J J ?_)
 refine .adoptCell 602 105 3 900 5 (.tail _ (.head _)) J J ?_
 refine .adoptCell 603 3 1 900 6 (.tail _ (.tail _ (.head _))) J J ?_
 refine .region (.aN ?_)
 refine .seq (.sr (.sA (.fieldAddr J Yay J) ?_))
 refine .sA (.fieldAddr J YaE J) (.sA (.load J YbI J) (.sA (.lenSl J et_33.ht J) ?_))
 refine .mN ?_
 refine .block (.adopt 10 604 114 5 J J ?_)
 refine .loop (G := Nat) (fun k => Env.of [(46, .iv k), (45, .iv (b.ctr.deals.map Deal.ds).length), (2, .d (.fp b.ds)), (4, .ptr 710 0), (8, .d (.sl ((salB b l).map Sal.ds))), (9, .ptr 900 0), (10, .own 604)]) (fun k => [(604, .row 114 5 (((YbC (salB b l) b).take k).map Rw.ds)), (601, .row 3 1 (((Ybl (salB b l) b).take k).map intD)), (602, .row 105 3 ((hK (salB b l) b k).map Hld.ds)), (603, .row 3 1 []), (900, .cells [.d (.sl (b.ctr.als.map Ali.ds)), .d (.sl (b.ctr.deals.map Deal.ds)), .d (.sl (b.ctr.groups.map Grp.ds)), .iv (b.next + 1), .own 601, .own 602, .own 603]), (710, .cells [.d (.v (.slice none 0 0)), .d (.v (.slice none 0 0)), .d (.v (.slice none 0 0)), .d (.v (.int .i64 0)), .d (.v (.slice none 0 0)), .d (.v (.slice none 0 0)), .d (.v (.slice none 0 0))])]) (fun k => k <= b.ctr.deals.length /\ ffst (dlK (salB b l) b) k = 0) (fun k => b.ctr.deals.length - k) 0 ⟨ZnZ _, J⟩ (Sub.less ⟨U, U, U, U, U, U, U, trivial⟩ (in6 (.head _) (.tail _ (.tail _ (.tail _ (.head _)))) (.tail _ (.tail _ (.head _))) (.tail _ (.head _)) (.tail _ (.tail _ (.tail _ (.tail _ (.head _))))) (.tail _ (.tail _ (.tail _ (.tail _ (.tail _ (.head _)))))))) ?_
 intro k hk
 refine .sr (.sA (.lss J J J) (.nil ?_))
 refine .seq (.cT J (fun h3 => ?_) fun h3 => ?_)
 ·rw [ZlM] at h3
  have hlt : k < b.ctr.deals.length := by omega
  have hz : k < (dls b).length := by omega
  have hda : b.ctr.deals[k]? = some (dls b)[k].1 := by rw [dls_at hz]; exact ZgE hlt
  have hD := okb.deal _ (dls_mem (ZgM hz)).1
  have HK : dlK (salB b l) b k = dlF (salB b l) b.next b.held (dls b)[k] := dif_pos hz
  have hkl := hK_len (S := (salB b l)) okb k
  refine .skip (.seq (.block (.sr (.mA ?_))))
  refine .aN ?_
  refine .sr (.sA (.loadAgg J Ybs J J) ?_)
  refine .mA ?_
  refine .mA ?_
  refine .sA (.call J (.cons (.rfl' J) (.cons (.rfl' J) (.cons (.rfl' J) .nil))) (c_rRow b (salB b l) k okb okS hz (by omega))) ?_
  rw [<- HK]
  refine .mA ?_
  refine .sA (.extract J J J) (.sA (.extract J J J) (.sA (.extract J J J) (.sA (.extract J J J) ?_)))
  refine .alloc 103 J J J J zt_114 J J J ?_
  refine .store J J J sz_114 J (.head _) J J J (ZnB J) ?_
  refine .freezeCells 12 (ds := (rwR (salB b l) b.next b.held (dls b)[k]).ds) J (.head _) ?_
  refine .aA ?_
  refine .aA ?_
  refine .aN ?_
  refine .seq (.sr (.mA ?_))
  refine .sA (.neq J J J) (.nil ?_)
  refine .cT J (fun h4 => ?_) fun h4 => ?_
  ·have HX := Yab (f := dlK (salB b l) b) hk.2 h4 _ hlt
   have HF := (iss_d h0 h1n (by rw [HX]; exact h4)).trans HX
   rw [Yb7 (by rw [HF]; exact h4), Yb6 (by rw [HF]; exact h4), HF]
   refine .sr (.sA (.build J bu_40 .nil J) ?_)
   refine .mA ?_
   refine .store J J J sz_40 J (.tail _ (.tail _ (.tail _ (.tail _ (.tail _ (.head _)))))) J J J (ZnB J) ?_
   refine .aA ?_
   refine .aN ?_
   refine .ret ?_
   refine ⟨RetR.agg J (.tail _ (.tail _ (.tail _ (.tail _ (.tail _ (.head _)))))) Ybs J (.c0 (.c0 (.c0 (.c0 (.c0 (.c0 (.c0 .nil))))))), RetD.nil J, RetD.eq J ?_, trivial⟩
   all_goals (first | rfl)
  have HZ : dlK (salB b l) b k = 0 := Decidable.not_not.1 h4
  have HZ2 := HK.symm.trans HZ
  have HB : ¬ 1000000000000 < basV (dls b)[k].1 b.next (salB b l) := fun hh => by
   unfold dlF at HZ2
   rw [if_pos hh] at HZ2
   exact absurd HZ2 (by decide)
  have HC : (cdR (salB b l) b.next b.held (dls b)[k]) = cenD (salB b l) b.next b.held (dls b)[k] := if_pos HZ2
  have hrl : k < (YbC (salB b l) b).length := by rw [rowsB_len okb]; exact hlt
  have hnl : k < (Ybl (salB b l) b).length := by unfold Ybl; rw [ZlM]; exact hz
  have HR : (rwR (salB b l) b.next b.held (dls b)[k]) = (YbC (salB b l) b)[k] := by
   have h5 : (YbC (salB b l) b)[k] = rwD (salB b l) b.next b.held (dls b)[k] := ZgP (h := hrl) ..
   rw [h5]; exact if_neg HB
  have HN : (nwR (salB b l) b.next b.held (dls b)[k]) = (Ybl (salB b l) b)[k] := by
   have h5 : (Ybl (salB b l) b)[k] = nowV (salB b l) b.next (dls b)[k].1 := ZgP (h := hnl) ..
   rw [h5]; exact if_pos HZ2
  have HT1 := Ycd hrl
  have HT2 := Ycd hnl
  have HT3 := hK_next (S := (salB b l)) hz
  have hsl := segH_len (salB b l) b.next b.held (dls b)[k]
  refine .skip (.seq (.drawLTail 9 [⟨604, [10, 62, 65]⟩, ⟨611, [70]⟩] [(3, [10, 62, 65]), (8, [70])] (fun τ => (900, Ob.cells [.d (.sl (b.ctr.als.map Ali.ds)), .d (.sl (b.ctr.deals.map Deal.ds)), .d (.sl (b.ctr.groups.map Grp.ds)), .d (.v (.int .i64 (b.next + 1))), .own 601, .own 602, .own 603]) ∈ τ) (by kernel_rfl) (by kernel_rfl) (by kernel_rfl) (by kernel_rfl) ?_))
  refine .step J J J (.tail _ (.tail _ (.tail _ (.tail _ (.head _))))) (fun τ hτ => AOp.moveO J J) ?_ J ⟨.inl J, .inr J, trivial⟩
  refine .step J J J (.tail _ (.tail _ (.tail _ (.tail _ (.head _))))) (fun τ hτ => AOp.loadAgg J Ycb J J) ?_ J ⟨.inr J, .inr J, trivial⟩
  refine .step J J J (.tail _ (.tail _ (.tail _ (.tail _ (.head _))))) (fun τ hτ => AOp.buildSlice J et_56 (.cons J J J .nil) J (by decide)) ?_ J ⟨.inr J, .inr J, trivial⟩
  refine .eff (σ' := [(604, .row 114 5 (((YbC (salB b l) b).take k).map Rw.ds ++ [(rwR (salB b l) b.next b.held (dls b)[k]).ds])), (601, .row 3 1 (((Ybl (salB b l) b).take k).map intD)), (602, .row 105 3 ((hK (salB b l) b k).map Hld.ds)), (603, .row 3 1 []), (900, .cells [.d (.sl (b.ctr.als.map Ali.ds)), .d (.sl (b.ctr.deals.map Deal.ds)), .d (.sl (b.ctr.groups.map Grp.ds)), .d (.v (.int .i64 (b.next + 1))), .own 601, .own 602, .own 603]), (710, .cells [.d (.v (.slice none 0 0)), .d (.v (.slice none 0 0)), .d (.v (.slice none 0 0)), .d (.v (.int .i64 0)), .d (.v (.slice none 0 0)), .d (.v (.slice none 0 0)), .d (.v (.slice none 0 0))])]) rfl rfl (.tail _ (.tail _ (.tail _ (.tail _ (.head _))))) (.tail _ (.tail _ (.tail _ (.tail _ (.head _))))) (GE.append3 604 62 10 (.head _) (fun t h1 h2 h3 => by simp [h1, h2, h3]) (by decide) (by decide) (by decide) rfl rfl rfl rfl et_56 rfl (.head _) rfl (fun y hy => by obtain rfl := ZmS.1 hy; rfl) (by simp; omega) (by simp; omega) rfl) ?_ (cl_3 (all_2 (.inl rfl) (.inr rfl)) (all_2 (.inl rfl) (.inr rfl)) (all_2 (.inl rfl) (.inr rfl)))
  refine .step J J J (.tail _ (.tail _ (.tail _ (.tail _ (.head _))))) (fun τ hτ => AOp.fieldAddrP J Ybh J) ?_ J ⟨.inr J, .inr J, trivial⟩
  refine .step J J J (.tail _ (.tail _ (.tail _ (.tail _ (.head _))))) (fun τ hτ => AOp.loadP (s := .own 601) J YaO J hτ J) ?_ J ⟨.inr J, .inr J, trivial⟩
  refine .step J J J (.tail _ (.tail _ (.tail _ (.tail _ (.head _))))) (fun τ hτ => AOp.moveD J J) ?_ J ⟨.inr J, .inr J, trivial⟩
  refine .step J J J (.tail _ (.tail _ (.tail _ (.tail _ (.head _))))) (fun τ hτ => AOp.buildSlice J et_37 (.cons J J J .nil) J (by decide)) ?_ J ⟨.inr J, .inr J, trivial⟩
  refine .eff (σ' := [(611, .row 3 1 (((Ybl (salB b l) b).take k).map intD ++ [intD (nwR (salB b l) b.next b.held (dls b)[k])])), (604, .row 114 5 (((YbC (salB b l) b).take k).map Rw.ds ++ [(rwR (salB b l) b.next b.held (dls b)[k]).ds])), (602, .row 105 3 ((hK (salB b l) b k).map Hld.ds)), (603, .row 3 1 []), (900, .cells [.d (.sl (b.ctr.als.map Ali.ds)), .d (.sl (b.ctr.deals.map Deal.ds)), .d (.sl (b.ctr.groups.map Grp.ds)), .d (.v (.int .i64 (b.next + 1))), .own 601, .own 602, .own 603]), (710, .cells [.d (.v (.slice none 0 0)), .d (.v (.slice none 0 0)), .d (.v (.slice none 0 0)), .d (.v (.int .i64 0)), .d (.v (.slice none 0 0)), .d (.v (.slice none 0 0)), .d (.v (.slice none 0 0))])]) rfl rfl (.tail _ (.tail _ (.tail _ (.tail _ (.head _))))) (.tail _ (.tail _ (.tail _ (.tail _ (.head _))))) (GE.appendN 611 (.tail _ (.head _)) (fun t h1 => by simp [h1]) rfl rfl rfl rfl et_37 rfl (.tail _ (.head _)) rfl (fun y hy => by obtain rfl := ZmS.1 hy; rfl) (by simp; omega) (by simp; omega) rfl rfl) ?_ (cl_1' (all_2 (.inr rfl) (.inl rfl)))
  refine .nil ?_
  refine .sA (.assignO J J) (.sA (.fieldAddrP J Ybh J) ?_)
  refine .storeS J J J sz_37 J (.tail _ (.tail _ (.tail _ (.tail _ (.head _))))) J (.head _) (ZnB J) (.nil ?_)
  refine .rename 611 601 [(601, .row 3 1 (((Ybl (salB b l) b).take k).map intD ++ [intD (nwR (salB b l) b.next b.held (dls b)[k])])), (604, .row 114 5 (((YbC (salB b l) b).take k).map Rw.ds ++ [(rwR (salB b l) b.next b.held (dls b)[k]).ds])), (602, .row 105 3 ((hK (salB b l) b k).map Hld.ds)), (603, .row 3 1 []), (900, .cells [.d (.sl (b.ctr.als.map Ali.ds)), .d (.sl (b.ctr.deals.map Deal.ds)), .d (.sl (b.ctr.groups.map Grp.ds)), .d (.v (.int .i64 (b.next + 1))), .own 601, .own 602, .own 603]), (710, .cells [.d (.v (.slice none 0 0)), .d (.v (.slice none 0 0)), .d (.v (.slice none 0 0)), .d (.v (.int .i64 0)), .d (.v (.slice none 0 0)), .d (.v (.slice none 0 0)), .d (.v (.slice none 0 0))])] (by decide) J (fun p hp => by
   simp only [List.mem_cons, List.not_mem_nil, or_false] at hp
   rcases hp with rfl | rfl | rfl | rfl | rfl | rfl
   ·exact .inl ⟨_, (.head _), J, J⟩
   ·exact .inr ⟨_, (.tail _ (.head _)), ZnE J, ZnE J, J⟩
   ·exact .inr ⟨_, (.tail _ (.tail _ (.head _))), ZnE J, ZnE J, J⟩
   ·exact .inr ⟨_, (.tail _ (.tail _ (.tail _ (.head _)))), ZnE J, ZnE J, J⟩
   ·exact .inr ⟨_, (.tail _ (.tail _ (.tail _ (.tail _ (.head _))))), ZnE J, ZnE J, J⟩
   ·exact .inr ⟨_, (.tail _ (.tail _ (.tail _ (.tail _ (.tail _ (.head _)))))), ZnE J, ZnE J, J⟩
   ) ?_
  refine .drawTail 6 (by kernel_rfl) (by kernel_rfl) (by kernel_rfl) ?_
  refine .sA (.fieldAddrP J YaJ J) (.sA (.loadP J Ycn J (.tail _ (.tail _ (.tail _ (.tail _ (.head _))))) J) (.sA (.loadAgg J Ybs J J) (.sA (.moveD J J) (.sA (.moveD J J) ?_))))
  refine .sA (.call J (.cons (.rfl' J) (.cons (.rfl' J) (.cons (.rfl' J) .nil))) (c_rHold b k (cdR (salB b l) b.next b.held (dls b)[k]) (dls b)[k] hda hD.2.2.2.2 hnx (by omega))) ?_
  refine .nil ?_
  have hsg : segC b.next b.held (dls b)[k] (cenD (salB b l) b.next b.held (dls b)[k]) = segH (salB b l) b.next b.held (dls b)[k] := rfl
  rw [HC, hsg]
  -- append 78
  refine .append rfl rfl rfl rfl et_38 rfl (.tail _ (.tail _ (.head _))) rfl (fun y hy => by obtain ⟨x, _, rfl⟩ := ZmM.1 hy; rfl) (by simp; omega) (by simp; omega) ?_
  refine .sA (.fieldAddrP J YaJ J) ?_
  refine .storeS J J J sz_38 J (.tail _ (.tail _ (.tail _ (.tail _ (.head _))))) J (.tail _ (.tail _ (.head _))) (ZnB J) (.nil ?_)
  refine .region (.sA (.add64 J J J) ?_)
  refine .mN ?_
  refine ⟨k + 1, ⟨by omega, Yag hk.2 HZ⟩, (by dsimp only; omega), Sub.less ⟨U, U, U, U, U, U, U, trivial⟩ (in6 (Yac (.tail _ (.head _)) (by rw [HT1, ZmA, HR]; first | done | rfl)) (Yac (.head _) (by rw [HT2, ZmA, HN]; first | done | rfl)) (Yac (.tail _ (.tail _ (.head _))) (by rw [HT3, ZmA])) (.tail _ (.tail _ (.tail _ (.head _)))) (.tail _ (.tail _ (.tail _ (.tail _ (.head _))))) (.tail _ (.tail _ (.tail _ (.tail _ (.tail _ (.head _)))))))⟩
 rw [ZlM] at h3
 obtain rfl : k = b.ctr.deals.length := by omega
 have hdz := Ya2 _ hk.2
 have hRw := rows_ok okS okb hdz
 have e1 : (YbC (salB b l) b).take b.ctr.deals.length = (YbC (salB b l) b) := List.take_of_length_le (by rw [rowsB_len okb]; exact ZnR _)
 have e2 : (Ybl (salB b l) b).take b.ctr.deals.length = (Ybl (salB b l) b) := List.take_of_length_le (by unfold Ybl; rw [ZlM, hzl]; exact ZnR _)
 have e3 : hK (salB b l) b b.ctr.deals.length = (hldR (salB b l) b.next b.held (dls b)) := by unfold hK; rw [List.take_of_length_le (Nat.le_of_eq hzl)]
 rw [e1, e2, e3]
 refine .exit (.sr (.aN ?_))
 refine .seq (.sr (.freeze 10 J (.head _) ?_))
 refine .sA (.fieldAddr J Yay J) (.sA (.fieldAddr J YaP J) (.sA (.load J Yce J) (.sA (.lenSl J et_34.ht J) ?_)))
 refine .mN ?_
 refine .block (.adopt 16 605 59 7 J J ?_)
 have hd0 := hk.2
 refine .loop (G := Nat) (fun k => Env.of [(85, .iv k), (84, .iv (b.ctr.groups.map Grp.ds).length), (2, .d (.fp b.ds)), (4, .ptr 710 0), (9, .ptr 900 0), (10, .d (.sl ((YbC (salB b l) b).map Rw.ds))), (16, .own 605)]) (fun k => [(605, .row 59 7 (((stmsB (salB b l) b).take k).map Stm.ds)), (603, .row 3 1 (((YbQ (salB b l) b).take k).map intD)), (601, .row 3 1 ((Ybl (salB b l) b).map intD)), (602, .row 105 3 ((hldR (salB b l) b.next b.held (dls b)).map Hld.ds)), (900, .cells [.d (.sl (b.ctr.als.map Ali.ds)), .d (.sl (b.ctr.deals.map Deal.ds)), .d (.sl (b.ctr.groups.map Grp.ds)), .iv (b.next + 1), .own 601, .own 602, .own 603]), (710, .cells [.d (.v (.slice none 0 0)), .d (.v (.slice none 0 0)), .d (.v (.slice none 0 0)), .d (.v (.int .i64 0)), .d (.v (.slice none 0 0)), .d (.v (.slice none 0 0)), .d (.v (.slice none 0 0))])]) (fun k => k <= b.ctr.groups.length /\ ffst (gpK (salB b l) b) k = 0) (fun k => b.ctr.groups.length - k) 0 ⟨ZnZ _, J⟩ (Sub.less ⟨U, U, U, U, U, U, U, trivial⟩ (in6 (.head _) (.tail _ (.tail _ (.tail _ (.head _)))) (.tail _ (.head _)) (.tail _ (.tail _ (.head _))) (.tail _ (.tail _ (.tail _ (.tail _ (.head _))))) (.tail _ (.tail _ (.tail _ (.tail _ (.tail _ (.head _)))))))) ?_
 intro k hk
 refine .sr (.sA (.lss J J J) (.nil ?_))
 refine .seq (.cT J (fun h5 => ?_) fun h5 => ?_)
 ·rw [ZlM] at h5
  have hlt : k < b.ctr.groups.length := by omega
  have hz : k < (gps b).length := by omega
  have hga : b.ctr.groups[k]? = some (gps b)[k].1 := by rw [gps_at hz]; exact ZgE hlt
  have hBa : b.bal[k]? = some (gps b)[k].2 := by rw [gps_at hz]; exact ZgE (by have := okb.bl; omega)
  have hgm := gps_mem (ZgM hz)
  have HK : gpK (salB b l) b k = stF (gps b)[k].1 (numB (salB b l) b (gps b)[k]) := dif_pos hz
  have hsl : k < (stmsB (salB b l) b).length := by unfold stmsB; rw [ZlM]; exact hz
  have hbl : k < (YbQ (salB b l) b).length := by unfold YbQ; rw [ZlM]; exact hz
  refine .skip (.seq (.block (.sr (.mA ?_))))
  refine .aN ?_
  refine .sr (.sA (.loadAgg J Ybs J J) ?_)
  refine .mA ?_
  refine .mA ?_
  refine .sA (.call J (.cons (.rfl' J) (.cons (.rfl' J) (.cons (.rfl' J) .nil))) (c_rStm b (YbC (salB b l) b) k (gps b)[k].1 (gps b)[k].2 hga hBa (rowsB_len okb) hdl hRw (okb.ba _ hgm.2) (okb.cut _ hgm.1))) ?_
  rw [show stF (gps b)[k].1 (numG (gps b)[k].2 (Yai (gps b)[k].1.name (b.ctr.deals.zip (YbC (salB b l) b)))) = gpK (salB b l) b k from HK.symm]
  refine .mA ?_
  refine .sA (.extract J J J) (.sA (.extract J J J) ?_)
  refine .alloc 104 J J J J zt_59 J J J ?_
  refine .store J J J sz_59 J (.head _) J J J (ZnB J) ?_
  refine .freezeCells 18 (ds := (if gpK (salB b l) b k = 0 then stG b.next (gps b)[k].1 (gps b)[k].2 (rsG (salB b l) b (gps b)[k]) else badR b.next (gps b)[k].1 (gps b)[k].2 (rsG (salB b l) b (gps b)[k])).ds) J (.head _) ?_
  refine .aN ?_
  refine .seq (.sr (.mA ?_))
  refine .sA (.neq J J J) (.nil ?_)
  refine .cT J (fun h6 => ?_) fun h6 => ?_
  ·have HX := Yab (f := gpK (salB b l) b) hk.2 h6 _ hlt
   have HF := (iss_g h0 h1n hd0).trans HX
   rw [Yb7 (by rw [HF]; exact h6), Yb6 (by rw [HF]; exact h6), HF]
   refine .sr (.sA (.build J bu_40 .nil J) ?_)
   refine .mA ?_
   refine .store J J J sz_40 J (.tail _ (.tail _ (.tail _ (.tail _ (.tail _ (.head _)))))) J J J (ZnB J) ?_
   refine .aA ?_
   refine .aN ?_
   refine .ret ?_
   refine ⟨RetR.agg J (.tail _ (.tail _ (.tail _ (.tail _ (.tail _ (.head _)))))) Ybs J (.c0 (.c0 (.c0 (.c0 (.c0 (.c0 (.c0 .nil))))))), RetD.nil J, RetD.eq J ?_, trivial⟩
   all_goals (first | rfl)
  have HZ : gpK (salB b l) b k = 0 := Decidable.not_not.1 h6
  have HX : (if gpK (salB b l) b k = 0 then stG b.next (gps b)[k].1 (gps b)[k].2 (rsG (salB b l) b (gps b)[k]) else badR b.next (gps b)[k].1 (gps b)[k].2 (rsG (salB b l) b (gps b)[k])) = (stmsB (salB b l) b)[k] := by
   rw [if_pos HZ]
   exact (ZgP (h := hsl) ..).symm
  have HX2 : (if gpK (salB b l) b k = 0 then stG b.next (gps b)[k].1 (gps b)[k].2 (rsG (salB b l) b (gps b)[k]) else badR b.next (gps b)[k].1 (gps b)[k].2 (rsG (salB b l) b (gps b)[k])).closing = (YbQ (salB b l) b)[k] := by
   have h5 : (YbQ (salB b l) b)[k] = clG (gps b)[k].1 (numB (salB b l) b (gps b)[k]) := ZgP (h := hbl) ..
   rw [h5, if_pos HZ]; rfl
  have HT1 := Ycd hsl
  have HT2 := Ycd hbl
  refine .skip (.drawLTail 10 [⟨605, [16, 99, 102]⟩, ⟨613, [108]⟩] [(3, [16, 99, 102]), (9, [108])] (fun τ => (900, Ob.cells [.d (.sl (b.ctr.als.map Ali.ds)), .d (.sl (b.ctr.deals.map Deal.ds)), .d (.sl (b.ctr.groups.map Grp.ds)), .d (.v (.int .i64 (b.next + 1))), .own 601, .own 602, .own 603]) ∈ τ) (by kernel_rfl) (by kernel_rfl) (by kernel_rfl) (by kernel_rfl) ?_)
  refine .step J J J (.tail _ (.tail _ (.tail _ (.tail _ (.head _))))) (fun τ hτ => AOp.moveO J J) ?_ J ⟨.inl J, .inr J, trivial⟩
  refine .step J J J (.tail _ (.tail _ (.tail _ (.tail _ (.head _))))) (fun τ hτ => AOp.loadAgg J ag_59 J J) ?_ J ⟨.inr J, .inr J, trivial⟩
  refine .step J J J (.tail _ (.tail _ (.tail _ (.tail _ (.head _))))) (fun τ hτ => AOp.buildSlice J et_41 (.cons J J J .nil) J (by decide)) ?_ J ⟨.inr J, .inr J, trivial⟩
  refine .eff (σ' := [(605, .row 59 7 (((stmsB (salB b l) b).take k).map Stm.ds ++ [(if gpK (salB b l) b k = 0 then stG b.next (gps b)[k].1 (gps b)[k].2 (rsG (salB b l) b (gps b)[k]) else badR b.next (gps b)[k].1 (gps b)[k].2 (rsG (salB b l) b (gps b)[k])).ds])), (603, .row 3 1 (((YbQ (salB b l) b).take k).map intD)), (601, .row 3 1 ((Ybl (salB b l) b).map intD)), (602, .row 105 3 ((hldR (salB b l) b.next b.held (dls b)).map Hld.ds)), (900, .cells [.d (.sl (b.ctr.als.map Ali.ds)), .d (.sl (b.ctr.deals.map Deal.ds)), .d (.sl (b.ctr.groups.map Grp.ds)), .d (.v (.int .i64 (b.next + 1))), .own 601, .own 602, .own 603]), (710, .cells [.d (.v (.slice none 0 0)), .d (.v (.slice none 0 0)), .d (.v (.slice none 0 0)), .d (.v (.int .i64 0)), .d (.v (.slice none 0 0)), .d (.v (.slice none 0 0)), .d (.v (.slice none 0 0))])]) rfl rfl (.tail _ (.tail _ (.tail _ (.tail _ (.head _))))) (.tail _ (.tail _ (.tail _ (.tail _ (.head _))))) (GE.append3 605 99 16 (.head _) (fun t h1 h2 h3 => by simp [h1, h2, h3]) (by decide) (by decide) (by decide) rfl rfl rfl rfl et_41 rfl (.head _) rfl (fun y hy => by obtain rfl := ZmS.1 hy; rfl) (by simp; omega) (by simp; omega) rfl) ?_ (cl_3 (all_2 (.inl rfl) (.inr rfl)) (all_2 (.inl rfl) (.inr rfl)) (all_2 (.inl rfl) (.inr rfl)))
  refine .step J J J (.tail _ (.tail _ (.tail _ (.tail _ (.head _))))) (fun τ hτ => AOp.fieldAddrP J Ybv J) ?_ J ⟨.inr J, .inr J, trivial⟩
  refine .step J J J (.tail _ (.tail _ (.tail _ (.tail _ (.head _))))) (fun τ hτ => AOp.loadP (s := .own 603) J YaO J hτ J) ?_ J ⟨.inr J, .inr J, trivial⟩
  refine .step J J J (.tail _ (.tail _ (.tail _ (.tail _ (.head _))))) (fun τ hτ => AOp.fieldAddr (ds := (if gpK (salB b l) b k = 0 then stG b.next (gps b)[k].1 (gps b)[k].2 (rsG (salB b l) b (gps b)[k]) else badR b.next (gps b)[k].1 (gps b)[k].2 (rsG (salB b l) b (gps b)[k])).ds) J YbJ J) ?_ J ⟨.inr J, .inr J, trivial⟩
  refine .step J J J (.tail _ (.tail _ (.tail _ (.tail _ (.head _))))) (fun τ hτ => AOp.load J sc_3 J) ?_ J ⟨.inr J, .inr J, trivial⟩
  refine .step J J J (.tail _ (.tail _ (.tail _ (.tail _ (.head _))))) (fun τ hτ => AOp.buildSlice J et_37 (.cons J J J .nil) J (by decide)) ?_ J ⟨.inr J, .inr J, trivial⟩
  refine .eff (σ' := [(613, .row 3 1 (((YbQ (salB b l) b).take k).map intD ++ [intD (if gpK (salB b l) b k = 0 then stG b.next (gps b)[k].1 (gps b)[k].2 (rsG (salB b l) b (gps b)[k]) else badR b.next (gps b)[k].1 (gps b)[k].2 (rsG (salB b l) b (gps b)[k])).closing])), (605, .row 59 7 (((stmsB (salB b l) b).take k).map Stm.ds ++ [(if gpK (salB b l) b k = 0 then stG b.next (gps b)[k].1 (gps b)[k].2 (rsG (salB b l) b (gps b)[k]) else badR b.next (gps b)[k].1 (gps b)[k].2 (rsG (salB b l) b (gps b)[k])).ds])), (601, .row 3 1 ((Ybl (salB b l) b).map intD)), (602, .row 105 3 ((hldR (salB b l) b.next b.held (dls b)).map Hld.ds)), (900, .cells [.d (.sl (b.ctr.als.map Ali.ds)), .d (.sl (b.ctr.deals.map Deal.ds)), .d (.sl (b.ctr.groups.map Grp.ds)), .d (.v (.int .i64 (b.next + 1))), .own 601, .own 602, .own 603]), (710, .cells [.d (.v (.slice none 0 0)), .d (.v (.slice none 0 0)), .d (.v (.slice none 0 0)), .d (.v (.int .i64 0)), .d (.v (.slice none 0 0)), .d (.v (.slice none 0 0)), .d (.v (.slice none 0 0))])]) rfl rfl (.tail _ (.tail _ (.tail _ (.tail _ (.head _))))) (.tail _ (.tail _ (.tail _ (.tail _ (.head _))))) (GE.appendN 613 (.tail _ (.head _)) (fun t h1 => by simp [h1]) rfl rfl rfl rfl et_37 rfl (.tail _ (.head _)) rfl (fun y hy => by obtain rfl := ZmS.1 hy; rfl) (by simp; omega) (by simp; omega) rfl rfl) ?_ (cl_1' (all_2 (.inr rfl) (.inl rfl)))
  refine .nil ?_
  refine .sA (.assignO J J) (.sA (.fieldAddrP J Ybv J) ?_)
  refine .storeS J J J sz_37 J (.tail _ (.tail _ (.tail _ (.tail _ (.head _))))) J (.head _) (ZnB J) (.nil ?_)
  refine .rename 613 603 [(603, .row 3 1 (((YbQ (salB b l) b).take k).map intD ++ [intD (if gpK (salB b l) b k = 0 then stG b.next (gps b)[k].1 (gps b)[k].2 (rsG (salB b l) b (gps b)[k]) else badR b.next (gps b)[k].1 (gps b)[k].2 (rsG (salB b l) b (gps b)[k])).closing])), (605, .row 59 7 (((stmsB (salB b l) b).take k).map Stm.ds ++ [(if gpK (salB b l) b k = 0 then stG b.next (gps b)[k].1 (gps b)[k].2 (rsG (salB b l) b (gps b)[k]) else badR b.next (gps b)[k].1 (gps b)[k].2 (rsG (salB b l) b (gps b)[k])).ds])), (601, .row 3 1 ((Ybl (salB b l) b).map intD)), (602, .row 105 3 ((hldR (salB b l) b.next b.held (dls b)).map Hld.ds)), (900, .cells [.d (.sl (b.ctr.als.map Ali.ds)), .d (.sl (b.ctr.deals.map Deal.ds)), .d (.sl (b.ctr.groups.map Grp.ds)), .d (.v (.int .i64 (b.next + 1))), .own 601, .own 602, .own 603]), (710, .cells [.d (.v (.slice none 0 0)), .d (.v (.slice none 0 0)), .d (.v (.slice none 0 0)), .d (.v (.int .i64 0)), .d (.v (.slice none 0 0)), .d (.v (.slice none 0 0)), .d (.v (.slice none 0 0))])] (by decide) J (fun p hp => by
   simp only [List.mem_cons, List.not_mem_nil, or_false] at hp
   rcases hp with rfl | rfl | rfl | rfl | rfl | rfl
   ·exact .inl ⟨_, (.head _), J, J⟩
   ·exact .inr ⟨_, (.tail _ (.head _)), ZnE J, ZnE J, J⟩
   ·exact .inr ⟨_, (.tail _ (.tail _ (.head _))), ZnE J, ZnE J, J⟩
   ·exact .inr ⟨_, (.tail _ (.tail _ (.tail _ (.head _)))), ZnE J, ZnE J, J⟩
   ·exact .inr ⟨_, (.tail _ (.tail _ (.tail _ (.tail _ (.head _))))), ZnE J, ZnE J, J⟩
   ·exact .inr ⟨_, (.tail _ (.tail _ (.tail _ (.tail _ (.tail _ (.head _)))))), ZnE J, ZnE J, J⟩
   ) ?_
  refine .region (.sA (.add64 J J J) ?_)
  refine .mN ?_
  refine ⟨k + 1, ⟨by omega, Yag hk.2 HZ⟩, (by dsimp only; omega), Sub.less ⟨U, U, U, U, U, U, U, trivial⟩ (in6 (Yac (.tail _ (.head _)) (by rw [HT1, ZmA, <- HX]; first | done | rfl)) (Yac (.head _) (by rw [HT2, ZmA, <- HX2]; first | done | rfl)) (.tail _ (.tail _ (.head _))) (.tail _ (.tail _ (.tail _ (.head _)))) (.tail _ (.tail _ (.tail _ (.tail _ (.head _))))) (.tail _ (.tail _ (.tail _ (.tail _ (.tail _ (.head _)))))))⟩
 rw [ZlM] at h5
 obtain rfl : k = b.ctr.groups.length := by omega
 have HF : issF b l = 0 := (iss_g h0 h1n hd0).trans hk.2
 rw [issB_ok HF, issS_ok HF, HF]
 have e1 : (stmsB (salB b l) b).take b.ctr.groups.length = (stmsB (salB b l) b) := List.take_of_length_le (by unfold stmsB; rw [ZlM, hgz]; exact ZnR _)
 have e2 : (YbQ (salB b l) b).take b.ctr.groups.length = (YbQ (salB b l) b) := List.take_of_length_le (by unfold YbQ; rw [ZlM, hgz]; exact ZnR _)
 rw [e1, e2]
 refine .exit (.seq (.freezeIn 900 4 J (.tail _ (.tail _ (.tail _ (.head _)))) (.tail _ (.tail _ (.head _))) ?_))
 refine .freezeIn 900 5 J (.tail _ (.tail _ (.head _))) (.tail _ (.tail _ (.head _))) ?_
 refine .freezeIn 900 6 J (.tail _ (.head _)) (.tail _ (.head _)) ?_
 refine .region (.sA (.loadPU J Ybs J (.tail _ (.head _)) J J) ?_)
 refine .sA (.moveO J J) ?_
 refine .store J J J sz_40 J (.tail _ (.tail _ (.head _))) J J J (ZnB J) ?_
 refine .sA (.assignO J J) ?_
 refine .aN ?_
 refine .ret ?_
 refine ⟨RetR.agg J (.tail _ (.tail _ (.head _))) Ybs J (.c0 (.c0 (.c0 (.c0 (.c0 (.c0 (.c0 .nil))))))), RetD.own J (.head _) ?_, RetD.eq J ?_, trivial⟩
 all_goals (first | rfl)
end Go.Proofs.YtcfamaddnmnaeaaGreatDoor
