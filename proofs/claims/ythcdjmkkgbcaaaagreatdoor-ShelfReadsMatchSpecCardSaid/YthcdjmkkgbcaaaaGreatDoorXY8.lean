/- Walks and laws over abstract values, merged by tools/merge.py. No statement of the seat. -/
import Derived.Test.YthcdjmkkgbcaaaaGreatDoorXY7

namespace Go.Proofs.YthcdjmkkgbcaaaaGreatDoor
open Go.RowKit
set_option linter.unusedVariables false

/-! Types. -/
namespace TyTI
theorem bu_25 : StructT Tryz.prog 25 (fun i => (#[(0, 1), (1, 1)] : Array (Nat × Nat))[i]?) [(.slice none 0 0), (.slice none 0 0)] := .of (by kernel_rfl) (by kernel_rfl) (by decide)
theorem zt_45 : (Tryz.prog.info? 45).bind (·.zero) = some (.agg #[(.slice none 0 0), (.slice none 0 0), (.bool false)]) := by kernel_rfl
end TyTI
open TyH3 TyH4 TyH5 TyJ3 TyJ4 TyJ5 TyKA TyKB TyKC TyKD TyKE TyKF TyKG TyTA TyTB TyTD TyTE TyTG TyTF TyTH TyTI

theorem c_cutL (l : List UInt8) (c : UInt8) (hs : l.length < 4294967281) : ACallT Tryz.prog MaxT 18 [.v (.string (strL l)), .v (.string ⟨#[c]⟩)]
  (.tup [.v (.string (strL (Lib.cut l [c]).1)), .v (.string (strL (Lib.cut l [c]).2.1)), .v (.bool (Lib.cut l [c]).2.2)]) := c_cutA (strL l) c (by rw [strL_size]; exact hs)

set_option linter.unusedSimpArgs false
def lnX (l : List UInt8) : List UInt8 := ((ct 10 l).map Prod.fst).getD l
def lnR (l : List UInt8) : List UInt8 := ((ct 10 l).map Prod.snd).getD []
theorem c_cutN (l : List UInt8) (hs : l.length < 4294967281) : ACallT Tryz.prog MaxT 18 [.v (.string (strL l)), .v (.string ⟨#[10]⟩)] (.tup [.v (.string (strL (lnX l))), .v (.string (strL (lnR l))), .v (.bool (ct 10 l).isSome)]) := by
 have h := c_cutL l 10 hs
 rw [cut_ct] at h
 unfold lnX lnR
 cases hc : ct 10 l with
 | none => rw [hc] at h; exact h
 | some p => rw [hc] at h; exact h
section
variable {r : Tk} {l t : List UInt8} {i : Int}
theorem lnX_len (l : List UInt8) : (lnX l).length ≤ l.length := by
  unfold lnX
  cases h : ct 10 l with
  | none => exact Nat.le_refl _
  | some p => have := ct_lt h; show p.1.length ≤ _; omega
theorem bad_ln (h : takeV r (lnX l) = none) : ct 10 l = none ∨ ∃ p, ct 10 l = some p ∧ takeV r p.1 = none := by
  cases hc : ct 10 l with
  | none => exact .inl rfl
  | some p =>
    refine .inr ⟨p, rfl, ?_⟩
    unfold lnX at h
    rw [hc] at h; exact h
theorem readV_l (h : 100000 < t.length) : readV t = (⟨[], []⟩, 0, 2) := if_pos h
theorem readV_bad (h0 : ¬ 100000 < t.length) (h : readA tk0 t 1 = (r, i)) (hi : i ≠ 0) : readV t = (⟨[], []⟩, i, 10) := by
  unfold readV
  rw [if_neg h0, h, if_pos hi]
theorem readV_chk (h0 : ¬ 100000 < t.length) (h : readA tk0 t 1 = (r, 0)) (hc : chkF (ctlT r) ≠ 0) : readV t = (⟨[], []⟩, 0, chkF (ctlT r)) := by
  unfold readV
  rw [if_neg h0, h, if_neg (fun hh => hh rfl), if_pos hc]
theorem readV_ok (h0 : ¬ 100000 < t.length) (h : readA tk0 t 1 = (r, 0)) (hc : chkF (ctlT r) = 0) : readV t = (ctlT r, 0, 0) := by
  unfold readV
  rw [if_neg h0, h, if_neg (fun hh => hh rfl), if_neg (fun hh => hh hc)]
theorem tk0_ok : TkOk tk0 0 := ⟨fun t h => (nomatch h), fun m h => (nomatch h), Nat.le_refl _, Nat.le_refl _, fun h => (nomatch h)⟩
theorem TkOk.ctl {c : Nat} (h : TkOk r c) : CtlOk (ctlT r) := ⟨fun t ht => (h.thg t ht).1, h.mvd⟩
end

set_option maxRecDepth 100000 in
set_option maxHeartbeats 4000000 in
theorem c_pRead (s : ByteArray) : ACallT Tryz.prog MaxT 6 [.v (.string s)] (.tup [.agg (readV s.data.toList).1.ds, .v (.int .i64 (readV s.data.toList).2.1), .v (.int .i64 (readV s.data.toList).2.2)]) := by
 refine acall_ofRT (n := 44) (ds' := [.agg (readV s.data.toList).1.ds, .v (.int .i64 (readV s.data.toList).2.1), .v (.int .i64 (readV s.data.toList).2.2)]) Tryz.func6 rfl (by kernel_rfl) rfl [.cell 2 25, .tmp 3, .tmp 4] rfl rfl ?_
 intro B w0 F0 hT
 have hsl := Lib.size_eq s
 refine .sr ?_
 refine .alloc 301 rfl rfl rfl rfl zt_25 rfl rfl rfl ?_
 refine .aA ?_
 refine .aA (.nil ?_)
 refine .seq ?_
 refine .sr ?_
 refine .mA ?_
 refine .sA (.lenStr rfl st_9 rfl) ?_
 refine .sA (.gtr rfl rfl rfl) (.nil ?_)
 refine .cond rfl (fun h1 => ?_) (fun h1 => ?_)
 ·replace h1 := of_decide_eq_true h1
  rw [readV_l (by omega)]
  refine .sr ?_
  refine .sA (.build rfl bu_25 .nil rfl) ?_
  refine .store rfl rfl rfl sz_25 rfl (.head _) rfl rfl rfl (Nat.le_of_ble_eq_true rfl) ?_
  refine .aA ?_
  refine .aA (.nil ?_)
  refine .ret ?_
  refine ⟨RetR.agg rfl (.head _) ag_25 rfl (.cons (by first | exact CellD.nil | exact CellD.d | exact CellD.eq (by simp) | (refine CellD.own (by first | exact .head _ | exact .tail _ (.head _)) ?_; rfl)) (.cons (by first | exact CellD.nil | exact CellD.d | exact CellD.eq (by simp) | (refine CellD.own (by first | exact .head _ | exact .tail _ (.head _)) ?_; rfl)) .nil)), RetD.eq rfl ?_, RetD.eq rfl ?_, trivial⟩
  all_goals (first | rfl | simp)
 replace h1 := of_decide_eq_false h1
 have h0 : ¬ 100000 < s.data.toList.length := by omega
 refine .skip ?_
 refine .sr ?_
 refine .alloc 600 rfl rfl rfl rfl zt_45 rfl rfl rfl ?_
 refine .adoptCell 500 61 7 600 0 (.head _) rfl rfl ?_
 refine .adoptCell 501 54 2 600 1 (.tail _ (.head _)) rfl rfl ?_
 refine .nil ?_
 refine .seq ?_
 refine .seq ?_
 refine .obs (σ' := tkObs tk0 ++ [(301, .cells [.d (.v (.slice none 0 0)), .d (.v (.slice none 0 0))])]) (fun p hp => by
  simp only [tkObs, tkC, List.cons_append, List.nil_append, List.mem_cons, List.not_mem_nil, or_false] at hp
  rcases hp with rfl | rfl | rfl | rfl
  ·exact .tail _ (.tail _ (.head _))
  ·exact .tail _ (.head _)
  ·exact .head _
  exact .tail _ (.tail _ (.tail _ (.head _)))) ?_
 refine .region ?_
 refine .aA (.nil ?_)
 refine .block ?_
 refine .loop (G := List UInt8 × Tk × Nat) (fun ⟨y, r, n⟩ => Env.of [(0, .d (.v (.string (strL y)))), (6, .d (.v (.int .i64 ((n : Int) + 1)))), (5, .ptr 600 0), (2, .ptr 301 0)]) (fun ⟨y, r, n⟩ => (tkObs r ++ [(301, .cells [.d (.v (.slice none 0 0)), .d (.v (.slice none 0 0))])])) (fun ⟨y, r, n⟩ => readA tk0 s.data.toList 1 = readA r y ((n : Int) + 1) ∧ TkOk r (s.size - y.length) ∧ y.length ≤ s.size ∧ n + y.length ≤ s.size) (fun ⟨y, r, n⟩ => y.length) (s.data.toList, tk0, 0) ⟨rfl, tk0_ok.mono (Nat.zero_le _), by show s.data.toList.length ≤ _; omega, by show 0 + s.data.toList.length ≤ _; omega⟩ (Sub.less ⟨(SLe.of_eq rfl), (SLe.of_eq rfl), SLe.refl _, SLe.refl _, trivial⟩ (fun _ h => h)) ?_
 rintro ⟨y, r, n⟩ ⟨hR, HO, hy1, hy2⟩
 try dsimp only at hR HO hy1 hy2
 refine .seq ?_
 refine .sr ?_
 refine .mA ?_
 refine .sA (.sneq rfl rfl rfl) (.nil ?_)
 refine .cond rfl (fun h2 => ?_) (fun h2 => ?_)
 ·replace h2 := of_decide_eq_true h2
  have hy : y ≠ [] := fun hh => h2 (strL_nil.2 hh)
  have hal := HO.tl
  have hml := HO.ml
  have hxl := lnX_len y
  refine .skip ?_
  refine .seq ?_
  refine .block ?_
  refine .sr ?_
  refine .mA ?_
  -- wants the world
  refine .callT rfl rfl rfl hT maxT_stays rfl (.cons (.rfl' rfl) (.cons (.rfl' rfl) .nil)) (c_cutN y (by omega)) ?_
  refine .mA ?_
  refine .sA (.extract rfl rfl rfl) ?_
  refine .sA (.extract rfl rfl rfl) ?_
  refine .sA (.extract rfl rfl rfl) ?_
  refine .aA ?_
  refine .aA ?_
  refine .aA (.nil ?_)
  refine .seq ?_
  refine .sr ?_
  refine .mA ?_
  refine .sA (.not rfl rfl) ?_
  refine .mA ?_
  refine .split 27 rfl (fun g3 => ?_) (fun g3 => ?_)
  ·replace g3 := bnot_t g3
   have hct : ct 10 y = none := by
    cases hh : ct 10 y with
    | none => rfl
    | some v => rw [hh] at g3; cases g3
   have HV := readV_bad h0 (hR.trans (readA_bad hy (.inl hct))) (by omega)
   rw [HV]
   refine .pA ?_
   refine .pA ?_
   refine .pA ?_
   refine .sA (.pickT rfl rfl rfl) (.nil ?_)
   refine .cond rfl (fun _ => ?_) (fun h => nomatch h)
   refine .sr ?_
   refine .sA (.build rfl bu_25 .nil rfl) ?_
   refine .mA ?_
   refine .store rfl rfl rfl sz_25 rfl (.tail _ (.tail _ (.tail _ (.head _)))) rfl rfl rfl (Nat.le_of_ble_eq_true rfl) ?_
   refine .aA ?_
   refine .aA (.nil ?_)
   refine .ret ?_
   refine ⟨RetR.agg rfl (.tail _ (.tail _ (.tail _ (.head _)))) ag_25 rfl (.cons (by first | exact CellD.nil | exact CellD.d | exact CellD.eq (by simp) | (refine CellD.own (by first | exact .head _ | exact .tail _ (.head _)) ?_; rfl)) (.cons (by first | exact CellD.nil | exact CellD.d | exact CellD.eq (by simp) | (refine CellD.own (by first | exact .head _ | exact .tail _ (.head _)) ?_; rfl)) .nil)), RetD.eq rfl ?_, RetD.eq rfl ?_, trivial⟩
   all_goals (first | rfl | simp)
  replace g3 := bnot_f g3
  obtain ⟨⟨x, z⟩, hct⟩ : ∃ p, ct 10 y = some p := Option.isSome_iff_exists.1 (by simpa using g3)
  have hX : lnX y = x := by unfold lnX; rw [hct]; rfl
  have hZ : lnR y = z := by unfold lnR; rw [hct]; rfl
  have hln := ct_lt hct
  try dsimp only at hln
  rw [hX, hZ]
  refine .sG (.moveD rfl rfl) ?_
  -- writes 600 500 501
  refine .callXTG ⟨27, rfl, .inl ⟨_, rfl, rfl⟩⟩ rfl rfl (TC.of maxT_at hT) (.cons (SLe.refl _) (.cons (SLe.refl _) .nil)) (c_take r.things r.moved r.opn (strL x) (by rw [strL_size]; omega) (by omega) (by omega) HO.op) ⟨(.head _), (.tail _ (.head _)), (.tail _ (.tail _ (.head _))), trivial⟩ rfl rfl (fun _ h => rfl) ?_
  refine .sG (.not rfl rfl) ?_
  refine .sA (.pickF rfl rfl rfl) (.nil ?_)
  refine .cond rfl (fun h4 => ?_) (fun h4 => ?_)
  ·replace h4 := bnot_t h4
   have hn : takeV r x = none := by
    cases hh : takeV r x with
    | none => rfl
    | some v => exfalso; have hz : (takeV r x).isSome = false := h4; rw [hh] at hz; cases hz
   have HV := readV_bad h0 (hR.trans (readA_bad hy (.inr ⟨_, hct, hn⟩))) (by omega)
   rw [HV]
   refine .sr ?_
   refine .sA (.build rfl bu_25 .nil rfl) ?_
   refine .mA ?_
   refine .store rfl rfl rfl sz_25 rfl (.tail _ (.tail _ (.tail _ (.head _)))) rfl rfl rfl (Nat.le_of_ble_eq_true rfl) ?_
   refine .aA ?_
   refine .aA (.nil ?_)
   refine .ret ?_
   refine ⟨RetR.agg rfl (.tail _ (.tail _ (.tail _ (.head _)))) ag_25 rfl (.cons (by first | exact CellD.nil | exact CellD.d | exact CellD.eq (by simp) | (refine CellD.own (by first | exact .head _ | exact .tail _ (.head _)) ?_; rfl)) (.cons (by first | exact CellD.nil | exact CellD.d | exact CellD.eq (by simp) | (refine CellD.own (by first | exact .head _ | exact .tail _ (.head _)) ?_; rfl)) .nil)), RetD.eq rfl ?_, RetD.eq rfl ?_, trivial⟩
   all_goals (first | rfl | simp)
  replace h4 := bnot_f h4
  obtain ⟨r2, hr2⟩ : ∃ r2, takeV r x = some r2 := Option.isSome_iff_exists.1 (show (takeV r x).isSome = true from h4)
  have HN := tn_s hr2
  have HO2 := (takeV_ok HO (by omega) hr2).mono (c' := s.size - z.length) (by omega)
  have HA := hR.trans (readA_next hct hr2)
  refine .skip ?_
  refine .region ?_
  refine .mA ?_
  refine .aA (.nil ?_)
  refine .region ?_
  refine .mA ?_
  refine .sA (.add64 rfl rfl rfl (by omega) (by omega)) ?_
  refine .aA (.nil ?_)
  refine ⟨(z, r2, n + 1), ⟨by show _ = readA r2 z (((n + 1 : Nat) : Int) + 1); rw [show ((n + 1 : Nat) : Int) + 1 = (n : Int) + 1 + 1 by omega]; exact HA, HO2, by show z.length ≤ _; omega, by show n + 1 + z.length ≤ _; omega⟩, (by dsimp only; omega), Sub.less ⟨(SLe.of_eq rfl), (SLe.of_eq (by congr 1)), SLe.refl _, SLe.refl _, trivial⟩ (obs_e (by dsimp only; rw [← HN]; rfl))⟩
 replace h2 := of_decide_eq_false h2
 have hy : y = [] := strL_nil.1 (by first | exact h2 | exact Decidable.not_not.1 h2)
 subst hy
 rw [readA_nil] at hR
 refine .exit ?_
 refine .seq ?_
 refine .seq ?_
 refine .freezeIn 600 0 rfl (.head _) (.tail _ (.head _)) ?_
 refine .freezeIn 600 1 rfl (.head _) (.tail _ (.head _)) ?_
 refine .region ?_
 refine .sA (.fieldAddrP rfl fo_45_0 rfl) ?_
 refine .sA (.loadPU rfl ag_25 rfl (.head _) rfl rfl) ?_
 -- wants the world
 refine .callT rfl rfl rfl hT maxT_stays rfl (.cons (.rfl' rfl) .nil) (c_pChk (ctlT r) HO.ctl) ?_
 refine .aA (.nil ?_)
 refine .sr ?_
 refine .mA ?_
 refine .sA (.neq rfl rfl rfl) (.nil ?_)
 refine .cond rfl (fun h5 => ?_) (fun h5 => ?_)
 ·replace h5 := of_decide_eq_true h5
  rw [readV_chk h0 hR h5]
  refine .sr ?_
  refine .sA (.build rfl bu_25 .nil rfl) ?_
  refine .mA ?_
  refine .store rfl rfl rfl sz_25 rfl (.tail _ (.head _)) rfl rfl rfl (Nat.le_of_ble_eq_true rfl) ?_
  refine .aA ?_
  refine .aA (.nil ?_)
  refine .ret ?_
  refine ⟨RetR.agg rfl (.tail _ (.head _)) ag_25 rfl (.cons (by first | exact CellD.nil | exact CellD.d | exact CellD.eq (by simp) | (refine CellD.own (by first | exact .head _ | exact .tail _ (.head _)) ?_; rfl)) (.cons (by first | exact CellD.nil | exact CellD.d | exact CellD.eq (by simp) | (refine CellD.own (by first | exact .head _ | exact .tail _ (.head _)) ?_; rfl)) .nil)), RetD.eq rfl ?_, RetD.eq rfl ?_, trivial⟩
  all_goals (first | rfl | simp)
 replace h5 := of_decide_eq_false h5
 rw [readV_ok h0 hR (by first | exact h5 | exact Decidable.not_not.1 h5)]
 refine .skip ?_
 refine .sr ?_
 refine .sA (.fieldAddrP rfl fo_45_0 rfl) ?_
 refine .sA (.loadPU rfl ag_25 rfl (.head _) rfl rfl) ?_
 refine .store rfl rfl rfl sz_25 rfl (.tail _ (.head _)) rfl rfl rfl (Nat.le_of_ble_eq_true rfl) ?_
 refine .aA ?_
 refine .aA (.nil ?_)
 refine .ret ?_
 refine ⟨RetR.agg rfl (.tail _ (.head _)) ag_25 rfl (.cons (by first | exact CellD.nil | exact CellD.d | exact CellD.eq (by simp) | (refine CellD.own (by first | exact .head _ | exact .tail _ (.head _)) ?_; rfl)) (.cons (by first | exact CellD.nil | exact CellD.d | exact CellD.eq (by simp) | (refine CellD.own (by first | exact .head _ | exact .tail _ (.head _)) ?_; rfl)) .nil)), RetD.eq rfl ?_, RetD.eq rfl ?_, trivial⟩
 all_goals (first | rfl | simp)

set_option maxRecDepth 100000 in
set_option maxHeartbeats 4000000 in
theorem c_rRead (s : ByteArray) : ACallT Tryz.prog MaxT 7 [.v (.string s)] (.tup [.agg (readV s.data.toList).1.ds, .v (.int .i64 (readV s.data.toList).2.1), .v (.int .i64 (readV s.data.toList).2.2)]) := by
 refine acall_ofRT (n := 55) (ds' := [.agg (readV s.data.toList).1.ds, .v (.int .i64 (readV s.data.toList).2.1), .v (.int .i64 (readV s.data.toList).2.2)]) Tryz.func7 rfl (by kernel_rfl) rfl [.cell 2 25, .tmp 3, .tmp 4] rfl rfl ?_
 intro B w0 F0 hT
 have hsl := Lib.size_eq s
 refine .sr ?_
 refine .alloc 301 rfl rfl rfl rfl zt_25 rfl rfl rfl ?_
 refine .aA ?_
 refine .aA (.nil ?_)
 refine .seq ?_
 refine .sr ?_
 refine .mA ?_
 refine .sA (.lenStr rfl st_9 rfl) ?_
 refine .sA (.gtr rfl rfl rfl) (.nil ?_)
 refine .cond rfl (fun h1 => ?_) (fun h1 => ?_)
 ·replace h1 := of_decide_eq_true h1
  rw [readV_l (by omega)]
  refine .sr ?_
  refine .sA (.build rfl bu_25 .nil rfl) ?_
  refine .store rfl rfl rfl sz_25 rfl (.head _) rfl rfl rfl (Nat.le_of_ble_eq_true rfl) ?_
  refine .aA ?_
  refine .aA (.nil ?_)
  refine .ret ?_
  refine ⟨RetR.agg rfl (.head _) ag_25 rfl (.cons (by first | exact CellD.nil | exact CellD.d | exact CellD.eq (by simp) | (refine CellD.own (by first | exact .head _ | exact .tail _ (.head _)) ?_; rfl)) (.cons (by first | exact CellD.nil | exact CellD.d | exact CellD.eq (by simp) | (refine CellD.own (by first | exact .head _ | exact .tail _ (.head _)) ?_; rfl)) .nil)), RetD.eq rfl ?_, RetD.eq rfl ?_, trivial⟩
  all_goals (first | rfl | simp)
 replace h1 := of_decide_eq_false h1
 have h0 : ¬ 100000 < s.data.toList.length := by omega
 refine .skip ?_
 refine .sr ?_
 refine .alloc 303 rfl rfl rfl rfl zt_25 rfl rfl rfl (.nil ?_)
 refine .seq ?_
 refine .adoptCell 501 61 7 303 0 (.head _) rfl rfl ?_
 refine .adoptCell 502 54 2 303 1 (.tail _ (.head _)) rfl rfl ?_
 refine .freezeIn 303 0 rfl (.tail _ (.head _)) (.tail _ (.head _)) ?_
 refine .freezeIn 303 1 rfl (.head _) (.head _) ?_
 refine .region ?_
 refine .aA (.nil ?_)
 refine .sr ?_
 refine .aA (.nil ?_)
 refine .seq ?_
 refine .block ?_
 refine .loop (G := List UInt8 × Tk × Nat) (fun ⟨y, r, n⟩ => Env.of [(0, .d (.v (.string (strL y)))), (7, .d (.v (.int .i64 (n : Int)))), (6, .d (.v (.bool r.opn))), (5, .ptr 303 0), (2, .ptr 301 0)]) (fun ⟨y, r, n⟩ => [(303, .cells [.d (.sl (r.things.map Thg.ds)), .d (.sl (r.moved.map Mvd.ds))]), (301, .cells [.d (.v (.slice none 0 0)), .d (.v (.slice none 0 0))])]) (fun ⟨y, r, n⟩ => readA tk0 s.data.toList 1 = readA r y ((n : Int) + 1) ∧ TkOk r (s.size - y.length) ∧ y.length ≤ s.size ∧ n + y.length ≤ s.size) (fun ⟨y, r, n⟩ => y.length) (s.data.toList, tk0, 0) ⟨rfl, tk0_ok.mono (Nat.zero_le _), by show s.data.toList.length ≤ _; omega, by show 0 + s.data.toList.length ≤ _; omega⟩ (Sub.less ⟨(SLe.of_eq rfl), (SLe.of_eq rfl), (SLe.of_eq rfl), SLe.refl _, SLe.refl _, trivial⟩ (obs_e rfl)) ?_
 rintro ⟨y, r, n⟩ ⟨hR, HO, hy1, hy2⟩
 try dsimp only at hR HO hy1 hy2
 refine .seq ?_
 refine .sr ?_
 refine .mA ?_
 refine .sA (.sneq rfl rfl rfl) (.nil ?_)
 refine .cond rfl (fun h2 => ?_) (fun h2 => ?_)
 ·replace h2 := of_decide_eq_true h2
  have hy : y ≠ [] := fun hh => h2 (strL_nil.2 hh)
  have hal := HO.tl
  have hml := HO.ml
  have hxl := lnX_len y
  refine .skip ?_
  refine .block ?_
  refine .sr ?_
  refine .mA ?_
  refine .sA (.add64 rfl rfl rfl (by omega) (by omega)) ?_
  refine .aA (.nil ?_)
  refine .sr ?_
  refine .mA ?_
  -- wants the world
  refine .callT rfl rfl rfl hT maxT_stays rfl (.cons (.rfl' rfl) (.cons (.rfl' rfl) .nil)) (c_cutN y (by omega)) ?_
  refine .mA ?_
  refine .sA (.extract rfl rfl rfl) ?_
  refine .sA (.extract rfl rfl rfl) ?_
  refine .sA (.extract rfl rfl rfl) ?_
  refine .aA ?_
  refine .aA ?_
  refine .aA (.nil ?_)
  refine .sr ?_
  refine .sA (.loadPU rfl ag_25 rfl (.head _) rfl rfl) ?_
  refine .mA ?_
  refine .mA ?_
  -- wants the world
  refine .callT rfl rfl rfl hT maxT_stays rfl (.cons (.rfl' rfl) (.cons (.rfl' rfl) (.cons (.rfl' rfl) .nil))) (c_rLine r.things r.moved r.opn (strL (lnX y)) (by rw [strL_size]; omega) (by omega) (by omega) HO.op) ?_
  refine .mA ?_
  refine .sA (.extract rfl rfl rfl) ?_
  refine .sA (.extract rfl rfl rfl) ?_
  refine .sA (.extract rfl rfl rfl) ?_
  refine .alloc 103 rfl rfl rfl rfl zt_25 rfl rfl rfl ?_
  refine .store rfl rfl rfl sz_25 rfl (.head _) rfl rfl rfl (Nat.le_of_ble_eq_true rfl) ?_
  refine .freezeCells 11 (ds := (ctlT ((takeV r (lnX y)).getD r)).ds) rfl (.head _) ?_
  refine .aA ?_
  refine .aA (.nil ?_)
  refine .seq ?_
  refine .sr ?_
  refine .mA ?_
  refine .sA (.not rfl rfl) ?_
  refine .mA ?_
  refine .split 39 rfl (fun g3 => ?_) (fun g3 => ?_)
  ·replace g3 := bnot_t g3
   have hn : takeV r (lnX y) = none := by
    cases hh : takeV r (lnX y) with
    | none => rfl
    | some v => exfalso; have hz : (takeV r (lnX y)).isSome = false := g3; rw [hh] at hz; cases hz
   have HV := readV_bad h0 (hR.trans (readA_bad hy (bad_ln hn))) (by omega)
   rw [HV]
   refine .pA ?_
   refine .pA ?_
   refine .sA (.pickT rfl rfl rfl) (.nil ?_)
   refine .cond rfl (fun _ => ?_) (fun h => nomatch h)
   refine .sr ?_
   refine .sA (.build rfl bu_25 .nil rfl) ?_
   refine .mA ?_
   refine .store rfl rfl rfl sz_25 rfl (.tail _ (.head _)) rfl rfl rfl (Nat.le_of_ble_eq_true rfl) ?_
   refine .aA ?_
   refine .aA (.nil ?_)
   refine .ret ?_
   refine ⟨RetR.agg rfl (.tail _ (.head _)) ag_25 rfl (.cons (by first | exact CellD.nil | exact CellD.d | exact CellD.eq (by simp) | (refine CellD.own (by first | exact .head _ | exact .tail _ (.head _)) ?_; rfl)) (.cons (by first | exact CellD.nil | exact CellD.d | exact CellD.eq (by simp) | (refine CellD.own (by first | exact .head _ | exact .tail _ (.head _)) ?_; rfl)) .nil)), RetD.eq rfl ?_, RetD.eq rfl ?_, trivial⟩
   all_goals (first | rfl | simp)
  replace g3 := bnot_f g3
  have hok : (takeV r (lnX y)).isSome = true := g3
  refine .sG (.moveD rfl rfl) ?_
  refine .sG (.not rfl rfl) ?_
  refine .sA (.pickF rfl rfl rfl) (.nil ?_)
  refine .cond rfl (fun h4 => ?_) (fun h4 => ?_)
  ·replace h4 := bnot_t h4
   have hct : ct 10 y = none := by
    cases hh : ct 10 y with
    | none => rfl
    | some v => rw [hh] at h4; cases h4
   have HV := readV_bad h0 (hR.trans (readA_bad hy (.inl hct))) (by omega)
   rw [HV]
   refine .sr ?_
   refine .sA (.build rfl bu_25 .nil rfl) ?_
   refine .mA ?_
   refine .store rfl rfl rfl sz_25 rfl (.tail _ (.head _)) rfl rfl rfl (Nat.le_of_ble_eq_true rfl) ?_
   refine .aA ?_
   refine .aA (.nil ?_)
   refine .ret ?_
   refine ⟨RetR.agg rfl (.tail _ (.head _)) ag_25 rfl (.cons (by first | exact CellD.nil | exact CellD.d | exact CellD.eq (by simp) | (refine CellD.own (by first | exact .head _ | exact .tail _ (.head _)) ?_; rfl)) (.cons (by first | exact CellD.nil | exact CellD.d | exact CellD.eq (by simp) | (refine CellD.own (by first | exact .head _ | exact .tail _ (.head _)) ?_; rfl)) .nil)), RetD.eq rfl ?_, RetD.eq rfl ?_, trivial⟩
   all_goals (first | rfl | simp)
  replace h4 := bnot_f h4
  obtain ⟨⟨x, z⟩, hct⟩ : ∃ p, ct 10 y = some p := Option.isSome_iff_exists.1 (by simpa using h4)
  have hX : lnX y = x := by unfold lnX; rw [hct]; rfl
  have hZ : lnR y = z := by unfold lnR; rw [hct]; rfl
  have hln := ct_lt hct
  try dsimp only at hln
  obtain ⟨r2, hr2⟩ : ∃ r2, takeV r x = some r2 := Option.isSome_iff_exists.1 (by rw [← hX]; exact hok)
  rw [hX, hZ]
  have HO2 := (takeV_ok HO (by omega) hr2).mono (c' := s.size - z.length) (by omega)
  have HA := hR.trans (readA_next hct hr2)
  refine .skip ?_
  refine .region ?_
  refine .sA (.loadAgg rfl ag_25 rfl rfl) ?_
  refine .mA ?_
  refine .mA ?_
  refine .store rfl rfl rfl sz_25 rfl (.head _) rfl rfl rfl (Nat.le_of_ble_eq_true rfl) ?_
  refine .aA ?_
  refine .aA (.nil ?_)
  refine ⟨(z, r2, n + 1), ⟨by show _ = readA r2 z (((n + 1 : Nat) : Int) + 1); rw [show ((n + 1 : Nat) : Int) + 1 = (n : Int) + 1 + 1 by omega]; exact HA, HO2, by show z.length ≤ _; omega, by show n + 1 + z.length ≤ _; omega⟩, (by dsimp only; omega), Sub.less ⟨(SLe.of_eq rfl), (SLe.i64 (by omega)), (SLe.of_eq (by show S.d (.v (.bool (((takeV r x).map Tk.opn).getD false))) = _; rw [hr2]; rfl)), SLe.refl _, SLe.refl _, trivial⟩ (obs_e (by dsimp only; rw [hr2]; rfl))⟩
 replace h2 := of_decide_eq_false h2
 have hy : y = [] := strL_nil.1 (by first | exact h2 | exact Decidable.not_not.1 h2)
 subst hy
 rw [readA_nil] at hR
 refine .exit ?_
 refine .seq ?_
 refine .sr ?_
 refine .sA (.loadPU rfl ag_25 rfl (.head _) rfl rfl) ?_
 -- wants the world
 refine .callT rfl rfl rfl hT maxT_stays rfl (.cons (.rfl' rfl) .nil) (c_rChk (ctlT r) HO.ctl) ?_
 refine .aA (.nil ?_)
 refine .sr ?_
 refine .mA ?_
 refine .sA (.neq rfl rfl rfl) (.nil ?_)
 refine .cond rfl (fun h5 => ?_) (fun h5 => ?_)
 ·replace h5 := of_decide_eq_true h5
  rw [readV_chk h0 hR h5]
  refine .sr ?_
  refine .sA (.build rfl bu_25 .nil rfl) ?_
  refine .mA ?_
  refine .store rfl rfl rfl sz_25 rfl (.tail _ (.head _)) rfl rfl rfl (Nat.le_of_ble_eq_true rfl) ?_
  refine .aA ?_
  refine .aA (.nil ?_)
  refine .ret ?_
  refine ⟨RetR.agg rfl (.tail _ (.head _)) ag_25 rfl (.cons (by first | exact CellD.nil | exact CellD.d | exact CellD.eq (by simp) | (refine CellD.own (by first | exact .head _ | exact .tail _ (.head _)) ?_; rfl)) (.cons (by first | exact CellD.nil | exact CellD.d | exact CellD.eq (by simp) | (refine CellD.own (by first | exact .head _ | exact .tail _ (.head _)) ?_; rfl)) .nil)), RetD.eq rfl ?_, RetD.eq rfl ?_, trivial⟩
  all_goals (first | rfl | simp)
 replace h5 := of_decide_eq_false h5
 rw [readV_ok h0 hR (by first | exact h5 | exact Decidable.not_not.1 h5)]
 refine .skip ?_
 refine .sr ?_
 refine .sA (.loadPU rfl ag_25 rfl (.head _) rfl rfl) ?_
 refine .store rfl rfl rfl sz_25 rfl (.tail _ (.head _)) rfl rfl rfl (Nat.le_of_ble_eq_true rfl) ?_
 refine .aA ?_
 refine .aA (.nil ?_)
 refine .ret ?_
 refine ⟨RetR.agg rfl (.tail _ (.head _)) ag_25 rfl (.cons (by first | exact CellD.nil | exact CellD.d | exact CellD.eq (by simp) | (refine CellD.own (by first | exact .head _ | exact .tail _ (.head _)) ?_; rfl)) (.cons (by first | exact CellD.nil | exact CellD.d | exact CellD.eq (by simp) | (refine CellD.own (by first | exact .head _ | exact .tail _ (.head _)) ?_; rfl)) .nil)), RetD.eq rfl ?_, RetD.eq rfl ?_, trivial⟩
 all_goals (first | rfl | simp)

end Go.Proofs.YthcdjmkkgbcaaaaGreatDoor

namespace Go.Proofs.YthcdjmkkgbcaaaaGreatDoor
open Go.RowKit
set_option linter.unusedVariables false

/-! Types. -/
namespace TyTJ
end TyTJ
open TyH3 TyH4 TyH5 TyJ3 TyJ4 TyJ5 TyKA TyKB TyKC TyKD TyKE TyKF TyKG TyTA TyTB TyTD TyTE TyTG TyTF TyTH TyTI TyTJ

theorem take_all_eq {α : Type} {l r : List α} (h : l.length = r.length) (h2 : l.take l.length = r.take l.length) : l = r := by
  rw [List.take_length, h, List.take_length] at h2; exact h2
theorem take_eq {α : Type} {l r : List α} {k : Nat} (hl : k < l.length) (hr : k < r.length) (h : l.take k = r.take k) (h2 : l[k] = r[k]) : l.take (k + 1) = r.take (k + 1) := by
  rw [List.take_add_one, List.take_add_one, List.getElem?_eq_getElem hl, List.getElem?_eq_getElem hr, h, h2]
theorem eqT_mvd : EqT Tryz.prog 54 [.int .i64, .int .i64] := .of (by kernel_rfl)
theorem eq_mvd (x y : Mvd) : EqD Tryz.prog 54 x.ds y.ds (decide (x.src = y.src ∧ x.dst = y.dst)) := .of eqT_mvd [.int .i64 x.src, .int .i64 x.dst] [.int .i64 y.src, .int .i64 y.dst] rfl rfl rfl rfl (by simp [sameL, sameV])
theorem mvd_ext {x y : Mvd} (h : x.src = y.src ∧ x.dst = y.dst) : x = y := by cases x; cases y; obtain ⟨h1, h2⟩ := h; dsimp only at h1 h2; rw [h1, h2]
theorem thg_dec {a b : Thg} (e1 : a.id = b.id) (e2 : a.kind = b.kind) (e3 : a.title = b.title) (e4 : a.code = b.code) (e5 : a.since = b.since) (e6 : a.parent = b.parent) : decide (a.parts = b.parts) = decide (a = b) := by
  apply decide_eq_decide.2
  cases a; cases b
  dsimp only at e1 e2 e3 e4 e5 e6
  subst e1 e2 e3 e4 e5 e6
  simp

set_option maxRecDepth 100000 in
set_option maxHeartbeats 1000000 in
theorem c_eqI (l r : List Int) : ACall Tryz.prog 17 [.sl (l.map intD), .sl (r.map intD)] (.v (.bool (decide (l = r)))) := by
 refine acall_of (n := 26) (ds' := [.v (.bool (decide (l = r)))]) Tryz.func17 rfl (by kernel_rfl) rfl [4] rfl rfl ?_
 intro B w0 F0 fr
 refine .bound 0 rfl (fun hbd0 => ?_)
 rw [List.length_map] at hbd0
 refine .bound 1 rfl (fun hbd1 => ?_)
 rw [List.length_map] at hbd1
 refine .sr ?_
 refine .aA (.nil ?_)
 refine .seq ?_
 refine .sr ?_
 refine .mA ?_
 refine .sA (.lenSl rfl et_39.ht rfl) ?_
 refine .mA ?_
 refine .sA (.lenSl rfl et_39.ht rfl) ?_
 refine .sA (.neq rfl rfl rfl) (.nil ?_)
 refine .cond rfl (fun h1 => ?_) (fun h1 => ?_)
 ·replace h1 := of_decide_eq_true h1
  rw [List.length_map, List.length_map] at h1
  rw [decide_eq_false (show ¬ l = r from fun e => h1 (by rw [e]))]
  refine .sr ?_
  refine .aA (.nil ?_)
  refine .ret ?_
  refine ⟨RetD.eq rfl ?_, trivial⟩
  all_goals (rfl)
 replace h1 := of_decide_eq_false h1
 rw [List.length_map, List.length_map] at h1
 have hle : l.length = r.length := by omega
 refine .skip ?_
 refine .seq ?_
 refine .sr ?_
 refine .mA ?_
 refine .sA (.lenSl rfl et_39.ht rfl) ?_
 refine .mA (.nil ?_)
 refine .block ?_
 refine .loop (G := Nat) (fun k => Env.of [(13, .d (.v (.int .i64 (k : Int)))), (0, .d (.sl (l.map intD))), (1, .d (.sl (r.map intD))), (12, .d (.v (.int .i64 ((l.map intD).length : Int))))]) (fun k => []) (fun k => k ≤ l.length ∧ l.take k = r.take k) (fun k => l.length - k) 0 ⟨Nat.zero_le _, by simp⟩ (Sub.less ⟨(SLe.of_eq rfl), SLe.refl _, SLe.refl _, SLe.refl _, trivial⟩ (fun _ h => h)) ?_
 intro k hk
 refine .sr ?_
 refine .sA (.lss rfl rfl rfl) (.nil ?_)
 refine .seq ?_
 refine .cond rfl (fun h2 => ?_) (fun h2 => ?_)
 ·replace h2 := of_decide_eq_true h2
  rw [List.length_map] at h2
  have hlt : k < l.length := by omega
  have hlr : k < r.length := by omega
  refine .skip ?_
  refine .seq ?_
  refine .block ?_
  refine .sr ?_
  refine .mA ?_
  refine .aA (.nil ?_)
  refine .seq ?_
  refine .draw (by kernel_rfl) (by kernel_rfl) ?_
  refine .sA (.moveD rfl rfl) ?_
  refine .sA (.moveD rfl rfl) ?_
  refine .sA (.indexAddr rfl et_39 rfl rfl k rfl (at_lst hlt) rfl) ?_
  refine .sA (.load rfl sc_3 rfl) ?_
  refine .sA (.moveD rfl rfl) ?_
  refine .sA (.moveD rfl rfl) ?_
  refine .sA (.indexAddr rfl et_39 rfl rfl k rfl (at_lst hlr) rfl) ?_
  refine .sA (.load rfl sc_3 rfl) ?_
  refine .sA (.neq rfl rfl rfl) ?_
  refine .nil ?_
  refine .cond rfl (fun h3 => ?_) (fun h3 => ?_)
  ·replace h3 := of_decide_eq_true h3
   rw [decide_eq_false (show ¬ l = r from fun e => h3 (by subst e; rfl))]
   refine .sr ?_
   refine .aA (.nil ?_)
   refine .ret ?_
   refine ⟨RetD.eq rfl ?_, trivial⟩
   all_goals (rfl)
  replace h3 := of_decide_eq_false h3
  have hT := take_eq hlt hlr hk.2 (by first | exact h3 | omega)
  refine .skip ?_
  refine .region ?_
  refine .sA (.add64 rfl rfl rfl (by omega) (by omega)) ?_
  refine .mA (.nil ?_)
  refine ⟨k + 1, ⟨by omega, hT⟩, (by dsimp only; omega), Sub.less ⟨(SLe.of_eq rfl), SLe.refl _, SLe.refl _, SLe.refl _, trivial⟩ (fun _ h => h)⟩
 replace h2 := of_decide_eq_false h2
 rw [List.length_map] at h2
 obtain rfl : k = l.length := by omega
 rw [decide_eq_true (take_all_eq hle hk.2)]
 refine .exit ?_
 refine .sr ?_
 refine .aA (.nil ?_)
 refine .ret ?_
 refine ⟨RetD.eq rfl ?_, trivial⟩
 all_goals (rfl)

set_option maxRecDepth 100000 in
set_option maxHeartbeats 1000000 in
theorem c_eqM (l r : List Mvd) : ACall Tryz.prog 24 [.sl (l.map Mvd.ds), .sl (r.map Mvd.ds)] (.v (.bool (decide (l = r)))) := by
 refine acall_of (n := 26) (ds' := [.v (.bool (decide (l = r)))]) Tryz.func24 rfl (by kernel_rfl) rfl [4] rfl rfl ?_
 intro B w0 F0 fr
 refine .bound 0 rfl (fun hbd0 => ?_)
 rw [List.length_map] at hbd0
 refine .bound 1 rfl (fun hbd1 => ?_)
 rw [List.length_map] at hbd1
 refine .sr ?_
 refine .aA (.nil ?_)
 refine .seq ?_
 refine .sr ?_
 refine .mA ?_
 refine .sA (.lenSl rfl et_23.ht rfl) ?_
 refine .mA ?_
 refine .sA (.lenSl rfl et_23.ht rfl) ?_
 refine .sA (.neq rfl rfl rfl) (.nil ?_)
 refine .cond rfl (fun h1 => ?_) (fun h1 => ?_)
 ·replace h1 := of_decide_eq_true h1
  rw [List.length_map, List.length_map] at h1
  rw [decide_eq_false (show ¬ l = r from fun e => h1 (by rw [e]))]
  refine .sr ?_
  refine .aA (.nil ?_)
  refine .ret ?_
  refine ⟨RetD.eq rfl ?_, trivial⟩
  all_goals (rfl)
 replace h1 := of_decide_eq_false h1
 rw [List.length_map, List.length_map] at h1
 have hle : l.length = r.length := by omega
 refine .skip ?_
 refine .seq ?_
 refine .sr ?_
 refine .mA ?_
 refine .sA (.lenSl rfl et_23.ht rfl) ?_
 refine .mA (.nil ?_)
 refine .block ?_
 refine .loop (G := Nat) (fun k => Env.of [(13, .d (.v (.int .i64 (k : Int)))), (0, .d (.sl (l.map Mvd.ds))), (1, .d (.sl (r.map Mvd.ds))), (12, .d (.v (.int .i64 ((l.map Mvd.ds).length : Int))))]) (fun k => []) (fun k => k ≤ l.length ∧ l.take k = r.take k) (fun k => l.length - k) 0 ⟨Nat.zero_le _, by simp⟩ (Sub.less ⟨(SLe.of_eq rfl), SLe.refl _, SLe.refl _, SLe.refl _, trivial⟩ (fun _ h => h)) ?_
 intro k hk
 refine .sr ?_
 refine .sA (.lss rfl rfl rfl) (.nil ?_)
 refine .seq ?_
 refine .cond rfl (fun h2 => ?_) (fun h2 => ?_)
 ·replace h2 := of_decide_eq_true h2
  rw [List.length_map] at h2
  have hlt : k < l.length := by omega
  have hlr : k < r.length := by omega
  refine .skip ?_
  refine .seq ?_
  refine .block ?_
  refine .sr ?_
  refine .mA ?_
  refine .aA (.nil ?_)
  refine .seq ?_
  refine .draw (by kernel_rfl) (by kernel_rfl) ?_
  refine .sA (.moveD rfl rfl) ?_
  refine .sA (.moveD rfl rfl) ?_
  refine .sA (.indexAddr rfl et_23 rfl rfl k rfl (at_lst hlt) rfl) ?_
  refine .sA (.loadAgg rfl ag_54 rfl rfl) ?_
  refine .sA (.moveD rfl rfl) ?_
  refine .sA (.moveD rfl rfl) ?_
  refine .sA (.indexAddr rfl et_23 rfl rfl k rfl (at_lst hlr) rfl) ?_
  refine .sA (.loadAgg rfl ag_54 rfl rfl) ?_
  refine .sA (.aggNeq rfl rfl rfl (eq_mvd _ _)) ?_
  refine .nil ?_
  refine .cond rfl (fun h3 => ?_) (fun h3 => ?_)
  ·replace h3 := bnot_t h3; replace h3 := of_decide_eq_false h3
   rw [decide_eq_false (show ¬ l = r from fun e => h3 (by subst e; exact ⟨rfl, rfl⟩))]
   refine .sr ?_
   refine .aA (.nil ?_)
   refine .ret ?_
   refine ⟨RetD.eq rfl ?_, trivial⟩
   all_goals (rfl)
  replace h3 := bnot_f h3; replace h3 := of_decide_eq_true h3
  have hT := take_eq hlt hlr hk.2 (mvd_ext (by first | exact h3 | exact Decidable.not_not.1 h3))
  refine .skip ?_
  refine .region ?_
  refine .sA (.add64 rfl rfl rfl (by omega) (by omega)) ?_
  refine .mA (.nil ?_)
  refine ⟨k + 1, ⟨by omega, hT⟩, (by dsimp only; omega), Sub.less ⟨(SLe.of_eq rfl), SLe.refl _, SLe.refl _, SLe.refl _, trivial⟩ (fun _ h => h)⟩
 replace h2 := of_decide_eq_false h2
 rw [List.length_map] at h2
 obtain rfl : k = l.length := by omega
 rw [decide_eq_true (take_all_eq hle hk.2)]
 refine .exit ?_
 refine .sr ?_
 refine .aA (.nil ?_)
 refine .ret ?_
 refine ⟨RetD.eq rfl ?_, trivial⟩
 all_goals (rfl)

set_option maxRecDepth 100000 in
set_option maxHeartbeats 1000000 in
theorem c_same (a b : Thg) : ACall Tryz.prog 67 [.agg a.ds, .agg b.ds] (.v (.bool (decide (a = b)))) := by
 refine acall_of (n := 52) (ds' := [.v (.bool (decide (a = b)))]) Tryz.func67 rfl (by kernel_rfl) rfl [4] rfl rfl ?_
 intro B w0 F0 fr
 refine .sr ?_
 refine .sA (.box rfl rfl rfl) ?_
 refine .sA (.box rfl rfl rfl) ?_
 refine .aA (.nil ?_)
 refine .sr ?_
 refine .sA (.fieldAddr rfl fo_61_0 rfl) ?_
 refine .sA (.load rfl sc_3 rfl) ?_
 refine .sA (.fieldAddr rfl fo_61_0 rfl) ?_
 refine .sA (.load rfl sc_3 rfl) ?_
 refine .sA (.eql rfl rfl rfl) ?_
 refine .mA ?_
 refine .split 10 rfl (fun g1 => ?_) (fun g1 => ?_)
 ·replace g1 := of_decide_eq_true g1
  have e1 := g1
  refine .sG (.fieldAddr rfl fo_61_1 rfl) ?_
  refine .sG (.load rfl sc_3 rfl) ?_
  refine .sG (.fieldAddr rfl fo_61_1 rfl) ?_
  refine .sG (.load rfl sc_3 rfl) ?_
  refine .sG (.eql rfl rfl rfl) ?_
  refine .sA (.pickT rfl rfl rfl) ?_
  refine .mA ?_
  refine .split 17 rfl (fun g2 => ?_) (fun g2 => ?_)
  ·replace g2 := of_decide_eq_true g2
   have e2 := g2
   refine .sG (.fieldAddr rfl fo_61_2 rfl) ?_
   refine .sG (.load rfl sc_9 rfl) ?_
   refine .sG (.fieldAddr rfl fo_61_2 rfl) ?_
   refine .sG (.load rfl sc_9 rfl) ?_
   refine .sG (.seql rfl rfl rfl) ?_
   refine .sA (.pickT rfl rfl rfl) ?_
   refine .mA ?_
   refine .split 24 rfl (fun g3 => ?_) (fun g3 => ?_)
   ·replace g3 := of_decide_eq_true g3
    have e3 := g3
    refine .sG (.fieldAddr rfl fo_61_3 rfl) ?_
    refine .sG (.load rfl sc_9 rfl) ?_
    refine .sG (.fieldAddr rfl fo_61_3 rfl) ?_
    refine .sG (.load rfl sc_9 rfl) ?_
    refine .sG (.seql rfl rfl rfl) ?_
    refine .sA (.pickT rfl rfl rfl) ?_
    refine .mA ?_
    refine .split 31 rfl (fun g4 => ?_) (fun g4 => ?_)
    ·replace g4 := of_decide_eq_true g4
     have e4 := g4
     refine .sG (.fieldAddr rfl fo_61_4 rfl) ?_
     refine .sG (.load rfl sc_3 rfl) ?_
     refine .sG (.fieldAddr rfl fo_61_4 rfl) ?_
     refine .sG (.load rfl sc_3 rfl) ?_
     refine .sG (.eql rfl rfl rfl) ?_
     refine .sA (.pickT rfl rfl rfl) ?_
     refine .mA ?_
     refine .split 38 rfl (fun g5 => ?_) (fun g5 => ?_)
     ·replace g5 := of_decide_eq_true g5
      have e5 := g5
      refine .sG (.fieldAddr rfl fo_61_5 rfl) ?_
      refine .sG (.load rfl sc_3 rfl) ?_
      refine .sG (.fieldAddr rfl fo_61_5 rfl) ?_
      refine .sG (.load rfl sc_3 rfl) ?_
      refine .sG (.eql rfl rfl rfl) ?_
      refine .sA (.pickT rfl rfl rfl) ?_
      refine .mA ?_
      refine .split 45 rfl (fun g6 => ?_) (fun g6 => ?_)
      ·replace g6 := of_decide_eq_true g6
       have e6 := g6
       refine .sG (.fieldAddr rfl fo_61_6 rfl) ?_
       refine .sG (.load rfl sc_39 rfl) ?_
       refine .sG (.fieldAddr rfl fo_61_6 rfl) ?_
       refine .sG (.load rfl sc_39 rfl) ?_
       refine .sG (.call rfl (.cons (.rfl' rfl) (.cons (.rfl' rfl) .nil)) (c_eqI _ _)) ?_
       refine .sA (.pickT rfl rfl rfl) ?_
       refine .aA (.nil ?_)
       refine .ret ?_
       refine ⟨RetD.eq rfl ?_, trivial⟩
       all_goals (first | rfl | rw [thg_dec e1 e2 e3 e4 e5 e6])
      replace g6 := of_decide_eq_false g6
      rw [decide_eq_false (show ¬ a = b from fun e => g6 (by rw [e]))]
      refine .pA ?_
      refine .pA ?_
      refine .pA ?_
      refine .pA ?_
      refine .pA ?_
      refine .sA (.pickF rfl rfl rfl) ?_
      refine .aA (.nil ?_)
      refine .ret ?_
      refine ⟨RetD.eq rfl ?_, trivial⟩
      all_goals (first | rfl | rw [thg_dec e1 e2 e3 e4 e5 e6])
     replace g5 := of_decide_eq_false g5
     rw [decide_eq_false (show ¬ a = b from fun e => g5 (by rw [e]))]
     refine .pA ?_
     refine .pA ?_
     refine .pA ?_
     refine .pA ?_
     refine .pA ?_
     refine .sA (.pickF rfl rfl rfl) ?_
     refine .mA ?_
     refine .pA ?_
     refine .pA ?_
     refine .pA ?_
     refine .pA ?_
     refine .pA ?_
     refine .sA (.pickF rfl rfl rfl) ?_
     refine .aA (.nil ?_)
     refine .ret ?_
     refine ⟨RetD.eq rfl ?_, trivial⟩
     all_goals (first | rfl | rw [thg_dec e1 e2 e3 e4 e5 e6])
    replace g4 := of_decide_eq_false g4
    rw [decide_eq_false (show ¬ a = b from fun e => g4 (by rw [e]))]
    refine .pA ?_
    refine .pA ?_
    refine .pA ?_
    refine .pA ?_
    refine .pA ?_
    refine .sA (.pickF rfl rfl rfl) ?_
    refine .mA ?_
    refine .pA ?_
    refine .pA ?_
    refine .pA ?_
    refine .pA ?_
    refine .pA ?_
    refine .sA (.pickF rfl rfl rfl) ?_
    refine .mA ?_
    refine .pA ?_
    refine .pA ?_
    refine .pA ?_
    refine .pA ?_
    refine .pA ?_
    refine .sA (.pickF rfl rfl rfl) ?_
    refine .aA (.nil ?_)
    refine .ret ?_
    refine ⟨RetD.eq rfl ?_, trivial⟩
    all_goals (first | rfl | rw [thg_dec e1 e2 e3 e4 e5 e6])
   replace g3 := of_decide_eq_false g3
   rw [decide_eq_false (show ¬ a = b from fun e => g3 (by rw [e]))]
   refine .pA ?_
   refine .pA ?_
   refine .pA ?_
   refine .pA ?_
   refine .pA ?_
   refine .sA (.pickF rfl rfl rfl) ?_
   refine .mA ?_
   refine .pA ?_
   refine .pA ?_
   refine .pA ?_
   refine .pA ?_
   refine .pA ?_
   refine .sA (.pickF rfl rfl rfl) ?_
   refine .mA ?_
   refine .pA ?_
   refine .pA ?_
   refine .pA ?_
   refine .pA ?_
   refine .pA ?_
   refine .sA (.pickF rfl rfl rfl) ?_
   refine .mA ?_
   refine .pA ?_
   refine .pA ?_
   refine .pA ?_
   refine .pA ?_
   refine .pA ?_
   refine .sA (.pickF rfl rfl rfl) ?_
   refine .aA (.nil ?_)
   refine .ret ?_
   refine ⟨RetD.eq rfl ?_, trivial⟩
   all_goals (first | rfl | rw [thg_dec e1 e2 e3 e4 e5 e6])
  replace g2 := of_decide_eq_false g2
  rw [decide_eq_false (show ¬ a = b from fun e => g2 (by rw [e]))]
  refine .pA ?_
  refine .pA ?_
  refine .pA ?_
  refine .pA ?_
  refine .pA ?_
  refine .sA (.pickF rfl rfl rfl) ?_
  refine .mA ?_
  refine .pA ?_
  refine .pA ?_
  refine .pA ?_
  refine .pA ?_
  refine .pA ?_
  refine .sA (.pickF rfl rfl rfl) ?_
  refine .mA ?_
  refine .pA ?_
  refine .pA ?_
  refine .pA ?_
  refine .pA ?_
  refine .pA ?_
  refine .sA (.pickF rfl rfl rfl) ?_
  refine .mA ?_
  refine .pA ?_
  refine .pA ?_
  refine .pA ?_
  refine .pA ?_
  refine .pA ?_
  refine .sA (.pickF rfl rfl rfl) ?_
  refine .mA ?_
  refine .pA ?_
  refine .pA ?_
  refine .pA ?_
  refine .pA ?_
  refine .pA ?_
  refine .sA (.pickF rfl rfl rfl) ?_
  refine .aA (.nil ?_)
  refine .ret ?_
  refine ⟨RetD.eq rfl ?_, trivial⟩
  all_goals (first | rfl | rw [thg_dec e1 e2 e3 e4 e5 e6])
 replace g1 := of_decide_eq_false g1
 rw [decide_eq_false (show ¬ a = b from fun e => g1 (by rw [e]))]
 refine .pA ?_
 refine .pA ?_
 refine .pA ?_
 refine .pA ?_
 refine .pA ?_
 refine .sA (.pickF rfl rfl rfl) ?_
 refine .mA ?_
 refine .pA ?_
 refine .pA ?_
 refine .pA ?_
 refine .pA ?_
 refine .pA ?_
 refine .sA (.pickF rfl rfl rfl) ?_
 refine .mA ?_
 refine .pA ?_
 refine .pA ?_
 refine .pA ?_
 refine .pA ?_
 refine .pA ?_
 refine .sA (.pickF rfl rfl rfl) ?_
 refine .mA ?_
 refine .pA ?_
 refine .pA ?_
 refine .pA ?_
 refine .pA ?_
 refine .pA ?_
 refine .sA (.pickF rfl rfl rfl) ?_
 refine .mA ?_
 refine .pA ?_
 refine .pA ?_
 refine .pA ?_
 refine .pA ?_
 refine .pA ?_
 refine .sA (.pickF rfl rfl rfl) ?_
 refine .mA ?_
 refine .pA ?_
 refine .pA ?_
 refine .pA ?_
 refine .pA ?_
 refine .pA ?_
 refine .sA (.pickF rfl rfl rfl) ?_
 refine .aA (.nil ?_)
 refine .ret ?_
 refine ⟨RetD.eq rfl ?_, trivial⟩
 all_goals (first | rfl | rw [thg_dec e1 e2 e3 e4 e5 e6])

set_option maxRecDepth 100000 in
set_option maxHeartbeats 1000000 in
theorem c_sameTs (l r : List Thg) : ACall Tryz.prog 23 [.sl (l.map Thg.ds), .sl (r.map Thg.ds)] (.v (.bool (decide (l = r)))) := by
 refine acall_of (n := 27) (ds' := [.v (.bool (decide (l = r)))]) Tryz.func23 rfl (by kernel_rfl) rfl [4] rfl rfl ?_
 intro B w0 F0 fr
 refine .bound 0 rfl (fun hbd0 => ?_)
 rw [List.length_map] at hbd0
 refine .bound 1 rfl (fun hbd1 => ?_)
 rw [List.length_map] at hbd1
 refine .sr ?_
 refine .aA (.nil ?_)
 refine .seq ?_
 refine .sr ?_
 refine .mA ?_
 refine .sA (.lenSl rfl et_22.ht rfl) ?_
 refine .mA ?_
 refine .sA (.lenSl rfl et_22.ht rfl) ?_
 refine .sA (.neq rfl rfl rfl) (.nil ?_)
 refine .cond rfl (fun h1 => ?_) (fun h1 => ?_)
 ·replace h1 := of_decide_eq_true h1
  rw [List.length_map, List.length_map] at h1
  rw [decide_eq_false (show ¬ l = r from fun e => h1 (by rw [e]))]
  refine .sr ?_
  refine .aA (.nil ?_)
  refine .ret ?_
  refine ⟨RetD.eq rfl ?_, trivial⟩
  all_goals (rfl)
 replace h1 := of_decide_eq_false h1
 rw [List.length_map, List.length_map] at h1
 have hle : l.length = r.length := by omega
 refine .skip ?_
 refine .seq ?_
 refine .sr ?_
 refine .mA ?_
 refine .sA (.lenSl rfl et_22.ht rfl) ?_
 refine .mA (.nil ?_)
 refine .block ?_
 refine .loop (G := Nat) (fun k => Env.of [(13, .d (.v (.int .i64 (k : Int)))), (0, .d (.sl (l.map Thg.ds))), (1, .d (.sl (r.map Thg.ds))), (12, .d (.v (.int .i64 ((l.map Thg.ds).length : Int))))]) (fun k => []) (fun k => k ≤ l.length ∧ l.take k = r.take k) (fun k => l.length - k) 0 ⟨Nat.zero_le _, by simp⟩ (Sub.less ⟨(SLe.of_eq rfl), SLe.refl _, SLe.refl _, SLe.refl _, trivial⟩ (fun _ h => h)) ?_
 intro k hk
 refine .sr ?_
 refine .sA (.lss rfl rfl rfl) (.nil ?_)
 refine .seq ?_
 refine .cond rfl (fun h2 => ?_) (fun h2 => ?_)
 ·replace h2 := of_decide_eq_true h2
  rw [List.length_map] at h2
  have hlt : k < l.length := by omega
  have hlr : k < r.length := by omega
  refine .skip ?_
  refine .seq ?_
  refine .block ?_
  refine .sr ?_
  refine .mA ?_
  refine .aA (.nil ?_)
  refine .seq ?_
  refine .draw (by kernel_rfl) (by kernel_rfl) ?_
  refine .sA (.moveD rfl rfl) ?_
  refine .sA (.moveD rfl rfl) ?_
  refine .sA (.indexAddr rfl et_22 rfl rfl k rfl (at_lst hlt) rfl) ?_
  refine .sA (.loadAgg rfl ag_61 rfl rfl) ?_
  refine .sA (.moveD rfl rfl) ?_
  refine .sA (.moveD rfl rfl) ?_
  refine .sA (.indexAddr rfl et_22 rfl rfl k rfl (at_lst hlr) rfl) ?_
  refine .sA (.loadAgg rfl ag_61 rfl rfl) ?_
  refine .sA (.call rfl (.cons (.rfl' rfl) (.cons (.rfl' rfl) .nil)) (c_same _ _)) ?_
  refine .sA (.not rfl rfl) ?_
  refine .nil ?_
  refine .cond rfl (fun h3 => ?_) (fun h3 => ?_)
  ·replace h3 := bnot_t h3; replace h3 := of_decide_eq_false h3
   rw [decide_eq_false (show ¬ l = r from fun e => h3 (by subst e; rfl))]
   refine .sr ?_
   refine .aA (.nil ?_)
   refine .ret ?_
   refine ⟨RetD.eq rfl ?_, trivial⟩
   all_goals (rfl)
  replace h3 := bnot_f h3; replace h3 := of_decide_eq_true h3
  have hT := take_eq hlt hlr hk.2 (by first | exact h3 | exact Decidable.not_not.1 h3)
  refine .skip ?_
  refine .region ?_
  refine .sA (.add64 rfl rfl rfl (by omega) (by omega)) ?_
  refine .mA (.nil ?_)
  refine ⟨k + 1, ⟨by omega, hT⟩, (by dsimp only; omega), Sub.less ⟨(SLe.of_eq rfl), SLe.refl _, SLe.refl _, SLe.refl _, trivial⟩ (fun _ h => h)⟩
 replace h2 := of_decide_eq_false h2
 rw [List.length_map] at h2
 obtain rfl : k = l.length := by omega
 rw [decide_eq_true (take_all_eq hle hk.2)]
 refine .exit ?_
 refine .sr ?_
 refine .aA (.nil ?_)
 refine .ret ?_
 refine ⟨RetD.eq rfl ?_, trivial⟩
 all_goals (rfl)

theorem ctl_dec {a b : Ctl} (h : a.things = b.things) : decide (a.moved = b.moved) = decide (a = b) := by
  cases a; cases b
  dsimp only at h ⊢
  subst h
  simp

set_option maxRecDepth 100000 in
set_option maxHeartbeats 1000000 in
theorem c_sameC (a b : Ctl) : ACall Tryz.prog 8 [.agg a.ds, .agg b.ds] (.v (.bool (decide (a = b)))) := by
 refine acall_of (n := 17) (ds' := [.v (.bool (decide (a = b)))]) Tryz.func8 rfl (by kernel_rfl) rfl [4] rfl rfl ?_
 intro B w0 F0 fr
 refine .sr ?_
 refine .sA (.box rfl rfl rfl) ?_
 refine .sA (.box rfl rfl rfl) ?_
 refine .aA (.nil ?_)
 refine .sr ?_
 refine .sA (.fieldAddr rfl fo_25_0 rfl) ?_
 refine .sA (.load rfl sc_22 rfl) ?_
 refine .sA (.fieldAddr rfl fo_25_0 rfl) ?_
 refine .sA (.load rfl sc_22 rfl) ?_
 refine .sA (.call rfl (.cons (.rfl' rfl) (.cons (.rfl' rfl) .nil)) (c_sameTs _ _)) ?_
 refine .mA ?_
 refine .split 10 rfl (fun g1 => ?_) (fun g1 => ?_)
 ·replace g1 := of_decide_eq_true g1
  rw [← ctl_dec g1]
  refine .sG (.fieldAddr rfl fo_25_1 rfl) ?_
  refine .sG (.load rfl sc_23 rfl) ?_
  refine .sG (.fieldAddr rfl fo_25_1 rfl) ?_
  refine .sG (.load rfl sc_23 rfl) ?_
  refine .sG (.call rfl (.cons (.rfl' rfl) (.cons (.rfl' rfl) .nil)) (c_eqM _ _)) ?_
  refine .sA (.pickT rfl rfl rfl) ?_
  refine .aA (.nil ?_)
  refine .ret ?_
  refine ⟨RetD.eq rfl ?_, trivial⟩
  all_goals (rfl)
 replace g1 := of_decide_eq_false g1
 rw [decide_eq_false (show ¬ a = b from fun e => g1 (by rw [e]))]
 refine .pA ?_
 refine .pA ?_
 refine .pA ?_
 refine .pA ?_
 refine .pA ?_
 refine .sA (.pickF rfl rfl rfl) ?_
 refine .aA (.nil ?_)
 refine .ret ?_
 refine ⟨RetD.eq rfl ?_, trivial⟩
 all_goals (rfl)

set_option maxRecDepth 100000 in
set_option maxHeartbeats 1000000 in
theorem lawReads (s : ByteArray) : ACallT Tryz.prog MaxT 3 [.v (.string s)] (.v (.bool true)) := by
 refine acall_ofT (n := 37) (ds' := [.v (.bool true)]) Tryz.func3 rfl (by kernel_rfl) rfl [2] rfl rfl ?_
 intro B w0 F0 hT
 refine .sr ?_
 refine .aA (.nil ?_)
 refine .sr ?_
 refine .mA ?_
 -- wants the world
 refine .callT rfl rfl rfl hT maxT_stays rfl (.cons (.rfl' rfl) .nil) (c_pRead s) ?_
 refine .mA ?_
 refine .sA (.extract rfl rfl rfl) ?_
 refine .sA (.extract rfl rfl rfl) ?_
 refine .sA (.extract rfl rfl rfl) ?_
 refine .alloc 101 rfl rfl rfl rfl zt_25 rfl rfl rfl ?_
 refine .store rfl rfl rfl sz_25 rfl (.head _) rfl rfl rfl (Nat.le_of_ble_eq_true rfl) ?_
 refine .freezeCells 3 (ds := (readV s.data.toList).1.ds) rfl (.head _) ?_
 refine .aA ?_
 refine .aA (.nil ?_)
 refine .sr ?_
 refine .mA ?_
 -- wants the world
 refine .callT rfl rfl rfl hT maxT_stays rfl (.cons (.rfl' rfl) .nil) (c_rRead s) ?_
 refine .mA ?_
 refine .sA (.extract rfl rfl rfl) ?_
 refine .sA (.extract rfl rfl rfl) ?_
 refine .sA (.extract rfl rfl rfl) ?_
 refine .alloc 102 rfl rfl rfl rfl zt_25 rfl rfl rfl ?_
 refine .store rfl rfl rfl sz_25 rfl (.head _) rfl rfl rfl (Nat.le_of_ble_eq_true rfl) ?_
 refine .freezeCells 6 (ds := (readV s.data.toList).1.ds) rfl (.head _) ?_
 refine .aA ?_
 refine .aA (.nil ?_)
 refine .sr ?_
 refine .mA ?_
 refine .mA ?_
 refine .sA (.eql rfl rfl rfl) ?_
 refine .mA ?_
 refine .split 24 rfl (fun g1 => ?_) (fun g1 => ?_)
 ·replace g1 := of_decide_eq_true g1
  refine .sG (.moveD rfl rfl) ?_
  refine .sG (.moveD rfl rfl) ?_
  refine .sG (.eql rfl rfl rfl) ?_
  refine .sA (.pickT rfl rfl rfl) ?_
  refine .mA ?_
  refine .split 29 rfl (fun g2 => ?_) (fun g2 => ?_)
  ·replace g2 := of_decide_eq_true g2
   refine .sG (.loadAgg rfl ag_25 rfl rfl) ?_
   refine .sG (.loadAgg rfl ag_25 rfl rfl) ?_
   refine .sG (.call rfl (.cons (.rfl' rfl) (.cons (.rfl' rfl) .nil)) (c_sameC _ _)) ?_
   refine .sA (.pickT rfl rfl rfl) ?_
   refine .mA ?_
   refine .split 34 rfl (fun g3 => ?_) (fun g3 => ?_)
   ·replace g3 := of_decide_eq_true g3
    refine .sG (.call rfl .nil c_awake) ?_
    refine .sA (.pickT rfl rfl rfl) ?_
    refine .aA (.nil ?_)
    refine .ret ?_
    refine ⟨RetD.eq rfl ?_, trivial⟩
    all_goals (first | rfl | simp)
   replace g3 := of_decide_eq_false g3
   exact absurd rfl g3
  replace g2 := of_decide_eq_false g2
  exact absurd rfl g2
 replace g1 := of_decide_eq_false g1
 exact absurd rfl g1

end Go.Proofs.YthcdjmkkgbcaaaaGreatDoor
