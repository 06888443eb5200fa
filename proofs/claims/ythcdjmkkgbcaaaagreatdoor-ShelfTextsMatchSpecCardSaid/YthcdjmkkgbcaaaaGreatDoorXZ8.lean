/- Walks and laws over abstract values, merged by tools/merge.py. No statement of the seat. -/
import Derived.Test.YthcdjmkkgbcaaaaGreatDoorXZ7

namespace Go.Proofs.YthcdjmkkgbcaaaaGreatDoor
open Go.RowKit
set_option linter.unusedVariables false

/-! Types. -/
namespace TyTI
theorem bu_25 : StructT Tryz.prog 25 (fun i => (#[(0, 1), (1, 1)] : Array (Nat × Nat))[i]?) [(.slice none 0 0), (.slice none 0 0)] := .of (by kernel_rfl) (by kernel_rfl) (by decide)
theorem zt_45 : (Tryz.prog.info? 45).bind (·.zero) = some (.agg #[(.slice none 0 0), (.slice none 0 0), (.bool false)]) := by kernel_rfl
end TyTI
open TyH3 TyH4 TyH5 TyJ3 TyJ4 TyJ5 TyKA TyKB TyKC TyKD TyKE TyKF TyKG TyTA TyTB TyTD TyTE TyTG TyTF TyTH TyTI

theorem c_cutL (l : List UInt8) (c : UInt8) (hs : l.length < 4294967281) : ACallT Tryz.prog MaxT 18 [.v (.string (strL l)), .v (.string ⟨#[c]⟩)]
  (.tup [.v (.string (strL (Lib.cut l [c]).1)), .v (.string (strL (Lib.cut l [c]).2.1)), .v (.bool (Lib.cut l [c]).2.2)]) := c_cutA (strL l) c (by rw [strL_size]; exact hs)

set_option linter.unusedSimpArgs false
def lnX (l : List UInt8) : List UInt8 := ((ct 10 l).map Prod.fst).getD l
def lnR (l : List UInt8) : List UInt8 := ((ct 10 l).map Prod.snd).getD []
theorem c_cutN (l : List UInt8) (hs : l.length < 4294967281) : ACallT Tryz.prog MaxT 18 [.v (.string (strL l)), .v (.string ⟨#[10]⟩)] (.tup [.v (.string (strL (lnX l))), .v (.string (strL (lnR l))), .v (.bool (ct 10 l).isSome)]) := by
 have h := c_cutL l 10 hs
 rw [cut_ct] at h
 unfold lnX lnR
 cases hc : ct 10 l with
 | none => rw [hc] at h; exact h
 | some p => rw [hc] at h; exact h
section
variable {r : Tk} {l t : List UInt8} {i : Int}
theorem lnX_len (l : List UInt8) : (lnX l).length ≤ l.length := by
  unfold lnX
  cases h : ct 10 l with
  | none => exact Nat.le_refl _
  | some p => have := ct_lt h; show p.1.length ≤ _; omega
theorem readV_l (h : 100000 < t.length) : readV t = (⟨[], []⟩, 0, 2) := if_pos h
theorem readV_bad (h0 : ¬ 100000 < t.length) (h : readA tk0 t 1 = (r, i)) (hi : i ≠ 0) : readV t = (⟨[], []⟩, i, 10) := by
  unfold readV
  rw [if_neg h0, h, if_pos hi]
theorem readV_chk (h0 : ¬ 100000 < t.length) (h : readA tk0 t 1 = (r, 0)) (hc : chkF (ctlT r) ≠ 0) : readV t = (⟨[], []⟩, 0, chkF (ctlT r)) := by
  unfold readV
  rw [if_neg h0, h, if_neg (fun hh => hh rfl), if_pos hc]
theorem readV_ok (h0 : ¬ 100000 < t.length) (h : readA tk0 t 1 = (r, 0)) (hc : chkF (ctlT r) = 0) : readV t = (ctlT r, 0, 0) := by
  unfold readV
  rw [if_neg h0, h, if_neg (fun hh => hh rfl), if_neg (fun hh => hh hc)]
theorem tk0_ok : TkOk tk0 0 := ⟨fun t h => (nomatch h), fun m h => (nomatch h), Nat.le_refl _, Nat.le_refl _, fun h => (nomatch h)⟩
theorem TkOk.ctl {c : Nat} (h : TkOk r c) : CtlOk (ctlT r) := ⟨fun t ht => (h.thg t ht).1, h.mvd⟩
end

set_option maxRecDepth 100000 in
set_option maxHeartbeats 4000000 in
theorem c_pRead (s : ByteArray) : ACallT Tryz.prog MaxT 6 [.v (.string s)] (.tup [.agg (readV s.data.toList).1.ds, .v (.int .i64 (readV s.data.toList).2.1), .v (.int .i64 (readV s.data.toList).2.2)]) := by
 refine acall_ofRT (n := 44) (ds' := [.agg (readV s.data.toList).1.ds, .v (.int .i64 (readV s.data.toList).2.1), .v (.int .i64 (readV s.data.toList).2.2)]) Tryz.func6 rfl (by kernel_rfl) rfl [.cell 2 25, .tmp 3, .tmp 4] rfl rfl ?_
 intro B w0 F0 hT
 have hsl := Lib.size_eq s
 refine .sr ?_
 refine .alloc 301 rfl rfl rfl rfl zt_25 rfl rfl rfl ?_
 refine .aA ?_
 refine .aA (.nil ?_)
 refine .seq ?_
 refine .sr ?_
 refine .mA ?_
 refine .sA (.lenStr rfl st_9 rfl) ?_
 refine .sA (.gtr rfl rfl rfl) (.nil ?_)
 refine .cond rfl (fun h1 => ?_) (fun h1 => ?_)
 ·replace h1 := of_decide_eq_true h1
  rw [readV_l (by omega)]
  refine .sr ?_
  refine .sA (.build rfl bu_25 .nil rfl) ?_
  refine .store rfl rfl rfl sz_25 rfl (.head _) rfl rfl rfl (Nat.le_of_ble_eq_true rfl) ?_
  refine .aA ?_
  refine .aA (.nil ?_)
  refine .ret ?_
  refine ⟨RetR.agg rfl (.head _) ag_25 rfl (.cons (by first | exact CellD.nil | exact CellD.d | exact CellD.eq (by simp) | (refine CellD.own (by first | exact .head _ | exact .tail _ (.head _)) ?_; rfl)) (.cons (by first | exact CellD.nil | exact CellD.d | exact CellD.eq (by simp) | (refine CellD.own (by first | exact .head _ | exact .tail _ (.head _)) ?_; rfl)) .nil)), RetD.eq rfl ?_, RetD.eq rfl ?_, trivial⟩
  all_goals (first | rfl | simp)
 replace h1 := of_decide_eq_false h1
 have h0 : ¬ 100000 < s.data.toList.length := by omega
 refine .skip ?_
 refine .sr ?_
 refine .alloc 600 rfl rfl rfl rfl zt_45 rfl rfl rfl ?_
 refine .adoptCell 500 61 7 600 0 (.head _) rfl rfl ?_
 refine .adoptCell 501 54 2 600 1 (.tail _ (.head _)) rfl rfl ?_
 refine .nil ?_
 refine .seq ?_
 refine .seq ?_
 refine .obs (σ' := tkObs tk0 ++ [(301, .cells [.d (.v (.slice none 0 0)), .d (.v (.slice none 0 0))])]) (fun p hp => by
  simp only [tkObs, tkC, List.cons_append, List.nil_append, List.mem_cons, List.not_mem_nil, or_false] at hp
  rcases hp with rfl | rfl | rfl | rfl
  ·exact .tail _ (.tail _ (.head _))
  ·exact .tail _ (.head _)
  ·exact .head _
  exact .tail _ (.tail _ (.tail _ (.head _)))) ?_
 refine .region ?_
 refine .aA (.nil ?_)
 refine .block ?_
 refine .loop (G := List UInt8 × Tk × Nat) (fun ⟨y, r, n⟩ => Env.of [(0, .d (.v (.string (strL y)))), (6, .d (.v (.int .i64 ((n : Int) + 1)))), (5, .ptr 600 0), (2, .ptr 301 0)]) (fun ⟨y, r, n⟩ => (tkObs r ++ [(301, .cells [.d (.v (.slice none 0 0)), .d (.v (.slice none 0 0))])])) (fun ⟨y, r, n⟩ => readA tk0 s.data.toList 1 = readA r y ((n : Int) + 1) ∧ TkOk r (s.size - y.length) ∧ y.length ≤ s.size ∧ n + y.length ≤ s.size) (fun ⟨y, r, n⟩ => y.length) (s.data.toList, tk0, 0) ⟨rfl, tk0_ok.mono (Nat.zero_le _), by show s.data.toList.length ≤ _; omega, by show 0 + s.data.toList.length ≤ _; omega⟩ (Sub.less ⟨(SLe.of_eq rfl), (SLe.of_eq rfl), SLe.refl _, SLe.refl _, trivial⟩ (fun _ h => h)) ?_
 rintro ⟨y, r, n⟩ ⟨hR, HO, hy1, hy2⟩
 try dsimp only at hR HO hy1 hy2
 refine .seq ?_
 refine .sr ?_
 refine .mA ?_
 refine .sA (.sneq rfl rfl rfl) (.nil ?_)
 refine .cond rfl (fun h2 => ?_) (fun h2 => ?_)
 ·replace h2 := of_decide_eq_true h2
  have hy : y ≠ [] := fun hh => h2 (strL_nil.2 hh)
  have hal := HO.tl
  have hml := HO.ml
  have hxl := lnX_len y
  refine .skip ?_
  refine .seq ?_
  refine .block ?_
  refine .sr ?_
  refine .mA ?_
  -- wants the world
  refine .callT rfl rfl rfl hT maxT_stays rfl (.cons (.rfl' rfl) (.cons (.rfl' rfl) .nil)) (c_cutN y (by omega)) ?_
  refine .mA ?_
  refine .sA (.extract rfl rfl rfl) ?_
  refine .sA (.extract rfl rfl rfl) ?_
  refine .sA (.extract rfl rfl rfl) ?_
  refine .aA ?_
  refine .aA ?_
  refine .aA (.nil ?_)
  refine .seq ?_
  refine .sr ?_
  refine .mA ?_
  refine .sA (.not rfl rfl) ?_
  refine .mA ?_
  refine .split 27 rfl (fun g3 => ?_) (fun g3 => ?_)
  ·replace g3 := bnot_t g3
   have hct : ct 10 y = none := by
    cases hh : ct 10 y with
    | none => rfl
    | some v => rw [hh] at g3; cases g3
   have HV := readV_bad h0 (hR.trans (readA_bad hy (.inl hct))) (by omega)
   rw [HV]
   refine .pA ?_
   refine .pA ?_
   refine .pA ?_
   refine .sA (.pickT rfl rfl rfl) (.nil ?_)
   refine .cond rfl (fun _ => ?_) (fun h => nomatch h)
   refine .sr ?_
   refine .sA (.build rfl bu_25 .nil rfl) ?_
   refine .mA ?_
   refine .store rfl rfl rfl sz_25 rfl (.tail _ (.tail _ (.tail _ (.head _)))) rfl rfl rfl (Nat.le_of_ble_eq_true rfl) ?_
   refine .aA ?_
   refine .aA (.nil ?_)
   refine .ret ?_
   refine ⟨RetR.agg rfl (.tail _ (.tail _ (.tail _ (.head _)))) ag_25 rfl (.cons (by first | exact CellD.nil | exact CellD.d | exact CellD.eq (by simp) | (refine CellD.own (by first | exact .head _ | exact .tail _ (.head _)) ?_; rfl)) (.cons (by first | exact CellD.nil | exact CellD.d | exact CellD.eq (by simp) | (refine CellD.own (by first | exact .head _ | exact .tail _ (.head _)) ?_; rfl)) .nil)), RetD.eq rfl ?_, RetD.eq rfl ?_, trivial⟩
   all_goals (first | rfl | simp)
  replace g3 := bnot_f g3
  obtain ⟨⟨x, z⟩, hct⟩ : ∃ p, ct 10 y = some p := Option.isSome_iff_exists.1 (by simpa using g3)
  have hX : lnX y = x := by unfold lnX; rw [hct]; rfl
  have hZ : lnR y = z := by unfold lnR; rw [hct]; rfl
  have hln := ct_lt hct
  try dsimp only at hln
  rw [hX, hZ]
  refine .sG (.moveD rfl rfl) ?_
  -- writes 600 500 501
  refine .callXTG ⟨27, rfl, .inl ⟨_, rfl, rfl⟩⟩ rfl rfl (TC.of maxT_at hT) (.cons (SLe.refl _) (.cons (SLe.refl _) .nil)) (c_take r.things r.moved r.opn (strL x) (by rw [strL_size]; omega) (by omega) (by omega) HO.op) ⟨(.head _), (.tail _ (.head _)), (.tail _ (.tail _ (.head _))), trivial⟩ rfl rfl (fun _ h => rfl) ?_
  refine .sG (.not rfl rfl) ?_
  refine .sA (.pickF rfl rfl rfl) (.nil ?_)
  refine .cond rfl (fun h4 => ?_) (fun h4 => ?_)
  ·replace h4 := bnot_t h4
   have hn : takeV r x = none := by
    cases hh : takeV r x with
    | none => rfl
    | some v => exfalso; have hz : (takeV r x).isSome = false := h4; rw [hh] at hz; cases hz
   have HV := readV_bad h0 (hR.trans (readA_bad hy (.inr ⟨_, hct, hn⟩))) (by omega)
   rw [HV]
   refine .sr ?_
   refine .sA (.build rfl bu_25 .nil rfl) ?_
   refine .mA ?_
   refine .store rfl rfl rfl sz_25 rfl (.tail _ (.tail _ (.tail _ (.head _)))) rfl rfl rfl (Nat.le_of_ble_eq_true rfl) ?_
   refine .aA ?_
   refine .aA (.nil ?_)
   refine .ret ?_
   refine ⟨RetR.agg rfl (.tail _ (.tail _ (.tail _ (.head _)))) ag_25 rfl (.cons (by first | exact CellD.nil | exact CellD.d | exact CellD.eq (by simp) | (refine CellD.own (by first | exact .head _ | exact .tail _ (.head _)) ?_; rfl)) (.cons (by first | exact CellD.nil | exact CellD.d | exact CellD.eq (by simp) | (refine CellD.own (by first | exact .head _ | exact .tail _ (.head _)) ?_; rfl)) .nil)), RetD.eq rfl ?_, RetD.eq rfl ?_, trivial⟩
   all_goals (first | rfl | simp)
  replace h4 := bnot_f h4
  obtain ⟨r2, hr2⟩ : ∃ r2, takeV r x = some r2 := Option.isSome_iff_exists.1 (show (takeV r x).isSome = true from h4)
  have HN := tn_s hr2
  have HO2 := (takeV_ok HO (by omega) hr2).mono (c' := s.size - z.length) (by omega)
  have HA := hR.trans (readA_next hct hr2)
  refine .skip ?_
  refine .region ?_
  refine .mA ?_
  refine .aA (.nil ?_)
  refine .region ?_
  refine .mA ?_
  refine .sA (.add64 rfl rfl rfl (by omega) (by omega)) ?_
  refine .aA (.nil ?_)
  refine ⟨(z, r2, n + 1), ⟨by show _ = readA r2 z (((n + 1 : Nat) : Int) + 1); rw [show ((n + 1 : Nat) : Int) + 1 = (n : Int) + 1 + 1 by omega]; exact HA, HO2, by show z.length ≤ _; omega, by show n + 1 + z.length ≤ _; omega⟩, (by dsimp only; omega), Sub.less ⟨(SLe.of_eq rfl), (SLe.of_eq (by congr 1)), SLe.refl _, SLe.refl _, trivial⟩ (obs_e (by dsimp only; rw [← HN]; rfl))⟩
 replace h2 := of_decide_eq_false h2
 have hy : y = [] := strL_nil.1 (by first | exact h2 | exact Decidable.not_not.1 h2)
 subst hy
 rw [readA_nil] at hR
 refine .exit ?_
 refine .seq ?_
 refine .seq ?_
 refine .freezeIn 600 0 rfl (.head _) (.tail _ (.head _)) ?_
 refine .freezeIn 600 1 rfl (.head _) (.tail _ (.head _)) ?_
 refine .region ?_
 refine .sA (.fieldAddrP rfl fo_45_0 rfl) ?_
 refine .sA (.loadPU rfl ag_25 rfl (.head _) rfl rfl) ?_
 -- wants the world
 refine .callT rfl rfl rfl hT maxT_stays rfl (.cons (.rfl' rfl) .nil) (c_pChk (ctlT r) HO.ctl) ?_
 refine .aA (.nil ?_)
 refine .sr ?_
 refine .mA ?_
 refine .sA (.neq rfl rfl rfl) (.nil ?_)
 refine .cond rfl (fun h5 => ?_) (fun h5 => ?_)
 ·replace h5 := of_decide_eq_true h5
  rw [readV_chk h0 hR h5]
  refine .sr ?_
  refine .sA (.build rfl bu_25 .nil rfl) ?_
  refine .mA ?_
  refine .store rfl rfl rfl sz_25 rfl (.tail _ (.head _)) rfl rfl rfl (Nat.le_of_ble_eq_true rfl) ?_
  refine .aA ?_
  refine .aA (.nil ?_)
  refine .ret ?_
  refine ⟨RetR.agg rfl (.tail _ (.head _)) ag_25 rfl (.cons (by first | exact CellD.nil | exact CellD.d | exact CellD.eq (by simp) | (refine CellD.own (by first | exact .head _ | exact .tail _ (.head _)) ?_; rfl)) (.cons (by first | exact CellD.nil | exact CellD.d | exact CellD.eq (by simp) | (refine CellD.own (by first | exact .head _ | exact .tail _ (.head _)) ?_; rfl)) .nil)), RetD.eq rfl ?_, RetD.eq rfl ?_, trivial⟩
  all_goals (first | rfl | simp)
 replace h5 := of_decide_eq_false h5
 rw [readV_ok h0 hR (by first | exact h5 | exact Decidable.not_not.1 h5)]
 refine .skip ?_
 refine .sr ?_
 refine .sA (.fieldAddrP rfl fo_45_0 rfl) ?_
 refine .sA (.loadPU rfl ag_25 rfl (.head _) rfl rfl) ?_
 refine .store rfl rfl rfl sz_25 rfl (.tail _ (.head _)) rfl rfl rfl (Nat.le_of_ble_eq_true rfl) ?_
 refine .aA ?_
 refine .aA (.nil ?_)
 refine .ret ?_
 refine ⟨RetR.agg rfl (.tail _ (.head _)) ag_25 rfl (.cons (by first | exact CellD.nil | exact CellD.d | exact CellD.eq (by simp) | (refine CellD.own (by first | exact .head _ | exact .tail _ (.head _)) ?_; rfl)) (.cons (by first | exact CellD.nil | exact CellD.d | exact CellD.eq (by simp) | (refine CellD.own (by first | exact .head _ | exact .tail _ (.head _)) ?_; rfl)) .nil)), RetD.eq rfl ?_, RetD.eq rfl ?_, trivial⟩
 all_goals (first | rfl | simp)

end Go.Proofs.YthcdjmkkgbcaaaaGreatDoor

namespace Go.Proofs.YthcdjmkkgbcaaaaGreatDoor
open Go.RowKit
set_option linter.unusedVariables false

/-! Types. -/
namespace TyTK
end TyTK
open TyH3 TyH4 TyH5 TyJ3 TyJ4 TyJ5 TyKA TyKB TyKC TyKD TyKE TyKF TyKG TyTA TyTB TyTD TyTE TyTG TyTF TyTH TyTI TyTK

open Go.Lib
set_option linter.unusedSimpArgs false
def noc (c : UInt8) (l : List UInt8) : Prop := ∀ b ∈ l, b ≠ c
theorem spl_noc {c : UInt8} : ∀ {x : List UInt8}, noc c x → spl c x = [x] ∧ ∀ r, spl c (x ++ c :: r) = x :: spl c r
  | [], _ => ⟨rfl, fun r => by show spl c (c :: r) = _; rw [spl_cons, if_pos rfl]⟩
  | b :: x, h => by
    obtain ⟨h1, h2⟩ := spl_noc (x := x) fun d hd => h d (by simp [hd])
    have hb : b ≠ c := h b (by simp)
    refine ⟨?_, fun r => ?_⟩
    · rw [spl_cons, if_neg hb, h1]
    · show spl c (b :: (x ++ c :: r)) = _
      rw [spl_cons, if_neg hb, h2 r]

theorem decFrom_snoc : ∀ (l : List UInt8) (b : UInt8) (acc : Nat), Lib.decFrom acc (l ++ [b]) = match Lib.decFrom acc l with
    | none => none
    | some v => match Lib.digitVal b with
      | none => none
      | some d => some (v * 10 + d)
  | [], b, acc => by
    show Lib.decFrom acc [b] = _
    simp only [Lib.decFrom]
    cases Lib.digitVal b <;> rfl
  | x :: l, b, acc => by
    rw [List.cons_append]
    simp only [Lib.decFrom]
    cases Lib.digitVal x with
    | none => rfl
    | some d => exact decFrom_snoc l b (acc * 10 + d)
theorem dec_ind (u : Nat) : Lib.decFrom 0 (Lib.decDigits u) = some u ∧ (∀ b ∈ Lib.decDigits u, 48 ≤ b.toNat ∧ b.toNat ≤ 57) ∧ (1 ≤ u → (Lib.decDigits u).head? ≠ some 48) ∧ Lib.decDigits u ≠ [] := by
  induction u using Nat.strongRecOn with
  | _ u ih =>
    have hd : ∀ d, d < 10 → (UInt8.ofNat (48 + d)).toNat = 48 + d := by decide
    have hv : ∀ d, d < 10 → Lib.digitVal (UInt8.ofNat (48 + d)) = some d := by decide
    by_cases h : u < 10
    · have e : Lib.decDigits u = [UInt8.ofNat (48 + u)] := by rw [Lib.decDigits, dif_pos h]
      rw [e]
      refine ⟨?_, fun b hb => ?_, fun h1 he => ?_, by simp⟩
      · simp only [Lib.decFrom, hv u h]; simp
      · obtain rfl := List.mem_singleton.1 hb
        rw [hd u h]; omega
      · have := congrArg UInt8.toNat (Option.some.inj he)
        rw [hd u h] at this
        have h48 : (48 : UInt8).toNat = 48 := rfl
        omega
    · have e : Lib.decDigits u = Lib.decDigits (u / 10) ++ [UInt8.ofNat (48 + u % 10)] := by rw [Lib.decDigits, dif_neg h]
      obtain ⟨i1, i2, i3, i4⟩ := ih (u / 10) (by omega)
      rw [e]
      refine ⟨?_, fun b hb => ?_, fun _ => ?_, by simp⟩
      · rw [decFrom_snoc, i1]
        simp only [hv _ (Nat.mod_lt u (by decide : 0 < 10))]
        congr 1
        omega
      · rcases List.mem_append.1 hb with hb | hb
        · exact i2 b hb
        · obtain rfl := List.mem_singleton.1 hb
          rw [hd _ (Nat.mod_lt u (by decide : 0 < 10))]; omega
      · cases hx : Lib.decDigits (u / 10) with
        | nil => exact absurd hx i4
        | cons b t =>
          have := i3 (by omega)
          rw [hx] at this
          simpa using this
theorem nDig_le : ∀ (k u : Nat), u < 10 ^ (k + 1) → Lib.nDigits u ≤ k + 1
  | 0, u, h => by rw [Lib.nDigits_small (by simpa using h)]; omega
  | k + 1, u, h => by
    by_cases hu : u < 10
    · rw [Lib.nDigits_small hu]; omega
    · rw [Lib.nDigits_big hu]
      have := nDig_le k (u / 10) (by rw [Nat.pow_succ] at h; omega)
      omega
theorem dec_ne {u : Nat} : noc 32 (Lib.decDigits u) ∧ noc 10 (Lib.decDigits u) := by
  obtain ⟨_, h2, _, _⟩ := dec_ind u
  constructor <;> intro b hb he <;> (have := h2 b hb; rw [he] at this; revert this; decide)
theorem spl_words : ∀ {ws : List (List UInt8)}, ws ≠ [] → (∀ w ∈ ws, noc 32 w) → ∃ t, ws.flatMap (fun w => (32 : UInt8) :: w) = 32 :: t ∧ spl 32 t = ws
  | [], h, _ => absurd rfl h
  | [w], _, hw => ⟨w, by simp, (spl_noc (hw w (by simp))).1⟩
  | w :: w2 :: ws, _, hw => by
    obtain ⟨t, h1, h2⟩ := spl_words (ws := w2 :: ws) (by simp) fun x hx => hw x (by simp [hx])
    refine ⟨w ++ 32 :: t, ?_, ?_⟩
    · rw [List.flatMap_cons, h1]; rfl
    · rw [(spl_noc (hw w (by simp))).2 t, h2]

theorem num_read {u : Nat} (h : u < 10000000) : numS (Lib.decDigits u) = some u := by
  obtain ⟨h1, _, h3, h4⟩ := dec_ind u
  have hl : (Lib.decDigits u).length ≤ 7 := by rw [Lib.decDigits_length]; exact nDig_le 6 u (by omega)
  unfold numS
  rw [if_neg, h1]
  rintro (hh | hh | hh)
  · exact h4 hh
  · omega
  · rcases Nat.eq_zero_or_pos u with h0 | h0
    · subst h0
      exact hh.2 (by rw [Lib.decDigits, dif_pos (by omega)]; rfl)
    · exact h3 h0 hh.1
/-! ## Words and lines -/
def dcL (n : Int) : List UInt8 := Lib.decDigits n.toNat
theorem dc_read {n : Int} (h : 0 ≤ n ∧ n < 10000000) : numS (dcL n) = some n.toNat := num_read (by omega)
theorem dc_ne (n : Int) : noc 32 (dcL n) ∧ noc 10 (dcL n) := dec_ne
theorem dc_48 (n : Int) : ∀ b ∈ dcL n, 48 ≤ b.toNat := fun b hb => ((dec_ind n.toNat).2.1 b hb).1
def kWd (k : Int) : List UInt8 := if k = 1 then wWork else if k = 2 then wRec else if k = 3 then wRel else wEd
def parL (p : Int) : List UInt8 := if p = 0 then [45] else dcL p
def codL (c : ByteArray) : List UInt8 := if c = ⟨#[]⟩ then [45] else c.data.toList
def tLine (t : Thg) : List UInt8 := kWd t.kind ++ 32 :: (dcL t.id ++ 32 :: (dcL t.since ++ 32 :: (parL t.parent ++ 32 :: (codL t.code ++ 32 :: t.title.data.toList))))
def pLine (ps : List Int) : List UInt8 := 32 :: ps.flatMap (fun n => 32 :: dcL n)
def mLine (m : Mvd) : List UInt8 := mvP ++ (dcL m.src ++ 32 :: dcL m.dst)
def tLines (t : Thg) : List (List UInt8) := if t.parts = [] then [tLine t] else [tLine t, pLine t.parts]
def lines (c : Ctl) : List (List UInt8) := c.things.flatMap tLines ++ c.moved.map mLine
def unl (L : List (List UInt8)) : List UInt8 := L.flatMap fun x => x ++ [10]
theorem noc_48 {c : UInt8} (hc : c.toNat < 48) {l : List UInt8} (h : ∀ b ∈ l, 48 ≤ b.toNat) : noc c l := fun b hb e => by have := h b hb; rw [e] at this; omega
theorem noc_app {c : UInt8} {a b : List UInt8} (ha : noc c a) (hb : noc c b) : noc c (a ++ b) := fun x hx => (List.mem_append.1 hx).elim (ha x) (hb x)
theorem noc_cons {c x : UInt8} {l : List UInt8} (hx : x ≠ c) (h : noc c l) : noc c (x :: l) := fun b hb => by
  rcases List.mem_cons.1 hb with rfl | hb
  · exact hx
  · exact h b hb
theorem kWd_kind {k : Int} (h : 1 ≤ k ∧ k ≤ 4) : kindW (kWd k) = k := by
  have hk : k = 1 ∨ k = 2 ∨ k = 3 ∨ k = 4 := by omega
  rcases hk with rfl | rfl | rfl | rfl <;> decide
theorem kWd_mem {k : Int} : kWd k = wWork ∨ kWd k = wRec ∨ kWd k = wRel ∨ kWd k = wEd := by
  unfold kWd
  split
  · exact .inl rfl
  · split
    · exact .inr (.inl rfl)
    · split
      · exact .inr (.inr (.inl rfl))
      · exact .inr (.inr (.inr rfl))
theorem kWd_48 (k : Int) : ∀ b ∈ kWd k, 48 ≤ b.toNat := by
  rcases kWd_mem (k := k) with h | h | h | h <;> (rw [h]; decide)
theorem sgn_48 {c : UInt8} (h : isSgn c = true) : 48 ≤ c.toNat := by
  unfold isSgn isDig at h
  simp only [Bool.or_eq_true, Bool.and_eq_true, decide_eq_true_eq] at h
  omega
theorem dig_48 {c : UInt8} (h : isDig c = true) : 48 ≤ c.toNat := by
  unfold isDig at h
  simp only [Bool.and_eq_true, decide_eq_true_eq] at h
  omega
theorem body_48 {k : Int} {l : List UInt8} (h : bodyB k l = true) : ∀ b ∈ l, 48 ≤ b.toNat := by
  unfold bodyB at h
  split at h
  · simp only [Bool.and_eq_true, decide_eq_true_eq, List.all_eq_true] at h
    obtain ⟨⟨h1, h2⟩, h3⟩ := h
    intro b hb
    cases l with
    | nil => cases hb
    | cons x l =>
      rcases List.mem_cons.1 hb with rfl | hb
      · have : b = 84 := h2
        rw [this]; decide
      · exact dig_48 (h3 b hb)
  · split at h
    · simp only [Bool.and_eq_true, decide_eq_true_eq, List.all_eq_true] at h
      exact fun b hb => sgn_48 (h.2 b hb)
    · simp only [Bool.and_eq_true, decide_eq_true_eq, List.all_eq_true] at h
      exact fun b hb => dig_48 (h.2 b hb)
theorem code_48 {k : Int} {l : List UInt8} (h : codeF k l = 0) : l ≠ [] ∧ ∀ b ∈ l, 48 ≤ b.toNat := by
  unfold codeF at h
  split at h
  · omega
  · split at h
    · omega
    · rename_i hl
      split at h
      · omega
      · rename_i hb
        split at h
        · omega
        · rename_i ha
          have hb : bodyB k (cBody l) = true := by simpa using hb
          have ha : among (two k) (cSign l) = true := by simpa using ha
          refine ⟨fun e => hl (by rw [e]; rfl), fun b hm => ?_⟩
          have hs : 48 ≤ (cSign l).toNat := by
            cases h2 : two k with
            | true => rw [h2] at ha; exact sgn_48 ha
            | false => rw [h2] at ha; exact dig_48 ha
          have e : l = cBody l ++ [cSign l] := by
            unfold cBody cSign
            have h3 : l.length - 1 < l.length := by omega
            rw [at0_eq h3]
            have h4 := List.take_append_getElem (l := l) (i := l.length - 1) h3
            rw [h4, show l.length - 1 + 1 = l.length by omega, List.take_length]
          rw [e] at hm
          rcases List.mem_append.1 hm with h5 | h5
          · exact body_48 hb b h5
          · obtain rfl := List.mem_singleton.1 h5; exact hs
theorem title_ne {s : ByteArray} (h : titleOk s = true) : s.data.toList ≠ [] ∧ noc 10 s.data.toList := by
  unfold titleOk titleB at h
  simp only [Bool.and_eq_true, decide_eq_true_eq, List.all_eq_true] at h
  refine ⟨fun e => ?_, fun b hb he => ?_⟩
  · have := h.1.1.1.1.1; rw [e] at this; simp at this
  · have := h.2 b hb
    unfold prB at this
    simp only [Bool.and_eq_true, decide_eq_true_eq] at this
    rw [he] at this
    revert this; decide
/-! ## A right thing's line -/
structure TOk (t : Thg) : Prop where
  id : 0 ≤ t.id ∧ t.id < 10000000
  kind : 1 ≤ t.kind ∧ t.kind ≤ 4
  title : t.title.data.toList ≠ [] ∧ noc 10 t.title.data.toList
  code : t.code = ⟨#[]⟩ ∨ (t.code.data.toList ≠ [] ∧ ∀ b ∈ t.code.data.toList, 48 ≤ b.toNat)
  since : 0 ≤ t.since ∧ t.since < 10000000
  parent : 0 ≤ t.parent ∧ t.parent < 10000000
  parts : ∀ n ∈ t.parts, 0 ≤ n ∧ n < 10000000
theorem codL_48 {c : ByteArray} (h : c = ⟨#[]⟩ ∨ (c.data.toList ≠ [] ∧ ∀ b ∈ c.data.toList, 48 ≤ b.toNat)) : codL c ≠ [] ∧ noc 32 (codL c) ∧ noc 10 (codL c) ∧ codV (codL c) = c := by
  unfold codL
  rcases h with h | ⟨h1, h2⟩
  · rw [if_pos h]
    exact ⟨by decide, by unfold noc; decide, by unfold noc; decide, by rw [h]; rfl⟩
  · rw [if_neg (fun e => h1 (by rw [e]))]
    refine ⟨h1, noc_48 (by decide) h2, noc_48 (by decide) h2, ?_⟩
    unfold codV
    rw [if_neg (fun e => by have := h2 45 (by rw [e]; simp); revert this; decide)]
    rfl
theorem parL_ne (p : Int) : noc 32 (parL p) ∧ noc 10 (parL p) := by
  unfold parL
  split
  · exact ⟨by unfold noc; decide, by unfold noc; decide⟩
  · exact dc_ne p
theorem parL_read {p : Int} (h : 0 ≤ p ∧ p < 10000000) : parV (parL p) = some p := by
  unfold parL
  by_cases h0 : p = 0
  · rw [if_pos h0, h0]; rfl
  · rw [if_neg h0]
    unfold parV
    rw [if_neg (fun e => by have := dc_48 p 45 (by rw [e]; simp); revert this; decide), dc_read h]
    show (if p.toNat = 0 then none else some ((p.toNat : Nat) : Int)) = _
    rw [if_neg (by omega), Int.toNat_of_nonneg h.1]
theorem ct_noc {c : UInt8} : ∀ {x : List UInt8} (r : List UInt8), noc c x → ct c (x ++ c :: r) = some (x, r)
  | [], r, _ => by show ct c (c :: r) = _; rw [ct_cons, if_pos rfl]
  | b :: x, r, h => by
    have h1 := ct_noc (x := x) r fun d hd => h d (by simp [hd])
    rw [List.cons_append, ct_cons, if_neg (h b (by simp)), h1]; rfl
theorem spk_noc {c : UInt8} {x r : List UInt8} {k : Nat} (h : noc c x) : spk c (k + 1) (x ++ c :: r) = x :: spk c k r := by rw [spk_succ, ct_noc r h]
theorem t_words {t : Thg} (h : TOk t) : spk 32 5 (tLine t) = [kWd t.kind, dcL t.id, dcL t.since, parL t.parent, codL t.code, t.title.data.toList] := by
  unfold tLine
  rw [spk_noc (noc_48 (by decide) (kWd_48 _)), spk_noc (dc_ne _).1, spk_noc (dc_ne _).1, spk_noc (parL_ne _).1, spk_noc (codL_48 h.code).2.1]
  rfl
def bare (t : Thg) : Thg := ⟨t.id, t.kind, t.title, t.code, t.since, t.parent, []⟩
theorem t_read {t : Thg} (h : TOk t) : thgV (tLine t) = some (bare t) := by
  obtain ⟨c1, _, _, c4⟩ := codL_48 h.code
  rw [thg_y (t_words h) (a := t.id.toNat) (b := t.since.toNat) (q := t.parent) (fun hh => hh.elim c1 h.title.1) (dc_read h.id) (dc_read h.since) (parL_read h.parent) (by rw [kWd_kind h.kind]; have := h.kind; omega)]
  rw [kWd_kind h.kind, c4, Int.toNat_of_nonneg h.id.1, Int.toNat_of_nonneg h.since.1]
  rfl
theorem t_pre (t : Thg) : Lib.hasPrefix (tLine t) [32, 32] = false ∧ Lib.hasPrefix (tLine t) mvP = false := by
  unfold tLine
  rcases kWd_mem (k := t.kind) with h | h | h | h <;> (rw [h]; exact ⟨rfl, rfl⟩)
theorem take_thg {r : Tk} {t : Thg} (h : TOk t) (hm : r.moved = []) : takeV r (tLine t) = some ⟨r.things ++ [bare t], r.moved, true⟩ := tk_t (by rw [(t_pre t).1]; decide) (by rw [(t_pre t).2]; decide) (t_read h) hm
theorem nums_read : ∀ {ps : List Int}, (∀ n ∈ ps, 0 ≤ n ∧ n < 10000000) → numsS (ps.map dcL) = some ps
  | [], _ => rfl
  | n :: ps, h => by
    have ih := nums_read (ps := ps) fun m hm => h m (by simp [hm])
    have hn := h n (by simp)
    show (match numS (dcL n), numsS (ps.map dcL) with | some n, some ns => some ((n : Int) :: ns) | _, _ => none) = _
    rw [ih, dc_read hn]
    show some (((n.toNat : Nat) : Int) :: ps) = _
    rw [Int.toNat_of_nonneg hn.1]
theorem p_read {ps : List Int} (hne : ps ≠ []) (h : ∀ n ∈ ps, 0 ≤ n ∧ n < 10000000) : Lib.hasPrefix (pLine ps) [32, 32] = true ∧ numsS (spl 32 (Lib.trimPrefix (pLine ps) [32, 32])) = some ps := by
  obtain ⟨y, h1, h2⟩ := spl_words (ws := ps.map dcL) (by simpa using hne) fun w hw => by
    obtain ⟨n, _, rfl⟩ := List.mem_map.1 hw
    exact (dc_ne n).1
  rw [List.flatMap_map] at h1
  have e : pLine ps = 32 :: 32 :: y := by unfold pLine; rw [h1]
  have hp : Lib.hasPrefix (pLine ps) [32, 32] = true := by rw [e]; rfl
  refine ⟨hp, ?_⟩
  have et : Lib.trimPrefix (pLine ps) [32, 32] = y := by unfold Lib.trimPrefix; rw [if_pos hp, e]; rfl
  rw [et, h2]
  exact nums_read h
theorem take_parts {r : Tk} {l : List Thg} {t : Thg} (hr : r = ⟨l ++ [bare t], [], true⟩) (hne : t.parts ≠ []) (h : TOk t) : takeV r (pLine t.parts) = some ⟨l ++ [t], [], false⟩ := by
  subst hr
  obtain ⟨h1, h2⟩ := p_read hne h.parts
  rw [tk_p h1 rfl h2]
  congr 2
  unfold setP
  rw [show (l ++ [bare t]).length - 1 = l.length by simp]
  rw [List.getD_eq_getElem?_getD, List.getElem?_append_right (Nat.le_refl _), Nat.sub_self]
  rw [List.set_append_right _ _ (Nat.le_refl _), Nat.sub_self]
  rfl
theorem m_read {m : Mvd} (h1 : 0 ≤ m.src ∧ m.src < 10000000) (h2 : 0 ≤ m.dst ∧ m.dst < 10000000) (r : Tk) : takeV r (mLine m) = some ⟨r.things, r.moved ++ [m], false⟩ := by
  have hp : Lib.hasPrefix (mLine m) mvP = true := List.isPrefixOf_iff_prefix.2 ⟨_, rfl⟩
  have et : Lib.trimPrefix (mLine m) mvP = dcL m.src ++ 32 :: dcL m.dst := by unfold Lib.trimPrefix; rw [if_pos hp]; unfold mLine; rw [List.drop_left]
  have hs : spl 32 (Lib.trimPrefix (mLine m) mvP) = [m.src, m.dst].map dcL := by rw [et, (spl_noc (dc_ne m.src).1).2, (spl_noc (dc_ne m.dst).1).1]; rfl
  have := tk_m (r := r) (l := mLine m) (a := m.src) (b := m.dst) (by rw [show Lib.hasPrefix (mLine m) [32, 32] = false from rfl]; decide) hp (by
    rw [hs]
    exact nums_read fun n hn => by
      simp only [List.mem_cons, List.not_mem_nil, or_false] at hn
      rcases hn with rfl | rfl
      · exact h1
      · exact h2)
  exact this
/-! ## Line after line -/
def run (r : Tk) : List (List UInt8) → Option Tk
  | [] => some r
  | x :: L => match takeV r x with
    | none => none
    | some r' => run r' L
theorem run_app : ∀ {L L' : List (List UInt8)} {r r' : Tk}, run r L = some r' → run r (L ++ L') = run r' L'
  | [], L', r, r', h => by cases h; rfl
  | x :: L, L', r, r', h => by
    show (match takeV r x with | none => none | some r' => run r' (L ++ L')) = _
    have h' : (match takeV r x with | none => none | some r' => run r' L) = some r' := h
    cases ht : takeV r x with
    | none => rw [ht] at h'; cases h'
    | some r2 => rw [ht] at h'; exact run_app h'
theorem run_read : ∀ {L : List (List UInt8)} {r r' : Tk} {i : Int}, (∀ x ∈ L, noc 10 x) → run r L = some r' → readA r (unl L) i = (r', 0)
  | [], r, r', i, _, h => by cases h; exact readA_nil r i
  | x :: L, r, r', i, hn, h => by
    have h' : (match takeV r x with | none => none | some r' => run r' L) = some r' := h
    cases ht : takeV r x with
    | none => rw [ht] at h'; cases h'
    | some r2 =>
      rw [ht] at h'
      have e : unl (x :: L) = x ++ 10 :: unl L := by unfold unl; rw [List.flatMap_cons]; simp
      rw [e, readA_next (ct_noc (unl L) (hn x (by simp))) ht]
      exact run_read (fun y hy => hn y (by simp [hy])) h'
theorem run_things : ∀ {ts l : List Thg} {o : Bool}, (∀ t ∈ ts, TOk t) → ∃ o', run ⟨l, [], o⟩ (ts.flatMap tLines) = some ⟨l ++ ts, [], o'⟩
  | [], l, o, _ => ⟨o, by show some _ = _; rw [List.append_nil]⟩
  | t :: ts, l, o, h => by
    have ht := h t (by simp)
    have h1 : ∃ o1, run ⟨l, [], o⟩ (tLines t) = some ⟨l ++ [t], [], o1⟩ := by
      unfold tLines
      have e := take_thg (r := ⟨l, [], o⟩) ht rfl
      by_cases hp : t.parts = []
      · rw [if_pos hp]
        refine ⟨true, ?_⟩
        show (match takeV ⟨l, [], o⟩ (tLine t) with | none => none | some r' => run r' []) = _
        rw [e]
        have : bare t = t := by cases t; dsimp only at hp; subst hp; rfl
        rw [this]; rfl
      · rw [if_neg hp]
        refine ⟨false, ?_⟩
        show (match takeV ⟨l, [], o⟩ (tLine t) with | none => none | some r' => run r' [pLine t.parts]) = _
        rw [e]
        show (match takeV ⟨l ++ [bare t], [], true⟩ (pLine t.parts) with | none => none | some r' => run r' []) = _
        rw [take_parts rfl hp ht]; rfl
    obtain ⟨o1, h1⟩ := h1
    obtain ⟨o2, h2⟩ := run_things (ts := ts) (l := l ++ [t]) (o := o1) fun u hu => h u (by simp [hu])
    refine ⟨o2, ?_⟩
    rw [List.flatMap_cons, run_app h1, h2, List.append_assoc]; rfl
theorem run_moved : ∀ {ms l : List Mvd} {th : List Thg} {o : Bool}, (∀ m ∈ ms, (0 ≤ m.src ∧ m.src < 10000000) ∧ (0 ≤ m.dst ∧ m.dst < 10000000)) → ∃ o', run ⟨th, l, o⟩ (ms.map mLine) = some ⟨th, l ++ ms, o'⟩
  | [], l, th, o, _ => ⟨o, by show some _ = _; rw [List.append_nil]⟩
  | m :: ms, l, th, o, h => by
    have hm := h m (by simp)
    obtain ⟨o2, h2⟩ := run_moved (ms := ms) (l := l ++ [m]) (th := th) (o := false) fun u hu => h u (by simp [hu])
    refine ⟨o2, ?_⟩
    rw [List.map_cons]
    show (match takeV ⟨th, l, o⟩ (mLine m) with | none => none | some r' => run r' (ms.map mLine)) = _
    rw [m_read hm.1 hm.2]
    show run ⟨th, l ++ [m], false⟩ (ms.map mLine) = _
    rw [h2, List.append_assoc]; rfl

end Go.Proofs.YthcdjmkkgbcaaaaGreatDoor

namespace Go.Proofs.YthcdjmkkgbcaaaaGreatDoor
open Go.RowKit
set_option linter.unusedVariables false

/-! Types. -/
namespace TyTL
end TyTL
open TyH3 TyH4 TyH5 TyJ3 TyJ4 TyJ5 TyKA TyKB TyKC TyKD TyKE TyKF TyKG TyTA TyTB TyTD TyTE TyTG TyTF TyTH TyTI TyTK TyTL

set_option linter.unusedSimpArgs false
theorem there_rng {l : List Thg} (hr : RisT l) {n : Int} (h : thereB l n = true) : 1 ≤ n ∧ n ≤ 1000000 := by
  obtain ⟨g1, g2⟩ := getT_id h
  have := hr.rng _ g2
  rw [g1] at this; exact this
theorem lkf_0 {l : List Thg} {t : Thg} (h : linkF l t = 0) : (t.parent ≠ 0 → thereB l t.parent = true) ∧ ∀ n ∈ t.parts, thereB l n = true := by
  unfold linkF at h
  have hp : parF l t = 0 := Classical.byContradiction fun hh => by rw [if_pos hh] at h; exact hh h
  rw [if_neg (fun hh => hh hp)] at h
  have hq : ffst (ptF l t) t.parts.length = 0 := Classical.byContradiction fun hh => by rw [if_pos hh] at h; exact hh h
  refine ⟨fun h0 => ?_, fun n hn => ?_⟩
  · cases hb : thereB l t.parent with
    | true => rfl
    | false => rw [par_9 h0 hb] at hp; omega
  · obtain ⟨k, hk, rfl⟩ := List.mem_iff_getElem.1 hn
    cases hb : thereB l t.parts[k] with
    | true => rfl
    | false => have := ffst_all _ hq k hk; rw [pt_9 hk hb] at this; omega
theorem thg_0 {x : Thg} (h : thgF x = 0) : (1 ≤ x.kind ∧ x.kind ≤ 4) ∧ titleOk x.title = true ∧ (x.code = ⟨#[]⟩ ∨ codeF x.kind x.code.data.toList = 0) ∧ 0 ≤ x.since ∧ x.since ≤ 200000 := by
  unfold thgF at h
  split at h
  · omega
  · rename_i h1
    split at h
    · omega
    · rename_i h2
      split at h
      · rename_i h3; exact absurd h h3.2
      · rename_i h3
        split at h
        · omega
        · rename_i h4
          have hk : kindB x.kind = true := by simpa using h1
          unfold kindB at hk
          rw [Bool.and_eq_true] at hk
          refine ⟨⟨of_decide_eq_true hk.1, of_decide_eq_true hk.2⟩, by simpa using h2, ?_, by omega, by omega⟩
          by_cases hc : x.code = ⟨#[]⟩
          · exact .inl hc
          · exact .inr (Classical.byContradiction fun hh => h3 ⟨hc, hh⟩)
theorem tok_of {c : Ctl} (h : chkF c = 0) {t : Thg} (ht : t ∈ c.things) : TOk t := by
  have hc := catOk h
  obtain ⟨k, hk, rfl⟩ := List.mem_iff_getElem.1 ht
  obtain ⟨a1, a2, a3, a4, a5⟩ := thg_0 (hc.th k hk)
  obtain ⟨b1, b2⟩ := lkf_0 (hc.lk k hk)
  have r := hc.ris.rng _ ht
  refine ⟨by omega, a1, title_ne a2, a3.imp id code_48, by omega, ?_, fun n hn => by have := there_rng hc.ris (b2 n hn); omega⟩
  by_cases h0 : c.things[k].parent = 0
  · omega
  · have := there_rng hc.ris (b1 h0); omega
theorem mok_of {c : Ctl} (h : chkF c = 0) {m : Mvd} (hm : m ∈ c.moved) : (0 ≤ m.src ∧ m.src < 10000000) ∧ (0 ≤ m.dst ∧ m.dst < 10000000) := by
  have hc := catOk h
  have r := hc.rism.rng _ hm
  refine ⟨by omega, ?_⟩
  have h1 : mvdF c = 0 := by
    unfold chkF at h
    split at h
    · omega
    · split at h
      · rename_i h2; exact absurd h h2
      · split at h
        · rename_i h2; exact absurd h h2
        · exact h
  have h2 : ffst (mvF c) c.moved.length = 0 := by
    unfold mvdF at h1
    split at h1
    · rename_i h2; exact absurd h1 h2
    · rename_i h2; omega
  obtain ⟨k, hk, rfl⟩ := List.mem_iff_getElem.1 hm
  have h3 := ffst_all _ h2 k hk
  unfold mvF at h3
  rw [dif_pos hk] at h3
  split at h3
  · omega
  · split at h3
    · omega
    · split at h3
      · omega
      · split at h3
        · omega
        · rename_i h4
          cases hb : thereB c.things c.moved[k].dst with
          | true => have := there_rng hc.ris hb; omega
          | false =>
            cases hb2 : hasM c.moved c.moved[k].dst with
            | false => exact absurd ⟨hb, hb2⟩ h4
            | true =>
              unfold hasM at hb2
              cases hf : findG (mvL c.moved) c.moved[k].dst with
              | none => rw [hf] at hb2; cases hb2
              | some v =>
                have : ∃ x ∈ c.moved, x.src = c.moved[k].dst := Classical.byContradiction fun hh => by
                  have hn := (findM_none (m := c.moved) (id := c.moved[k].dst)).2 fun x hx he => hh ⟨x, hx, he⟩
                  rw [hn] at hf; cases hf
                obtain ⟨x, hx, he⟩ := this
                have := hc.rism.rng _ hx
                omega
theorem tLine_ne {t : Thg} (h : TOk t) : noc 10 (tLine t) := by
  unfold tLine
  exact noc_app (noc_48 (by decide) (kWd_48 _)) (noc_cons (by decide) (noc_app (dc_ne _).2 (noc_cons (by decide) (noc_app (dc_ne _).2 (noc_cons (by decide) (noc_app (parL_ne _).2 (noc_cons (by decide) (noc_app (codL_48 h.code).2.2.1 (noc_cons (by decide) h.title.2)))))))))
theorem pLine_ne (ps : List Int) : noc 10 (pLine ps) := by
  unfold pLine
  refine noc_cons (by decide) fun b hb => ?_
  obtain ⟨n, _, hb⟩ := List.mem_flatMap.1 hb
  exact noc_cons (by decide) (dc_ne n).2 b hb
theorem mLine_ne (m : Mvd) : noc 10 (mLine m) := by
  unfold mLine
  exact noc_app (by unfold noc; decide) (noc_app (dc_ne _).2 (noc_cons (by decide) (dc_ne _).2))
theorem lines_ne {c : Ctl} (h : chkF c = 0) : ∀ x ∈ lines c, noc 10 x := fun x hx => by
  unfold lines at hx
  rcases List.mem_append.1 hx with hx | hx
  · obtain ⟨t, ht, hx⟩ := List.mem_flatMap.1 hx
    unfold tLines at hx
    split at hx
    · obtain rfl := List.mem_singleton.1 hx; exact tLine_ne (tok_of h ht)
    · simp only [List.mem_cons, List.not_mem_nil, or_false] at hx
      rcases hx with rfl | rfl
      · exact tLine_ne (tok_of h ht)
      · exact pLine_ne _
  · obtain ⟨m, _, rfl⟩ := List.mem_map.1 hx; exact mLine_ne m
/-- 46, the second half. -/
theorem text_back {c : Ctl} (h : chkF c = 0) (hl : (unl (lines c)).length ≤ 100000) : readV (unl (lines c)) = (c, 0, 0) := by
  obtain ⟨o1, h1⟩ := run_things (ts := c.things) (l := []) (o := false) fun t ht => tok_of h ht
  obtain ⟨o2, h2⟩ := run_moved (ms := c.moved) (l := []) (th := c.things) (o := o1) fun m hm => mok_of h hm
  have h3 : run tk0 (lines c) = some ⟨c.things, c.moved, o2⟩ := by
    unfold lines
    show run (⟨[], [], false⟩ : Tk) (c.things.flatMap tLines ++ c.moved.map mLine) = _
    rw [run_app h1]
    exact h2
  have h4 := run_read (i := 1) (lines_ne h) h3
  exact readV_ok (by omega) h4 h
def textV (c : Ctl) : ByteArray × Int := if chkF c ≠ 0 then (⟨#[]⟩, chkF c) else if 100000 < (unl (lines c)).length then (⟨#[]⟩, 2) else (strL (unl (lines c)), 0)
theorem textV_c {c : Ctl} (h : chkF c ≠ 0) : textV c = (⟨#[]⟩, chkF c) := if_pos h
theorem textV_l {c : Ctl} (h : chkF c = 0) (h2 : 100000 < (unl (lines c)).length) : textV c = (⟨#[]⟩, 2) := by unfold textV; rw [if_neg (fun hh => hh h), if_pos h2]
theorem textV_0 {c : Ctl} (h : chkF c = 0) (h2 : ¬ 100000 < (unl (lines c)).length) : textV c = (strL (unl (lines c)), 0) := by unfold textV; rw [if_neg (fun hh => hh h), if_neg h2]
theorem text_same {c : Ctl} (h : (textV c).2 = 0) : readV (textV c).1.data.toList = (c, 0, 0) := by
  by_cases h1 : chkF c = 0
  · by_cases h2 : 100000 < (unl (lines c)).length
    · rw [textV_l h1 h2] at h; cases h
    · rw [textV_0 h1 h2]
      show readV (strL (unl (lines c))).data.toList = _
      rw [strL_list]
      exact text_back h1 (by omega)
  · rw [textV_c h1] at h; exact absurd h h1

end Go.Proofs.YthcdjmkkgbcaaaaGreatDoor

namespace Go.Proofs.YthcdjmkkgbcaaaaGreatDoor
open Go.RowKit
set_option linter.unusedVariables false
set_option linter.unusedSimpArgs false
theorem blenW (g n cap : Nat) (ad : Option Addr) (w : World) (h : w.cell? ⟨g, 1, none⟩ = some (.slice ad n cap)) : Calls Tryz.prog 31 #[.pointer (some ⟨g, 0, none⟩)] w fun e w' => e = .returned (.int .i64 (n : Int)) ∧ w' = w := by
  go_enter Tryz.func31, Tryz.ntmps31
  go_wp2
  all_goals go_ret
  all_goals exact ⟨rfl, rfl⟩
theorem c_blen (id r : Nat) (hne : id ≠ r) (l : List UInt8) : XCall Tryz.prog 31 [.ptr id 0] (Bld id r l) (Bld id r l) (fun _ => false) (.v (.int .i64 (l.length : Int))) := by
 refine ⟨.of Tryz.func31 (by kernel_rfl) rfl, fun F ρ B w vs hF hB hσ hv => ?_⟩
 obtain ⟨g, hb⟩ := bldW_of hne hσ
 obtain rfl := repSL_ptr hb.ptr hv
 obtain ⟨ad, cap, hs⟩ : ∃ ad cap, ρ r = .slice ad l.length cap := by
  rcases hb.own.2 with ⟨h1, h2⟩ | ⟨k, cap, cur, h2, _⟩
  ·exact ⟨none, 0, by rw [h1, h2]⟩
  exact ⟨_, cap, h2⟩
 have hc : w.cell? ⟨g, 1, none⟩ = some (.slice ad l.length cap) := by
  rw [cell_of_row w g 1 _ _ (0, 0) hb.heap, ← hs]; rfl
 refine (blenW g l.length cap ad w hc).mono fun e' w' ⟨he, hw⟩ => ?_
 subst hw
 exact ⟨_, F, ρ, he, .v _, fun _ h => h, fun _ h => .inl h, hF, Kept.refl _ _, hσ, fun p hp b hb2 => .inr ⟨p, hp, hb2⟩, fun _ _ => rfl⟩
end Go.Proofs.YthcdjmkkgbcaaaaGreatDoor

namespace Go.Proofs.YthcdjmkkgbcaaaaGreatDoor
open Go.RowKit
set_option linter.unusedVariables false

/-! Types. -/
namespace TyTM
end TyTM
open TyH3 TyH4 TyH5 TyJ3 TyJ4 TyJ5 TyKA TyKB TyKC TyKD TyKE TyKF TyKG TyTA TyTB TyTD TyTE TyTG TyTF TyTH TyTI TyTK TyTL TyTM

open Go.Lib
set_option linter.unusedSimpArgs false
def TBM (w : World) : Prop := TabI w ∧ MaxT w
theorem tbm_stays : Stays TBM := fun w w' k h => ⟨tabI_at.stays w w' k h.1, maxT_stays w w' k h.2⟩
theorem ACallT.tab {f : FuncId} {ds : List D} {d : D} (h : ACallT Tryz.prog TabI f ds d) : ACallT Tryz.prog TBM f ds d := h.imp fun _ h => h.1
theorem ACallT.max {f : FuncId} {ds : List D} {d : D} (h : ACallT Tryz.prog MaxT f ds d) : ACallT Tryz.prog TBM f ds d := h.imp fun _ h => h.2
theorem bld_same {id r : Nat} {l l' : List UInt8} {τ : Obs} (h : l = l') : ∀ p ∈ Bld id r l', p ∈ Obs.join (Bld id r l) τ := fun p hp => by
  subst h
  rcases List.mem_cons.1 hp with rfl | hp
  · exact .head _
  · rw [List.mem_singleton] at hp; subst hp; exact .tail _ (.head _)
theorem obs_fix {X Y : Ob} (t : List UInt8) : Obs.del 101 (Obs.upd 101 X ((101, Y) :: Obs.kill 101 (Bld 901 801 t))) = Bld 901 801 t := by cases t <;> rfl
theorem ba_app (a b : ByteArray) : (a ++ b).data.toList = a.data.toList ++ b.data.toList := by simp
theorem szMk (a : Array UInt8) : ByteArray.size ⟨a⟩ = a.size := rfl
theorem str_app {a : List UInt8} (b : ByteArray) : (strL a ++ b).data.toList = a ++ b.data.toList := by rw [ba_app, strL_list]
theorem sEq {a : ByteArray} {l : List UInt8} (h : a.data.toList = l) : SLe (.d (.v (.string a))) (.d (.v (.string (strL l)))) := SLe.of_eq (by rw [baEq.1 (show a.data.toList = (strL l).data.toList from by rw [h, strL_list])])
theorem strL_of (s : ByteArray) : strL s.data.toList = s := baEq.1 (strL_list _)
/-! ## Words -/
theorem itoa_dc {n : Int} (h : 0 ≤ n) : itoaB n = strL (dcL n) := by
  unfold itoaB dcL strL
  unfold Lib.itoa
  first
    | rw [if_neg (by omega)]
    | rw [if_pos h]
theorem c_itoaL (n : Int) (h : 0 ≤ n ∧ n < 10000000) : ACallT Tryz.prog TBM 26 [.v (.int .i64 n)] (.v (.string (strL (dcL n)))) := by
 have := (c_itoa n (by omega) (by omega)).tab
 rwa [itoa_dc h.1] at this
theorem wordS_k (k : Int) : wordS k = strL (kWd k) := by
  unfold wordS kWd
  split
  · rfl
  · split
    · rfl
    · split <;> rfl
theorem c_wordL (k : Int) : ACall Tryz.prog 29 [.v (.int .i64 k)] (.v (.string (strL (kWd k)))) := by
 have := c_word k
 rwa [wordS_k] at this
theorem codL_c (c : List UInt8) (h : c ≠ []) : codL (strL c) = c := by
  unfold codL
  rw [if_neg (fun hh => h (strL_nil.1 hh)), strL_list]
theorem cod_s {s : ByteArray} (h : ¬ s = ⟨#[]⟩) : strL (codL s) = s := by
  unfold codL
  rw [if_neg h, strL_of]
theorem cod_0 {s : ByteArray} (h : s = ⟨#[]⟩) : strL (codL s) = ⟨#[45]⟩ := by
  unfold codL
  rw [if_pos h]; rfl
theorem dc_nil (n : Int) : dcL n ≠ [] := (dec_ind n.toNat).2.2.2
theorem wd_at {k : Int} (h : 1 ≤ k ∧ k ≤ 4) : (kwS.map wdD)[k.toNat]? = some [.v (.string (strL (kWd k)))] := by
  have hk : k = 1 ∨ k = 2 ∨ k = 3 ∨ k = 4 := by omega
  rcases hk with rfl | rfl | rfl | rfl <;> rfl
/-! ## Sizes -/
theorem dc_len {n : Int} (h : 0 ≤ n ∧ n < 10000000) : (dcL n).length ≤ 7 := by
  unfold dcL
  rw [Lib.decDigits_length]; exact nDig_le 6 _ (by omega)
theorem kWd_len (k : Int) : (kWd k).length ≤ 9 := by
  rcases kWd_mem (k := k) with h | h | h | h <;> (rw [h]; decide)
theorem parL_len {p : Int} (h : 0 ≤ p ∧ p < 10000000) : (parL p).length ≤ 7 := by
  unfold parL
  split
  · decide
  · exact dc_len h
/-- A right thing's sizes. -/
structure TSz (t : Thg) : Prop where
  code : (codL t.code).length ≤ 13
  title : t.title.data.toList.length ≤ 100
  parts : t.parts.length ≤ 50
theorem tsz_of {c : Ctl} (h : chkF c = 0) {t : Thg} (ht : t ∈ c.things) : TSz t := by
  have hc := catOk h
  obtain ⟨k, hk, rfl⟩ := List.mem_iff_getElem.1 ht
  have h0 := hc.th k hk
  obtain ⟨a1, a2, a3, a4, a5⟩ := thg_0 h0
  refine ⟨?_, ?_, ?_⟩
  · unfold codL
    rcases a3 with h3 | h3
    · rw [if_pos h3]; decide
    · have := codeF_len (.inl h3)
      split
      · decide
      · exact this
  · unfold titleOk titleB at a2
    simp only [Bool.and_eq_true, decide_eq_true_eq] at a2
    exact a2.1.1.1.1.2
  · unfold thgF at h0
    repeat' split at h0
    all_goals first | omega | (exfalso; rename_i hx; exact absurd h0 hx.2)
theorem tLine_len {t : Thg} (h : TOk t) (hs : TSz t) : (tLine t).length ≤ 200 := by
  have h1 := kWd_len t.kind
  have h2 := dc_len h.id
  have h3 := dc_len h.since
  have h4 := parL_len h.parent
  have h5 := hs.code
  have h6 := hs.title
  unfold tLine
  simp only [List.length_append, List.length_cons]
  omega
def pUp (ps : List Int) (i : Nat) : List UInt8 := 32 :: (ps.take i).flatMap fun n => 32 :: dcL n
theorem pUp_0 (ps : List Int) : pUp ps 0 = [32] := rfl
theorem pUp_next {ps : List Int} {i : Nat} (h : i < ps.length) : pUp ps (i + 1) = pUp ps i ++ 32 :: dcL ps[i] := by
  unfold pUp
  rw [List.take_add_one, List.getElem?_eq_getElem h, Option.toList_some, List.flatMap_append, List.flatMap_cons, List.flatMap_nil, List.append_nil]; rfl
theorem pUp_all (ps : List Int) : pUp ps ps.length = pLine ps := by unfold pUp pLine; rw [List.take_length]
theorem fm_len {α : Type} {f : α → List UInt8} {b : Nat} : ∀ {l : List α}, (∀ x ∈ l, (f x).length ≤ b) → (l.flatMap f).length ≤ b * l.length
  | [], _ => by simp
  | x :: l, h => by
    have h1 := h x (by simp)
    have h2 := fm_len (f := f) (b := b) (l := l) fun y hy => h y (by simp [hy])
    rw [List.flatMap_cons, List.length_append, List.length_cons, Nat.mul_add]
    omega
theorem pUp_len {ps : List Int} (h : ∀ n ∈ ps, 0 ≤ n ∧ n < 10000000) (hl : ps.length ≤ 50) (i : Nat) : (pUp ps i).length ≤ 401 := by
  have h1 := fm_len (f := fun n => 32 :: dcL n) (b := 8) (l := ps.take i) fun n hn => by
    have := dc_len (h n (List.mem_of_mem_take hn))
    show (dcL n).length + 1 ≤ 8; omega
  have h2 : (ps.take i).length ≤ 50 := by rw [List.length_take]; omega
  unfold pUp
  rw [List.length_cons]
  omega
/-! ## The text so far -/
def tTx (t : Thg) : List UInt8 := unl (tLines t)
theorem tTx_0 {t : Thg} (h : ¬ 0 < t.parts.length) : tTx t = tLine t ++ [10] := by
  have : t.parts = [] := List.eq_nil_of_length_eq_zero (by omega)
  unfold tTx tLines unl
  rw [if_pos this]; simp
theorem tTx_p {t : Thg} (h : 0 < t.parts.length) : tTx t = (tLine t ++ [10]) ++ (pLine t.parts ++ [10]) := by
  have : ¬ t.parts = [] := fun e => by rw [e] at h; simp at h
  unfold tTx tLines unl
  rw [if_neg this]; simp
def txT (c : Ctl) (k : Nat) : List UInt8 := (c.things.take k).flatMap tTx
def mTx (m : Mvd) : List UInt8 := mLine m ++ [10]
def txM (c : Ctl) (k : Nat) : List UInt8 := txT c c.things.length ++ (c.moved.take k).flatMap mTx
theorem txM_0 (c : Ctl) : txM c 0 = txT c c.things.length := by unfold txM; simp
theorem txT_next {c : Ctl} {k : Nat} (h : k < c.things.length) : txT c (k + 1) = txT c k ++ tTx c.things[k] := by
  unfold txT
  rw [List.take_add_one, List.getElem?_eq_getElem h, Option.toList_some, List.flatMap_append, List.flatMap_cons, List.flatMap_nil, List.append_nil]
theorem txM_next {c : Ctl} {k : Nat} (h : k < c.moved.length) : txM c (k + 1) = txM c k ++ mTx c.moved[k] := by
  unfold txM
  rw [List.take_add_one, List.getElem?_eq_getElem h, Option.toList_some, List.flatMap_append, List.flatMap_cons, List.flatMap_nil, List.append_nil, List.append_assoc]
theorem unl_app (a b : List (List UInt8)) : unl (a ++ b) = unl a ++ unl b := by unfold unl; rw [List.flatMap_append]
theorem txM_all (c : Ctl) : txM c c.moved.length = unl (lines c) := by
  unfold txM txT lines
  rw [unl_app, List.take_length, List.take_length]
  congr 1
  · unfold unl
    rw [List.flatMap_assoc]; rfl
  · unfold unl
    rw [List.flatMap_map]; rfl
theorem tTx_len {t : Thg} (h : TOk t) (hs : TSz t) : (tTx t).length ≤ 700 := by
  have h1 := tLine_len h hs
  have h2 := pUp_len h.parts hs.parts t.parts.length
  rw [pUp_all] at h2
  by_cases h0 : 0 < t.parts.length
  · rw [tTx_p h0]
    simp only [List.length_append, List.length_cons, List.length_nil]
    omega
  · rw [tTx_0 h0]
    simp only [List.length_append, List.length_cons, List.length_nil]
    omega
theorem txT_len {c : Ctl} (h : chkF c = 0) (k : Nat) : (txT c k).length ≤ 210000 := by
  have h1 := fm_len (f := tTx) (b := 700) (l := c.things.take k) fun t ht => tTx_len (tok_of h (List.mem_of_mem_take ht)) (tsz_of h (List.mem_of_mem_take ht))
  have h2 : (c.things.take k).length ≤ 300 := by rw [List.length_take]; have := (catOk h).lim.1; omega
  unfold txT
  omega
theorem mLine_len {m : Mvd} (h : (0 ≤ m.src ∧ m.src < 10000000) ∧ (0 ≤ m.dst ∧ m.dst < 10000000)) : (mLine m).length ≤ 30 := by
  have h1 := dc_len h.1
  have h2 := dc_len h.2
  have h3 : mvP.length ≤ 6 := by decide
  unfold mLine
  simp only [List.length_append, List.length_cons]
  omega
theorem txM_len {c : Ctl} (h : chkF c = 0) (k : Nat) : (txM c k).length ≤ 250000 := by
  have h0 := txT_len h c.things.length
  have h1 := fm_len (f := mTx) (b := 31) (l := c.moved.take k) fun m hm => by
    have := mLine_len (mok_of h (List.mem_of_mem_take hm))
    unfold mTx
    rw [List.length_append]
    show _ + 1 ≤ 31; omega
  have h2 : (c.moved.take k).length ≤ 300 := by rw [List.length_take]; have := (catOk h).lim.2; omega
  unfold txM
  rw [List.length_append]
  omega
/-! ## Words joined -/
theorem join_sp : ∀ (x : List UInt8) (r : List (List UInt8)), 32 :: Lib.join (x :: r) [32] = (x :: r).flatMap fun w => 32 :: w
  | x, [] => by rw [Lib.join_one]; simp
  | x, y :: r => by
    have ih := join_sp y r
    rw [List.flatMap_cons, ← ih, Lib.join_cons]
    have : Lib.joinTail [32] (y :: r) = 32 :: Lib.join (y :: r) [32] := by
      rw [Lib.join_cons]; unfold Lib.joinTail; simp
    rw [this]; simp
theorem join_t {t : Thg} {q : List UInt8} (hq : parL t.parent = q) : Lib.join [kWd t.kind, dcL t.id, dcL t.since, q, codL t.code, t.title.data.toList] [32] = tLine t := by
  subst hq
  unfold tLine Lib.join
  simp [List.intercalate]
theorem c_join6 (t : Thg) (q : List UInt8) (hq : parL t.parent = q) (h : TOk t) (hs : TSz t) : ACall Tryz.prog 28 [.sl [[.v (.string (strL (kWd t.kind)))], [.v (.string (strL (dcL t.id)))], [.v (.string (strL (dcL t.since)))], [.v (.string (strL q))], [.v (.string (strL (codL t.code)))], [.v (.string t.title)]], .v (.string ⟨#[32]⟩)] (.v (.string (strL (tLine t)))) := by
 have hl := tLine_len h hs
 have := c_join [kWd t.kind, dcL t.id, dcL t.since, q, codL t.code, t.title.data.toList] ⟨#[32]⟩ (by show 6 ≤ 140737488355328; decide) (by show (Lib.join _ [32]).length ≤ _; rw [join_t hq]; omega)
 have e : ((⟨#[32]⟩ : ByteArray).data.toList) = [32] := rfl
 rw [e, join_t hq] at this
 exact this
def numsL (ns : List Int) : List UInt8 := Lib.join (ns.map dcL) [32]
theorem numsL_2 (a b : Int) : numsL [a, b] = dcL a ++ 32 :: dcL b := by unfold numsL Lib.join; simp [List.intercalate]
theorem numsL_p {ps : List Int} (h : 0 < ps.length) : 32 :: 32 :: numsL ps = pLine ps := by
  cases ps with
  | nil => simp at h
  | cons n ps =>
    unfold numsL pLine
    rw [List.map_cons, join_sp]
    rw [← List.map_cons, List.flatMap_map]
theorem numsL_len {ps : List Int} (h : ∀ n ∈ ps, 0 ≤ n ∧ n < 10000000) (hl : ps.length ≤ 50) : (numsL ps).length ≤ 401 := by
  by_cases h0 : 0 < ps.length
  · have h2 := pUp_len h hl ps.length
    rw [pUp_all, ← numsL_p h0] at h2
    simp only [List.length_cons] at h2
    omega
  · have : ps = [] := List.eq_nil_of_length_eq_zero (by omega)
    subst this
    decide
theorem c_joinN (ps : List Int) (h : ∀ n ∈ ps, 0 ≤ n ∧ n < 10000000) (hl : ps.length ≤ 50) : ACall Tryz.prog 28 [.sl ((ps.map dcL).map pcD), .v (.string ⟨#[32]⟩)] (.v (.string (strL (numsL ps)))) := by
 have h1 := numsL_len h hl
 exact c_join (ps.map dcL) ⟨#[32]⟩ (by rw [List.length_map]; omega) (by show (numsL ps).length ≤ _; omega)

set_option maxRecDepth 100000 in
set_option maxHeartbeats 1000000 in
theorem c_orDash (s : ByteArray) : ACall Tryz.prog 30 [.v (.string s)] (.v (.string (strL (codL s)))) := by
 refine acall_of (n := 6) (ds' := [.v (.string (strL (codL s)))]) Tryz.func30 rfl (by kernel_rfl) rfl [2] rfl rfl ?_
 intro B w0 F0 fr
 refine .sr ?_
 refine .aA (.nil ?_)
 refine .seq ?_
 refine .sr ?_
 refine .mA ?_
 refine .sA (.seql rfl rfl rfl) (.nil ?_)
 refine .cond rfl (fun h1 => ?_) (fun h1 => ?_)
 ·replace h1 := of_decide_eq_true h1
  rw [cod_0 h1]
  refine .sr ?_
  refine .aA (.nil ?_)
  refine .ret ?_
  refine ⟨RetD.eq rfl ?_, trivial⟩
  all_goals (rfl)
 replace h1 := of_decide_eq_false h1
 rw [cod_s h1]
 refine .skip ?_
 refine .sr ?_
 refine .mA ?_
 refine .aA (.nil ?_)
 refine .ret ?_
 refine ⟨RetD.eq rfl ?_, trivial⟩
 all_goals (rfl)

set_option maxRecDepth 100000 in
set_option maxHeartbeats 1000000 in
theorem c_dash (s : ByteArray) : ACall Tryz.prog 35 [.v (.string s)] (.v (.string (strL (codL s)))) := by
 refine acall_of (n := 6) (ds' := [.v (.string (strL (codL s)))]) Tryz.func35 rfl (by kernel_rfl) rfl [2] rfl rfl ?_
 intro B w0 F0 fr
 refine .sr ?_
 refine .aA (.nil ?_)
 refine .seq ?_
 refine .sr ?_
 refine .mA ?_
 refine .sA (.seql rfl rfl rfl) (.nil ?_)
 refine .cond rfl (fun h1 => ?_) (fun h1 => ?_)
 ·replace h1 := of_decide_eq_true h1
  rw [cod_0 h1]
  refine .sr ?_
  refine .aA (.nil ?_)
  refine .ret ?_
  refine ⟨RetD.eq rfl ?_, trivial⟩
  all_goals (rfl)
 replace h1 := of_decide_eq_false h1
 rw [cod_s h1]
 refine .skip ?_
 refine .sr ?_
 refine .mA ?_
 refine .aA (.nil ?_)
 refine .ret ?_
 refine ⟨RetD.eq rfl ?_, trivial⟩
 all_goals (rfl)

set_option maxRecDepth 100000 in
set_option maxHeartbeats 1000000 in
theorem c_rNms (ps : List Int) (h : ∀ n ∈ ps, 0 ≤ n ∧ n < 10000000) (hl : ps.length ≤ 50) : ACallT Tryz.prog TBM 34 [.sl (ps.map intD)] (.v (.string (strL (numsL ps)))) := by
 refine acall_ofT (n := 20) (ds' := [.v (.string (strL (numsL ps)))]) Tryz.func34 rfl (by kernel_rfl) rfl [2] rfl rfl ?_
 intro B w0 F0 hT
 refine .sr ?_
 refine .aA (.nil ?_)
 refine .sr ?_
 refine .aA (.nil ?_)
 refine .seq ?_
 refine .sr ?_
 refine .mA ?_
 refine .sA (.lenSl rfl et_39.ht rfl) ?_
 refine .mA (.nil ?_)
 refine .block ?_
 refine .adopt 3 1 9 1 rfl rfl ?_
 refine .loop (G := Nat) (fun k => Env.of [(8, .d (.v (.int .i64 (k : Int)))), (6, .d (.sl (ps.map intD))), (7, .d (.v (.int .i64 ((ps.map intD).length : Int)))), (3, .own 1)]) (fun k => [(1, .row 9 1 (((ps.take k).map dcL).map pcD))]) (fun k => k ≤ ps.length) (fun k => ps.length - k) 0 (Nat.zero_le _) (Sub.less ⟨(SLe.of_eq rfl), SLe.refl _, SLe.refl _, SLe.refl _, trivial⟩ (row_same rfl)) ?_
 intro k hk
 refine .sr ?_
 refine .sA (.lss rfl rfl rfl) (.nil ?_)
 refine .seq ?_
 refine .cond rfl (fun h1 => ?_) (fun h1 => ?_)
 ·replace h1 := of_decide_eq_true h1
  rw [List.length_map] at h1
  have hlt : k < ps.length := by omega
  have htk : (ps.take k).length ≤ 50 := by rw [List.length_take]; omega
  refine .skip ?_
  refine .seq ?_
  refine .block ?_
  refine .sr ?_
  refine .sA (.indexAddr rfl et_39 rfl rfl k rfl (at_lst hlt) rfl) ?_
  refine .sA (.load rfl sc_3 rfl) ?_
  refine .aA (.nil ?_)
  refine .region ?_
  refine .sA (.moveO rfl rfl) ?_
  refine .mA ?_
  -- wants the world
  refine .callT rfl rfl rfl hT tbm_stays rfl (.cons (.rfl' rfl) .nil) (c_itoaL ps[k] (h _ (List.getElem_mem hlt))) ?_
  refine .sA (.buildSlice rfl et_68 (.cons rfl rfl rfl .nil) rfl (by decide)) ?_
  -- append 16
  refine .append rfl rfl rfl rfl et_68 rfl (.head _) rfl (fun y hy => by obtain rfl := List.mem_singleton.1 hy; rfl) (by simp; omega) (by simp; omega) ?_
  refine .sA (.assignO rfl rfl) (.nil ?_)
  refine .region ?_
  refine .sA (.add64 rfl rfl rfl (by omega) (by omega)) ?_
  refine .mA (.nil ?_)
  refine ⟨k + 1, (by omega), (by dsimp only; omega), Sub.less ⟨(SLe.of_eq rfl), SLe.refl _, SLe.refl _, SLe.refl _, trivial⟩ (row_same (by rw [List.take_add_one, List.getElem?_eq_getElem hlt, Option.toList_some, List.map_append, List.map_append]; rfl))⟩
 replace h1 := of_decide_eq_false h1
 rw [List.length_map] at h1
 obtain rfl : k = ps.length := by omega
 rw [List.take_length]
 refine .exit ?_
 refine .sr ?_
 refine .sA (.moveO rfl rfl) ?_
 refine .sA (.callV rfl (.cons (.own rfl (.head _)) (.cons (.d rfl) .nil)) (c_joinN ps h hl)) ?_
 refine .aA (.nil ?_)
 refine .ret ?_
 refine ⟨RetD.eq rfl ?_, trivial⟩
 all_goals (rfl)

end Go.Proofs.YthcdjmkkgbcaaaaGreatDoor

namespace Go.Proofs.YthcdjmkkgbcaaaaGreatDoor
open Go.RowKit
set_option linter.unusedVariables false

/-! Types. -/
namespace TyTN
end TyTN
open TyH3 TyH4 TyH5 TyJ3 TyJ4 TyJ5 TyKA TyKB TyKC TyKD TyKE TyKF TyKG TyTA TyTB TyTD TyTE TyTG TyTF TyTH TyTI TyTK TyTL TyTM TyTN

open Go.Lib
set_option linter.unusedSimpArgs false
theorem obs_fix2 {X Y : Ob} (t : List UInt8) : Obs.del 102 (Obs.upd 102 X ((102, Y) :: Obs.kill 102 (Bld 901 801 t))) = Bld 901 801 t := by cases t <;> rfl
theorem bStr_sz (l : List UInt8) : (bStr l).size = l.length := strL_size l
set_option maxRecDepth 100000 in
set_option maxHeartbeats 4000000 in
theorem c_pText (c : Ctl) (hc : CtlOk c) : ACallT Tryz.prog TBM 10 [.agg c.ds] (.tup [.v (.string (textV c).1), .v (.int .i64 (textV c).2)]) := by
 refine acall_ofT (n := 91) (ds' := [.v (.string (textV c).1), .v (.int .i64 (textV c).2)]) Tryz.func10 rfl (by kernel_rfl) rfl [2, 3] rfl rfl ?_
 intro B w0 F0 hT
 refine .sr ?_
 refine .sA (.box rfl rfl rfl) ?_
 refine .aA ?_
 refine .aA (.nil ?_)
 refine .seq ?_
 refine .sr ?_
 refine .sA (.loadAgg rfl ag_25 rfl rfl) ?_
 -- wants the world
 refine .callT rfl rfl rfl hT tbm_stays rfl (.cons (.rfl' rfl) .nil) (c_pChk c hc).max ?_
 refine .aA (.nil ?_)
 refine .sr ?_
 refine .mA ?_
 refine .sA (.neq rfl rfl rfl) (.nil ?_)
 refine .cond rfl (fun h1 => ?_) (fun h1 => ?_)
 ·replace h1 := of_decide_eq_true h1
  rw [textV_c h1]
  refine .sr ?_
  refine .mA ?_
  refine .aA ?_
  refine .aA (.nil ?_)
  refine .ret ?_
  refine ⟨RetD.eq rfl ?_, RetD.eq rfl ?_, trivial⟩
  all_goals (rfl)
 replace h1 := of_decide_eq_false h1
 have h0 : chkF c = 0 := Decidable.not_not.1 h1
 obtain ⟨hL1, hL2⟩ := (catOk h0).lim
 refine .skip ?_
 refine .sr ?_
 refine .allocB 901 801 (by decide) rfl rfl rfl rfl rfl rfl rfl ?_
 refine .nil ?_
 refine .seq ?_
 refine .sr ?_
 refine .sA (.fieldAddr rfl fo_25_0 rfl) ?_
 refine .sA (.load rfl sc_22 rfl) ?_
 refine .sA (.lenSl rfl et_22.ht rfl) ?_
 refine .mA (.nil ?_)
 refine .block ?_
 refine .loop (G := Nat) (fun k => Env.of [(21, .d (.v (.int .i64 (k : Int)))), (19, .d (.sl (c.things.map Thg.ds))), (20, .d (.v (.int .i64 ((c.things.map Thg.ds).length : Int)))), (1, .d (.fp c.ds)), (5, .ptr 901 0)]) (fun k => (Bld 901 801 (txT c k))) (fun k => k ≤ c.things.length) (fun k => c.things.length - k) 0 (Nat.zero_le _) (Sub.less ⟨(SLe.of_eq rfl), SLe.refl _, SLe.refl _, SLe.refl _, SLe.refl _, trivial⟩ (bld_same rfl)) ?_
 intro k hk
 refine .sr ?_
 refine .sA (.lss rfl rfl rfl) (.nil ?_)
 refine .seq ?_
 refine .cond rfl (fun h2 => ?_) (fun h2 => ?_)
 ·replace h2 := of_decide_eq_true h2
  rw [List.length_map] at h2
  have hlt : k < c.things.length := by omega
  have htk := tok_of h0 (List.getElem_mem hlt)
  have hsz := tsz_of h0 (List.getElem_mem hlt)
  have hTl := txT_len h0 k
  have hll := tLine_len htk hsz
  have hsp := hsz.parts
  have HN := txT_next hlt
  refine .skip ?_
  refine .seq ?_
  refine .block ?_
  refine .sr ?_
  refine .sA (.indexAddr rfl et_22 rfl rfl k rfl (at_lst hlt) rfl) ?_
  refine .sA (.loadAgg rfl ag_61 rfl rfl) ?_
  refine .alloc 101 rfl rfl rfl rfl zt_61 rfl rfl rfl ?_
  refine .store rfl rfl rfl sz_61 rfl (.head _) rfl rfl rfl (Nat.le_of_ble_eq_true rfl) ?_
  refine .freezeCells 7 (ds := c.things[k].ds) rfl (.head _) (.nil ?_)
  refine .seq ?_
  refine .obsEq _ (obs_fix _) ?_
  refine .region ?_
  refine .aA (.nil ?_)
  refine .seq ?_
  refine .sr ?_
  refine .sA (.fieldAddr rfl fo_61_5 rfl) ?_
  refine .sA (.load rfl sc_3 rfl) ?_
  refine .sA (.neq rfl rfl rfl) (.nil ?_)
  refine .cond rfl (fun h3 => ?_) (fun h3 => ?_)
  ·replace h3 := of_decide_eq_true h3
   have hq : parL c.things[k].parent = dcL c.things[k].parent := if_neg h3
   refine .region ?_
   refine .sA (.fieldAddr rfl fo_61_5 rfl) ?_
   refine .sA (.load rfl sc_3 rfl) ?_
   -- wants the world
   refine .callT rfl rfl rfl hT tbm_stays rfl (.cons (.rfl' rfl) .nil) (c_itoaL c.things[k].parent htk.parent) ?_
   refine .aA (.nil ?_)
   refine .seq ?_
   refine .drawTailK 18 (by kernel_rfl) (by kernel_rfl) (by kernel_rfl) ?_
   refine .step rfl rfl rfl (AOp.toK (.fieldAddr rfl fo_61_1 rfl)) ?_
   refine .step rfl rfl rfl (AOp.toK (.load rfl sc_3 rfl)) ?_
   refine .step rfl rfl rfl (AOp.toK (.call rfl (.cons (.rfl' rfl) .nil) (c_wordL c.things[k].kind))) ?_
   refine .step rfl rfl rfl (AOp.toK (.fieldAddr rfl fo_61_0 rfl)) ?_
   refine .step rfl rfl rfl (AOp.toK (.load rfl sc_3 rfl)) ?_
   refine .step rfl rfl rfl (AOpK.callT tbm_stays rfl hT rfl (.cons (.rfl' rfl) .nil) (c_itoaL c.things[k].id htk.id)) ?_
   refine .step rfl rfl rfl (AOp.toK (.fieldAddr rfl fo_61_4 rfl)) ?_
   refine .step rfl rfl rfl (AOp.toK (.load rfl sc_3 rfl)) ?_
   refine .step rfl rfl rfl (AOpK.callT tbm_stays rfl hT rfl (.cons (.rfl' rfl) .nil) (c_itoaL c.things[k].since htk.since)) ?_
   refine .step rfl rfl rfl (AOp.toK (.moveD rfl rfl)) ?_
   refine .step rfl rfl rfl (AOp.toK (.fieldAddr rfl fo_61_3 rfl)) ?_
   refine .step rfl rfl rfl (AOp.toK (.load rfl sc_9 rfl)) ?_
   refine .step rfl rfl rfl (AOp.toK (.call rfl (.cons (.rfl' rfl) .nil) (c_orDash c.things[k].code))) ?_
   refine .step rfl rfl rfl (AOp.toK (.fieldAddr rfl fo_61_2 rfl)) ?_
   refine .step rfl rfl rfl (AOp.toK (.load rfl sc_9 rfl)) ?_
   refine .step rfl rfl rfl (AOp.toK (.buildSlice rfl et_68 (.cons rfl rfl rfl (.cons rfl rfl rfl (.cons rfl rfl rfl (.cons rfl rfl rfl (.cons rfl rfl rfl (.cons rfl rfl rfl .nil)))))) rfl (by decide))) ?_
   refine .step rfl rfl rfl (AOp.toK (.call rfl (.cons (.rfl' rfl) (.cons (.rfl' rfl) .nil)) (c_join6 c.things[k] _ hq htk hsz))) ?_
   refine .step rfl rfl rfl (AOp.toK (.cat rfl rfl rfl (by (try simp only [bStr_sz, List.length_append, ByteArray.size_append, strL_size, szMk, List.size_toArray, List.length_cons, List.length_nil]); omega))) ?_
   refine .nil ?_
   -- writes 901 801
   refine .callX rfl rfl rfl (.cons (SLe.refl _) (.cons (SLe.refl _) .nil)) (c_ws 901 801 (by decide) (txT c k) (strL (tLine c.things[k]) ++ (⟨#[10]⟩ : ByteArray)) (by rw [ByteArray.size_append]; show 0 < _ + 1; omega) (by (try simp only [bStr_sz, List.length_append, List.length_cons, List.length_nil, strL_size, ByteArray.size_append, szMk, List.size_toArray, ba_app, strL_list]); omega)) ⟨(.head _), (.tail _ (.head _)), trivial⟩ rfl rfl (fun _ h => rfl) ?_
   refine .nil ?_
   refine .sr ?_
   refine .sA (.fieldAddr rfl fo_61_6 rfl) ?_
   refine .sA (.load rfl sc_39 rfl) ?_
   refine .sA (.lenSl rfl et_39.ht rfl) ?_
   refine .sA (.gtr rfl rfl rfl) (.nil ?_)
   refine .cond rfl (fun h4 => ?_) (fun h4 => ?_)
   ·replace h4 := of_decide_eq_true h4
    rw [List.length_map] at h4
    have hpp : 0 < c.things[k].parts.length := by omega
    have HT := tTx_p hpp
    refine .sr ?_
    -- writes 901 801
    refine .callX rfl rfl rfl (.cons (SLe.refl _) (.cons (SLe.refl _) .nil)) (c_ws 901 801 (by decide) _ _ (by decide) (by (try simp only [bStr_sz, List.length_append, List.length_cons, List.length_nil, strL_size, ByteArray.size_append, szMk, List.size_toArray, ba_app, strL_list]); omega)) ⟨(.head _), (.tail _ (.head _)), trivial⟩ rfl rfl (fun _ h => rfl) ?_
    refine .nil ?_
    refine .seq ?_
    refine .sr ?_
    refine .sA (.fieldAddr rfl fo_61_6 rfl) ?_
    refine .sA (.load rfl sc_39 rfl) ?_
    refine .sA (.lenSl rfl et_39.ht rfl) ?_
    refine .mA (.nil ?_)
    refine .block ?_
    refine .loop (G := Nat) (fun i => Env.of [(58, .d (.v (.int .i64 (i : Int)))), (56, .d (.sl (c.things[k].parts.map intD))), (57, .d (.v (.int .i64 ((c.things[k].parts.map intD).length : Int)))), (21, .d (.v (.int .i64 (k : Int)))), (19, .d (.sl (c.things.map Thg.ds))), (20, .d (.v (.int .i64 ((c.things.map Thg.ds).length : Int)))), (1, .d (.fp c.ds)), (5, .ptr 901 0), (7, .d (.fp c.things[k].ds))]) (fun i => (Bld 901 801 ((txT c k ++ (strL (tLine c.things[k]) ++ (⟨#[10]⟩ : ByteArray)).data.toList) ++ pUp c.things[k].parts i))) (fun i => i ≤ c.things[k].parts.length) (fun i => c.things[k].parts.length - i) 0 (Nat.zero_le _) (Sub.less ⟨(SLe.of_eq rfl), SLe.refl _, SLe.refl _, SLe.refl _, SLe.refl _, SLe.refl _, SLe.refl _, SLe.refl _, SLe.refl _, trivial⟩ (bld_same (by rw [pUp_0]; (try simp only [ba_app, strL_list, List.append_assoc, List.nil_append, List.append_nil, List.cons_append]); first | done | rfl))) ?_
    intro i hi
    refine .sr ?_
    refine .sA (.lss rfl rfl rfl) (.nil ?_)
    refine .seq ?_
    refine .cond rfl (fun h5 => ?_) (fun h5 => ?_)
    ·replace h5 := of_decide_eq_true h5
     rw [List.length_map] at h5
     have hil : i < c.things[k].parts.length := by omega
     have hpl := pUp_len htk.parts hsz.parts i
     have hdl := dc_len (htk.parts _ (List.getElem_mem hil))
     refine .skip ?_
     refine .seq ?_
     refine .block ?_
     refine .sr ?_
     refine .sA (.indexAddr rfl et_39 rfl rfl i rfl (at_lst hil) rfl) ?_
     refine .sA (.load rfl sc_3 rfl) ?_
     refine .aA (.nil ?_)
     refine .region ?_
     refine .mA ?_
     -- wants the world
     refine .callT rfl rfl rfl hT tbm_stays rfl (.cons (.rfl' rfl) .nil) (c_itoaL c.things[k].parts[i] (htk.parts _ (List.getElem_mem hil))) ?_
     refine .sA (.cat rfl rfl rfl (by (try simp only [bStr_sz, List.length_append, ByteArray.size_append, strL_size, szMk, List.size_toArray, List.length_cons, List.length_nil]); omega)) ?_
     -- writes 901 801
     refine .callX rfl rfl rfl (.cons (SLe.refl _) (.cons (SLe.refl _) .nil)) (c_ws 901 801 (by decide) _ ((⟨#[32]⟩ : ByteArray) ++ strL (dcL c.things[k].parts[i])) (by rw [ByteArray.size_append]; show 0 < 1 + _; omega) (by (try simp only [bStr_sz, List.length_append, List.length_cons, List.length_nil, strL_size, ByteArray.size_append, szMk, List.size_toArray, ba_app, strL_list]); omega)) ⟨(.head _), (.tail _ (.head _)), trivial⟩ rfl rfl (fun _ h => rfl) ?_
     refine .nil ?_
     refine .region ?_
     refine .sA (.add64 rfl rfl rfl (by omega) (by omega)) ?_
     refine .mA (.nil ?_)
     refine ⟨i + 1, (by omega), (by dsimp only; omega), Sub.less ⟨(SLe.of_eq rfl), SLe.refl _, SLe.refl _, SLe.refl _, SLe.refl _, SLe.refl _, SLe.refl _, SLe.refl _, SLe.refl _, trivial⟩ (bld_same (by rw [pUp_next hil]; (try simp only [ba_app, strL_list, List.append_assoc, List.nil_append, List.append_nil, List.cons_append]); first | done | rfl))⟩
    replace h5 := of_decide_eq_false h5
    rw [List.length_map] at h5
    obtain rfl : i = c.things[k].parts.length := by omega
    have hpl := pUp_len htk.parts hsz.parts c.things[k].parts.length
    refine .exit ?_
    refine .region ?_
    -- writes 901 801
    refine .callX rfl rfl rfl (.cons (SLe.refl _) (.cons (SLe.refl _) .nil)) (c_ws 901 801 (by decide) _ _ (by decide) (by (try simp only [bStr_sz, List.length_append, List.length_cons, List.length_nil, strL_size, ByteArray.size_append, szMk, List.size_toArray, ba_app, strL_list]); omega)) ⟨(.head _), (.tail _ (.head _)), trivial⟩ rfl rfl (fun _ h => rfl) ?_
    refine .nil ?_
    refine .region ?_
    refine .sA (.add64 rfl rfl rfl (by omega) (by omega)) ?_
    refine .mA (.nil ?_)
    refine ⟨k + 1, (by omega), (by dsimp only; omega), Sub.less ⟨(SLe.of_eq rfl), SLe.refl _, SLe.refl _, SLe.refl _, SLe.refl _, trivial⟩ (bld_same (by rw [HN, HT]; (try rw [← pUp_all]); (try simp only [ba_app, strL_list, List.append_assoc, List.nil_append, List.append_nil, List.cons_append]); first | done | rfl))⟩
   replace h4 := of_decide_eq_false h4
   rw [List.length_map] at h4
   have HT := tTx_0 (t := c.things[k]) (by omega)
   refine .skip ?_
   refine .region ?_
   refine .sA (.add64 rfl rfl rfl (by omega) (by omega)) ?_
   refine .mA (.nil ?_)
   refine ⟨k + 1, (by omega), (by dsimp only; omega), Sub.less ⟨(SLe.of_eq rfl), SLe.refl _, SLe.refl _, SLe.refl _, SLe.refl _, trivial⟩ (bld_same (by rw [HN, HT]; (try rw [← pUp_all]); (try simp only [ba_app, strL_list, List.append_assoc, List.nil_append, List.append_nil, List.cons_append]); first | done | rfl))⟩
  replace h3 := of_decide_eq_false h3
  have hq : parL c.things[k].parent = [45] := if_pos (Decidable.not_not.1 h3)
  refine .skip ?_
  refine .seq ?_
  refine .drawTailK 18 (by kernel_rfl) (by kernel_rfl) (by kernel_rfl) ?_
  refine .step rfl rfl rfl (AOp.toK (.fieldAddr rfl fo_61_1 rfl)) ?_
  refine .step rfl rfl rfl (AOp.toK (.load rfl sc_3 rfl)) ?_
  refine .step rfl rfl rfl (AOp.toK (.call rfl (.cons (.rfl' rfl) .nil) (c_wordL c.things[k].kind))) ?_
  refine .step rfl rfl rfl (AOp.toK (.fieldAddr rfl fo_61_0 rfl)) ?_
  refine .step rfl rfl rfl (AOp.toK (.load rfl sc_3 rfl)) ?_
  refine .step rfl rfl rfl (AOpK.callT tbm_stays rfl hT rfl (.cons (.rfl' rfl) .nil) (c_itoaL c.things[k].id htk.id)) ?_
  refine .step rfl rfl rfl (AOp.toK (.fieldAddr rfl fo_61_4 rfl)) ?_
  refine .step rfl rfl rfl (AOp.toK (.load rfl sc_3 rfl)) ?_
  refine .step rfl rfl rfl (AOpK.callT tbm_stays rfl hT rfl (.cons (.rfl' rfl) .nil) (c_itoaL c.things[k].since htk.since)) ?_
  refine .step rfl rfl rfl (AOp.toK (.moveD rfl rfl)) ?_
  refine .step rfl rfl rfl (AOp.toK (.fieldAddr rfl fo_61_3 rfl)) ?_
  refine .step rfl rfl rfl (AOp.toK (.load rfl sc_9 rfl)) ?_
  refine .step rfl rfl rfl (AOp.toK (.call rfl (.cons (.rfl' rfl) .nil) (c_orDash c.things[k].code))) ?_
  refine .step rfl rfl rfl (AOp.toK (.fieldAddr rfl fo_61_2 rfl)) ?_
  refine .step rfl rfl rfl (AOp.toK (.load rfl sc_9 rfl)) ?_
  refine .step rfl rfl rfl (AOp.toK (.buildSlice rfl et_68 (.cons rfl rfl rfl (.cons rfl rfl rfl (.cons rfl rfl rfl (.cons rfl rfl rfl (.cons rfl rfl rfl (.cons rfl rfl rfl .nil)))))) rfl (by decide))) ?_
  refine .step rfl rfl rfl (AOp.toK (.call rfl (.cons (.rfl' rfl) (.cons (.rfl' rfl) .nil)) (c_join6 c.things[k] _ hq htk hsz))) ?_
  refine .step rfl rfl rfl (AOp.toK (.cat rfl rfl rfl (by (try simp only [bStr_sz, List.length_append, ByteArray.size_append, strL_size, szMk, List.size_toArray, List.length_cons, List.length_nil]); omega))) ?_
  refine .nil ?_
  -- writes 901 801
  refine .callX rfl rfl rfl (.cons (SLe.refl _) (.cons (SLe.refl _) .nil)) (c_ws 901 801 (by decide) (txT c k) (strL (tLine c.things[k]) ++ (⟨#[10]⟩ : ByteArray)) (by rw [ByteArray.size_append]; show 0 < _ + 1; omega) (by (try simp only [bStr_sz, List.length_append, List.length_cons, List.length_nil, strL_size, ByteArray.size_append, szMk, List.size_toArray, ba_app, strL_list]); omega)) ⟨(.head _), (.tail _ (.head _)), trivial⟩ rfl rfl (fun _ h => rfl) ?_
  refine .nil ?_
  refine .sr ?_
  refine .sA (.fieldAddr rfl fo_61_6 rfl) ?_
  refine .sA (.load rfl sc_39 rfl) ?_
  refine .sA (.lenSl rfl et_39.ht rfl) ?_
  refine .sA (.gtr rfl rfl rfl) (.nil ?_)
  refine .cond rfl (fun h6 => ?_) (fun h6 => ?_)
  ·replace h6 := of_decide_eq_true h6
   rw [List.length_map] at h6
   have hpp : 0 < c.things[k].parts.length := by omega
   have HT := tTx_p hpp
   refine .sr ?_
   -- writes 901 801
   refine .callX rfl rfl rfl (.cons (SLe.refl _) (.cons (SLe.refl _) .nil)) (c_ws 901 801 (by decide) _ _ (by decide) (by (try simp only [bStr_sz, List.length_append, List.length_cons, List.length_nil, strL_size, ByteArray.size_append, szMk, List.size_toArray, ba_app, strL_list]); omega)) ⟨(.head _), (.tail _ (.head _)), trivial⟩ rfl rfl (fun _ h => rfl) ?_
   refine .nil ?_
   refine .seq ?_
   refine .sr ?_
   refine .sA (.fieldAddr rfl fo_61_6 rfl) ?_
   refine .sA (.load rfl sc_39 rfl) ?_
   refine .sA (.lenSl rfl et_39.ht rfl) ?_
   refine .mA (.nil ?_)
   refine .block ?_
   refine .loop (G := Nat) (fun i => Env.of [(58, .d (.v (.int .i64 (i : Int)))), (56, .d (.sl (c.things[k].parts.map intD))), (57, .d (.v (.int .i64 ((c.things[k].parts.map intD).length : Int)))), (21, .d (.v (.int .i64 (k : Int)))), (19, .d (.sl (c.things.map Thg.ds))), (20, .d (.v (.int .i64 ((c.things.map Thg.ds).length : Int)))), (1, .d (.fp c.ds)), (5, .ptr 901 0), (7, .d (.fp c.things[k].ds))]) (fun i => (Bld 901 801 ((txT c k ++ (strL (tLine c.things[k]) ++ (⟨#[10]⟩ : ByteArray)).data.toList) ++ pUp c.things[k].parts i))) (fun i => i ≤ c.things[k].parts.length) (fun i => c.things[k].parts.length - i) 0 (Nat.zero_le _) (Sub.less ⟨(SLe.of_eq rfl), SLe.refl _, SLe.refl _, SLe.refl _, SLe.refl _, SLe.refl _, SLe.refl _, SLe.refl _, SLe.refl _, trivial⟩ (bld_same (by rw [pUp_0]; (try simp only [ba_app, strL_list, List.append_assoc, List.nil_append, List.append_nil, List.cons_append]); first | done | rfl))) ?_
   intro i hi
   refine .sr ?_
   refine .sA (.lss rfl rfl rfl) (.nil ?_)
   refine .seq ?_
   refine .cond rfl (fun h7 => ?_) (fun h7 => ?_)
   ·replace h7 := of_decide_eq_true h7
    rw [List.length_map] at h7
    have hil : i < c.things[k].parts.length := by omega
    have hpl := pUp_len htk.parts hsz.parts i
    have hdl := dc_len (htk.parts _ (List.getElem_mem hil))
    refine .skip ?_
    refine .seq ?_
    refine .block ?_
    refine .sr ?_
    refine .sA (.indexAddr rfl et_39 rfl rfl i rfl (at_lst hil) rfl) ?_
    refine .sA (.load rfl sc_3 rfl) ?_
    refine .aA (.nil ?_)
    refine .region ?_
    refine .mA ?_
    -- wants the world
    refine .callT rfl rfl rfl hT tbm_stays rfl (.cons (.rfl' rfl) .nil) (c_itoaL c.things[k].parts[i] (htk.parts _ (List.getElem_mem hil))) ?_
    refine .sA (.cat rfl rfl rfl (by (try simp only [bStr_sz, List.length_append, ByteArray.size_append, strL_size, szMk, List.size_toArray, List.length_cons, List.length_nil]); omega)) ?_
    -- writes 901 801
    refine .callX rfl rfl rfl (.cons (SLe.refl _) (.cons (SLe.refl _) .nil)) (c_ws 901 801 (by decide) _ ((⟨#[32]⟩ : ByteArray) ++ strL (dcL c.things[k].parts[i])) (by rw [ByteArray.size_append]; show 0 < 1 + _; omega) (by (try simp only [bStr_sz, List.length_append, List.length_cons, List.length_nil, strL_size, ByteArray.size_append, szMk, List.size_toArray, ba_app, strL_list]); omega)) ⟨(.head _), (.tail _ (.head _)), trivial⟩ rfl rfl (fun _ h => rfl) ?_
    refine .nil ?_
    refine .region ?_
    refine .sA (.add64 rfl rfl rfl (by omega) (by omega)) ?_
    refine .mA (.nil ?_)
    refine ⟨i + 1, (by omega), (by dsimp only; omega), Sub.less ⟨(SLe.of_eq rfl), SLe.refl _, SLe.refl _, SLe.refl _, SLe.refl _, SLe.refl _, SLe.refl _, SLe.refl _, SLe.refl _, trivial⟩ (bld_same (by rw [pUp_next hil]; (try simp only [ba_app, strL_list, List.append_assoc, List.nil_append, List.append_nil, List.cons_append]); first | done | rfl))⟩
   replace h7 := of_decide_eq_false h7
   rw [List.length_map] at h7
   obtain rfl : i = c.things[k].parts.length := by omega
   have hpl := pUp_len htk.parts hsz.parts c.things[k].parts.length
   refine .exit ?_
   refine .region ?_
   -- writes 901 801
   refine .callX rfl rfl rfl (.cons (SLe.refl _) (.cons (SLe.refl _) .nil)) (c_ws 901 801 (by decide) _ _ (by decide) (by (try simp only [bStr_sz, List.length_append, List.length_cons, List.length_nil, strL_size, ByteArray.size_append, szMk, List.size_toArray, ba_app, strL_list]); omega)) ⟨(.head _), (.tail _ (.head _)), trivial⟩ rfl rfl (fun _ h => rfl) ?_
   refine .nil ?_
   refine .region ?_
   refine .sA (.add64 rfl rfl rfl (by omega) (by omega)) ?_
   refine .mA (.nil ?_)
   refine ⟨k + 1, (by omega), (by dsimp only; omega), Sub.less ⟨(SLe.of_eq rfl), SLe.refl _, SLe.refl _, SLe.refl _, SLe.refl _, trivial⟩ (bld_same (by rw [HN, HT]; (try rw [← pUp_all]); (try simp only [ba_app, strL_list, List.append_assoc, List.nil_append, List.append_nil, List.cons_append]); first | done | rfl))⟩
  replace h6 := of_decide_eq_false h6
  rw [List.length_map] at h6
  have HT := tTx_0 (t := c.things[k]) (by omega)
  refine .skip ?_
  refine .region ?_
  refine .sA (.add64 rfl rfl rfl (by omega) (by omega)) ?_
  refine .mA (.nil ?_)
  refine ⟨k + 1, (by omega), (by dsimp only; omega), Sub.less ⟨(SLe.of_eq rfl), SLe.refl _, SLe.refl _, SLe.refl _, SLe.refl _, trivial⟩ (bld_same (by rw [HN, HT]; (try rw [← pUp_all]); (try simp only [ba_app, strL_list, List.append_assoc, List.nil_append, List.append_nil, List.cons_append]); first | done | rfl))⟩
 replace h2 := of_decide_eq_false h2
 rw [List.length_map] at h2
 obtain rfl : k = c.things.length := by omega
 refine .exit ?_
 refine .seq ?_
 refine .sr ?_
 refine .sA (.fieldAddr rfl fo_25_1 rfl) ?_
 refine .sA (.load rfl sc_23 rfl) ?_
 refine .sA (.lenSl rfl et_23.ht rfl) ?_
 refine .mA (.nil ?_)
 refine .block ?_
 refine .loop (G := Nat) (fun k => Env.of [(72, .d (.v (.int .i64 (k : Int)))), (70, .d (.sl (c.moved.map Mvd.ds))), (71, .d (.v (.int .i64 ((c.moved.map Mvd.ds).length : Int)))), (5, .ptr 901 0)]) (fun k => (Bld 901 801 (txM c k))) (fun k => k ≤ c.moved.length) (fun k => c.moved.length - k) 0 (Nat.zero_le _) (Sub.less ⟨(SLe.of_eq rfl), SLe.refl _, SLe.refl _, SLe.refl _, trivial⟩ (bld_same (txM_0 c).symm)) ?_
 intro k hk
 refine .sr ?_
 refine .sA (.lss rfl rfl rfl) (.nil ?_)
 refine .seq ?_
 refine .cond rfl (fun h8 => ?_) (fun h8 => ?_)
 ·replace h8 := of_decide_eq_true h8
  rw [List.length_map] at h8
  have hlt : k < c.moved.length := by omega
  have hmk := mok_of h0 (List.getElem_mem hlt)
  have hTl := txM_len h0 k
  have hd1 := dc_len hmk.1
  have hd2 := dc_len hmk.2
  have HN := txM_next hlt
  refine .skip ?_
  refine .seq ?_
  refine .block ?_
  refine .sr ?_
  refine .sA (.indexAddr rfl et_23 rfl rfl k rfl (at_lst hlt) rfl) ?_
  refine .sA (.loadAgg rfl ag_54 rfl rfl) ?_
  refine .alloc 102 rfl rfl rfl rfl zt_54 rfl rfl rfl ?_
  refine .store rfl rfl rfl sz_54 rfl (.head _) rfl rfl rfl (Nat.le_of_ble_eq_true rfl) ?_
  refine .freezeCells 12 (ds := c.moved[k].ds) rfl (.head _) (.nil ?_)
  refine .obsEq _ (obs_fix2 _) ?_
  refine .drawTailK 10 (by kernel_rfl) (by kernel_rfl) (by kernel_rfl) ?_
  refine .step rfl rfl rfl (AOp.toK (.fieldAddr rfl fo_54_0 rfl)) ?_
  refine .step rfl rfl rfl (AOp.toK (.load rfl sc_3 rfl)) ?_
  refine .step rfl rfl rfl (AOpK.callT tbm_stays rfl hT rfl (.cons (.rfl' rfl) .nil) (c_itoaL c.moved[k].src hmk.1)) ?_
  refine .step rfl rfl rfl (AOp.toK (.cat rfl rfl rfl (by (try simp only [bStr_sz, List.length_append, ByteArray.size_append, strL_size, szMk, List.size_toArray, List.length_cons, List.length_nil]); omega))) ?_
  refine .step rfl rfl rfl (AOp.toK (.cat rfl rfl rfl (by (try simp only [bStr_sz, List.length_append, ByteArray.size_append, strL_size, szMk, List.size_toArray, List.length_cons, List.length_nil]); omega))) ?_
  refine .step rfl rfl rfl (AOp.toK (.fieldAddr rfl fo_54_1 rfl)) ?_
  refine .step rfl rfl rfl (AOp.toK (.load rfl sc_3 rfl)) ?_
  refine .step rfl rfl rfl (AOpK.callT tbm_stays rfl hT rfl (.cons (.rfl' rfl) .nil) (c_itoaL c.moved[k].dst hmk.2)) ?_
  refine .step rfl rfl rfl (AOp.toK (.cat rfl rfl rfl (by (try simp only [bStr_sz, List.length_append, ByteArray.size_append, strL_size, szMk, List.size_toArray, List.length_cons, List.length_nil]); omega))) ?_
  refine .step rfl rfl rfl (AOp.toK (.cat rfl rfl rfl (by (try simp only [bStr_sz, List.length_append, ByteArray.size_append, strL_size, szMk, List.size_toArray, List.length_cons, List.length_nil]); omega))) ?_
  refine .nil ?_
  -- writes 901 801
  refine .callX rfl rfl rfl (.cons (SLe.refl _) (.cons (SLe.refl _) .nil)) (c_ws 901 801 (by decide) (txM c k) _ (by rw [bStr_sz, List.length_append]; show 0 < _ + 1; omega) (by (try simp only [bStr_sz, List.length_append, List.length_cons, List.length_nil, strL_size, ByteArray.size_append, szMk, List.size_toArray, ba_app, strL_list]); omega)) ⟨(.head _), (.tail _ (.head _)), trivial⟩ rfl rfl (fun _ h => rfl) ?_
  refine .nil ?_
  refine .region ?_
  refine .sA (.add64 rfl rfl rfl (by omega) (by omega)) ?_
  refine .mA (.nil ?_)
  refine ⟨k + 1, (by omega), (by dsimp only; omega), Sub.less ⟨(SLe.of_eq rfl), SLe.refl _, SLe.refl _, SLe.refl _, trivial⟩ (bld_same (by rw [HN]; unfold mTx mLine; (try simp only [ba_app, strL_list, List.append_assoc, List.nil_append, List.append_nil, List.cons_append]); first | done | rfl))⟩
 replace h8 := of_decide_eq_false h8
 rw [List.length_map] at h8
 obtain rfl : k = c.moved.length := by omega
 have HA := txM_all c
 refine .exit ?_
 refine .seq ?_
 refine .sr ?_
 -- writes 901 801
 refine .callX rfl rfl rfl (.cons (SLe.refl _) .nil) (c_blen 901 801 (by decide) _) ⟨(.head _), (.tail _ (.head _)), trivial⟩ rfl rfl (fun _ h => rfl) ?_
 refine .sA (.gtr rfl rfl rfl) (.nil ?_)
 refine .cond rfl (fun h9 => ?_) (fun h9 => ?_)
 ·replace h9 := of_decide_eq_true h9
  rw [HA] at h9
  rw [textV_l h0 (by omega)]
  refine .sr ?_
  refine .aA ?_
  refine .aA (.nil ?_)
  refine .ret ?_
  refine ⟨RetD.eq rfl ?_, RetD.eq rfl ?_, trivial⟩
  all_goals (rfl)
 replace h9 := of_decide_eq_false h9
 rw [HA] at h9
 rw [textV_0 h0 (by omega), HA]
 refine .skip ?_
 refine .sr ?_
 -- writes 901 801
 refine .callX rfl rfl rfl (.cons (SLe.refl _) .nil) (c_bstrA 901 801 (by decide) _) ⟨(.head _), (.tail _ (.head _)), trivial⟩ rfl rfl (fun _ h => nomatch h) ?_
 refine .aA ?_
 refine .aA (.nil ?_)
 refine .ret ?_
 refine ⟨RetD.eq rfl ?_, RetD.eq rfl ?_, trivial⟩
 all_goals (rfl)

end Go.Proofs.YthcdjmkkgbcaaaaGreatDoor

namespace Go.Proofs.YthcdjmkkgbcaaaaGreatDoor
open Go.RowKit
set_option linter.unusedVariables false

/-! Types. -/
namespace TyTJ
end TyTJ
open TyH3 TyH4 TyH5 TyJ3 TyJ4 TyJ5 TyKA TyKB TyKC TyKD TyKE TyKF TyKG TyTA TyTB TyTD TyTE TyTG TyTF TyTH TyTI TyTK TyTL TyTM TyTN TyTJ

theorem take_all_eq {α : Type} {l r : List α} (h : l.length = r.length) (h2 : l.take l.length = r.take l.length) : l = r := by
  rw [List.take_length, h, List.take_length] at h2; exact h2
theorem take_eq {α : Type} {l r : List α} {k : Nat} (hl : k < l.length) (hr : k < r.length) (h : l.take k = r.take k) (h2 : l[k] = r[k]) : l.take (k + 1) = r.take (k + 1) := by
  rw [List.take_add_one, List.take_add_one, List.getElem?_eq_getElem hl, List.getElem?_eq_getElem hr, h, h2]
theorem eqT_mvd : EqT Tryz.prog 54 [.int .i64, .int .i64] := .of (by kernel_rfl)
theorem eq_mvd (x y : Mvd) : EqD Tryz.prog 54 x.ds y.ds (decide (x.src = y.src ∧ x.dst = y.dst)) := .of eqT_mvd [.int .i64 x.src, .int .i64 x.dst] [.int .i64 y.src, .int .i64 y.dst] rfl rfl rfl rfl (by simp [sameL, sameV])
theorem mvd_ext {x y : Mvd} (h : x.src = y.src ∧ x.dst = y.dst) : x = y := by cases x; cases y; obtain ⟨h1, h2⟩ := h; dsimp only at h1 h2; rw [h1, h2]
theorem thg_dec {a b : Thg} (e1 : a.id = b.id) (e2 : a.kind = b.kind) (e3 : a.title = b.title) (e4 : a.code = b.code) (e5 : a.since = b.since) (e6 : a.parent = b.parent) : decide (a.parts = b.parts) = decide (a = b) := by
  apply decide_eq_decide.2
  cases a; cases b
  dsimp only at e1 e2 e3 e4 e5 e6
  subst e1 e2 e3 e4 e5 e6
  simp

set_option maxRecDepth 100000 in
set_option maxHeartbeats 1000000 in
theorem c_eqI (l r : List Int) : ACall Tryz.prog 17 [.sl (l.map intD), .sl (r.map intD)] (.v (.bool (decide (l = r)))) := by
 refine acall_of (n := 26) (ds' := [.v (.bool (decide (l = r)))]) Tryz.func17 rfl (by kernel_rfl) rfl [4] rfl rfl ?_
 intro B w0 F0 fr
 refine .bound 0 rfl (fun hbd0 => ?_)
 rw [List.length_map] at hbd0
 refine .bound 1 rfl (fun hbd1 => ?_)
 rw [List.length_map] at hbd1
 refine .sr ?_
 refine .aA (.nil ?_)
 refine .seq ?_
 refine .sr ?_
 refine .mA ?_
 refine .sA (.lenSl rfl et_39.ht rfl) ?_
 refine .mA ?_
 refine .sA (.lenSl rfl et_39.ht rfl) ?_
 refine .sA (.neq rfl rfl rfl) (.nil ?_)
 refine .cond rfl (fun h1 => ?_) (fun h1 => ?_)
 ·replace h1 := of_decide_eq_true h1
  rw [List.length_map, List.length_map] at h1
  rw [decide_eq_false (show ¬ l = r from fun e => h1 (by rw [e]))]
  refine .sr ?_
  refine .aA (.nil ?_)
  refine .ret ?_
  refine ⟨RetD.eq rfl ?_, trivial⟩
  all_goals (rfl)
 replace h1 := of_decide_eq_false h1
 rw [List.length_map, List.length_map] at h1
 have hle : l.length = r.length := by omega
 refine .skip ?_
 refine .seq ?_
 refine .sr ?_
 refine .mA ?_
 refine .sA (.lenSl rfl et_39.ht rfl) ?_
 refine .mA (.nil ?_)
 refine .block ?_
 refine .loop (G := Nat) (fun k => Env.of [(13, .d (.v (.int .i64 (k : Int)))), (0, .d (.sl (l.map intD))), (1, .d (.sl (r.map intD))), (12, .d (.v (.int .i64 ((l.map intD).length : Int))))]) (fun k => []) (fun k => k ≤ l.length ∧ l.take k = r.take k) (fun k => l.length - k) 0 ⟨Nat.zero_le _, by simp⟩ (Sub.less ⟨(SLe.of_eq rfl), SLe.refl _, SLe.refl _, SLe.refl _, trivial⟩ (fun _ h => h)) ?_
 intro k hk
 refine .sr ?_
 refine .sA (.lss rfl rfl rfl) (.nil ?_)
 refine .seq ?_
 refine .cond rfl (fun h2 => ?_) (fun h2 => ?_)
 ·replace h2 := of_decide_eq_true h2
  rw [List.length_map] at h2
  have hlt : k < l.length := by omega
  have hlr : k < r.length := by omega
  refine .skip ?_
  refine .seq ?_
  refine .block ?_
  refine .sr ?_
  refine .mA ?_
  refine .aA (.nil ?_)
  refine .seq ?_
  refine .draw (by kernel_rfl) (by kernel_rfl) ?_
  refine .sA (.moveD rfl rfl) ?_
  refine .sA (.moveD rfl rfl) ?_
  refine .sA (.indexAddr rfl et_39 rfl rfl k rfl (at_lst hlt) rfl) ?_
  refine .sA (.load rfl sc_3 rfl) ?_
  refine .sA (.moveD rfl rfl) ?_
  refine .sA (.moveD rfl rfl) ?_
  refine .sA (.indexAddr rfl et_39 rfl rfl k rfl (at_lst hlr) rfl) ?_
  refine .sA (.load rfl sc_3 rfl) ?_
  refine .sA (.neq rfl rfl rfl) ?_
  refine .nil ?_
  refine .cond rfl (fun h3 => ?_) (fun h3 => ?_)
  ·replace h3 := of_decide_eq_true h3
   rw [decide_eq_false (show ¬ l = r from fun e => h3 (by subst e; rfl))]
   refine .sr ?_
   refine .aA (.nil ?_)
   refine .ret ?_
   refine ⟨RetD.eq rfl ?_, trivial⟩
   all_goals (rfl)
  replace h3 := of_decide_eq_false h3
  have hT := take_eq hlt hlr hk.2 (by first | exact h3 | omega)
  refine .skip ?_
  refine .region ?_
  refine .sA (.add64 rfl rfl rfl (by omega) (by omega)) ?_
  refine .mA (.nil ?_)
  refine ⟨k + 1, ⟨by omega, hT⟩, (by dsimp only; omega), Sub.less ⟨(SLe.of_eq rfl), SLe.refl _, SLe.refl _, SLe.refl _, trivial⟩ (fun _ h => h)⟩
 replace h2 := of_decide_eq_false h2
 rw [List.length_map] at h2
 obtain rfl : k = l.length := by omega
 rw [decide_eq_true (take_all_eq hle hk.2)]
 refine .exit ?_
 refine .sr ?_
 refine .aA (.nil ?_)
 refine .ret ?_
 refine ⟨RetD.eq rfl ?_, trivial⟩
 all_goals (rfl)

set_option maxRecDepth 100000 in
set_option maxHeartbeats 1000000 in
theorem c_eqM (l r : List Mvd) : ACall Tryz.prog 24 [.sl (l.map Mvd.ds), .sl (r.map Mvd.ds)] (.v (.bool (decide (l = r)))) := by
 refine acall_of (n := 26) (ds' := [.v (.bool (decide (l = r)))]) Tryz.func24 rfl (by kernel_rfl) rfl [4] rfl rfl ?_
 intro B w0 F0 fr
 refine .bound 0 rfl (fun hbd0 => ?_)
 rw [List.length_map] at hbd0
 refine .bound 1 rfl (fun hbd1 => ?_)
 rw [List.length_map] at hbd1
 refine .sr ?_
 refine .aA (.nil ?_)
 refine .seq ?_
 refine .sr ?_
 refine .mA ?_
 refine .sA (.lenSl rfl et_23.ht rfl) ?_
 refine .mA ?_
 refine .sA (.lenSl rfl et_23.ht rfl) ?_
 refine .sA (.neq rfl rfl rfl) (.nil ?_)
 refine .cond rfl (fun h1 => ?_) (fun h1 => ?_)
 ·replace h1 := of_decide_eq_true h1
  rw [List.length_map, List.length_map] at h1
  rw [decide_eq_false (show ¬ l = r from fun e => h1 (by rw [e]))]
  refine .sr ?_
  refine .aA (.nil ?_)
  refine .ret ?_
  refine ⟨RetD.eq rfl ?_, trivial⟩
  all_goals (rfl)
 replace h1 := of_decide_eq_false h1
 rw [List.length_map, List.length_map] at h1
 have hle : l.length = r.length := by omega
 refine .skip ?_
 refine .seq ?_
 refine .sr ?_
 refine .mA ?_
 refine .sA (.lenSl rfl et_23.ht rfl) ?_
 refine .mA (.nil ?_)
 refine .block ?_
 refine .loop (G := Nat) (fun k => Env.of [(13, .d (.v (.int .i64 (k : Int)))), (0, .d (.sl (l.map Mvd.ds))), (1, .d (.sl (r.map Mvd.ds))), (12, .d (.v (.int .i64 ((l.map Mvd.ds).length : Int))))]) (fun k => []) (fun k => k ≤ l.length ∧ l.take k = r.take k) (fun k => l.length - k) 0 ⟨Nat.zero_le _, by simp⟩ (Sub.less ⟨(SLe.of_eq rfl), SLe.refl _, SLe.refl _, SLe.refl _, trivial⟩ (fun _ h => h)) ?_
 intro k hk
 refine .sr ?_
 refine .sA (.lss rfl rfl rfl) (.nil ?_)
 refine .seq ?_
 refine .cond rfl (fun h2 => ?_) (fun h2 => ?_)
 ·replace h2 := of_decide_eq_true h2
  rw [List.length_map] at h2
  have hlt : k < l.length := by omega
  have hlr : k < r.length := by omega
  refine .skip ?_
  refine .seq ?_
  refine .block ?_
  refine .sr ?_
  refine .mA ?_
  refine .aA (.nil ?_)
  refine .seq ?_
  refine .draw (by kernel_rfl) (by kernel_rfl) ?_
  refine .sA (.moveD rfl rfl) ?_
  refine .sA (.moveD rfl rfl) ?_
  refine .sA (.indexAddr rfl et_23 rfl rfl k rfl (at_lst hlt) rfl) ?_
  refine .sA (.loadAgg rfl ag_54 rfl rfl) ?_
  refine .sA (.moveD rfl rfl) ?_
  refine .sA (.moveD rfl rfl) ?_
  refine .sA (.indexAddr rfl et_23 rfl rfl k rfl (at_lst hlr) rfl) ?_
  refine .sA (.loadAgg rfl ag_54 rfl rfl) ?_
  refine .sA (.aggNeq rfl rfl rfl (eq_mvd _ _)) ?_
  refine .nil ?_
  refine .cond rfl (fun h3 => ?_) (fun h3 => ?_)
  ·replace h3 := bnot_t h3; replace h3 := of_decide_eq_false h3
   rw [decide_eq_false (show ¬ l = r from fun e => h3 (by subst e; exact ⟨rfl, rfl⟩))]
   refine .sr ?_
   refine .aA (.nil ?_)
   refine .ret ?_
   refine ⟨RetD.eq rfl ?_, trivial⟩
   all_goals (rfl)
  replace h3 := bnot_f h3; replace h3 := of_decide_eq_true h3
  have hT := take_eq hlt hlr hk.2 (mvd_ext (by first | exact h3 | exact Decidable.not_not.1 h3))
  refine .skip ?_
  refine .region ?_
  refine .sA (.add64 rfl rfl rfl (by omega) (by omega)) ?_
  refine .mA (.nil ?_)
  refine ⟨k + 1, ⟨by omega, hT⟩, (by dsimp only; omega), Sub.less ⟨(SLe.of_eq rfl), SLe.refl _, SLe.refl _, SLe.refl _, trivial⟩ (fun _ h => h)⟩
 replace h2 := of_decide_eq_false h2
 rw [List.length_map] at h2
 obtain rfl : k = l.length := by omega
 rw [decide_eq_true (take_all_eq hle hk.2)]
 refine .exit ?_
 refine .sr ?_
 refine .aA (.nil ?_)
 refine .ret ?_
 refine ⟨RetD.eq rfl ?_, trivial⟩
 all_goals (rfl)

set_option maxRecDepth 100000 in
set_option maxHeartbeats 1000000 in
theorem c_same (a b : Thg) : ACall Tryz.prog 67 [.agg a.ds, .agg b.ds] (.v (.bool (decide (a = b)))) := by
 refine acall_of (n := 52) (ds' := [.v (.bool (decide (a = b)))]) Tryz.func67 rfl (by kernel_rfl) rfl [4] rfl rfl ?_
 intro B w0 F0 fr
 refine .sr ?_
 refine .sA (.box rfl rfl rfl) ?_
 refine .sA (.box rfl rfl rfl) ?_
 refine .aA (.nil ?_)
 refine .sr ?_
 refine .sA (.fieldAddr rfl fo_61_0 rfl) ?_
 refine .sA (.load rfl sc_3 rfl) ?_
 refine .sA (.fieldAddr rfl fo_61_0 rfl) ?_
 refine .sA (.load rfl sc_3 rfl) ?_
 refine .sA (.eql rfl rfl rfl) ?_
 refine .mA ?_
 refine .split 10 rfl (fun g1 => ?_) (fun g1 => ?_)
 ·replace g1 := of_decide_eq_true g1
  have e1 := g1
  refine .sG (.fieldAddr rfl fo_61_1 rfl) ?_
  refine .sG (.load rfl sc_3 rfl) ?_
  refine .sG (.fieldAddr rfl fo_61_1 rfl) ?_
  refine .sG (.load rfl sc_3 rfl) ?_
  refine .sG (.eql rfl rfl rfl) ?_
  refine .sA (.pickT rfl rfl rfl) ?_
  refine .mA ?_
  refine .split 17 rfl (fun g2 => ?_) (fun g2 => ?_)
  ·replace g2 := of_decide_eq_true g2
   have e2 := g2
   refine .sG (.fieldAddr rfl fo_61_2 rfl) ?_
   refine .sG (.load rfl sc_9 rfl) ?_
   refine .sG (.fieldAddr rfl fo_61_2 rfl) ?_
   refine .sG (.load rfl sc_9 rfl) ?_
   refine .sG (.seql rfl rfl rfl) ?_
   refine .sA (.pickT rfl rfl rfl) ?_
   refine .mA ?_
   refine .split 24 rfl (fun g3 => ?_) (fun g3 => ?_)
   ·replace g3 := of_decide_eq_true g3
    have e3 := g3
    refine .sG (.fieldAddr rfl fo_61_3 rfl) ?_
    refine .sG (.load rfl sc_9 rfl) ?_
    refine .sG (.fieldAddr rfl fo_61_3 rfl) ?_
    refine .sG (.load rfl sc_9 rfl) ?_
    refine .sG (.seql rfl rfl rfl) ?_
    refine .sA (.pickT rfl rfl rfl) ?_
    refine .mA ?_
    refine .split 31 rfl (fun g4 => ?_) (fun g4 => ?_)
    ·replace g4 := of_decide_eq_true g4
     have e4 := g4
     refine .sG (.fieldAddr rfl fo_61_4 rfl) ?_
     refine .sG (.load rfl sc_3 rfl) ?_
     refine .sG (.fieldAddr rfl fo_61_4 rfl) ?_
     refine .sG (.load rfl sc_3 rfl) ?_
     refine .sG (.eql rfl rfl rfl) ?_
     refine .sA (.pickT rfl rfl rfl) ?_
     refine .mA ?_
     refine .split 38 rfl (fun g5 => ?_) (fun g5 => ?_)
     ·replace g5 := of_decide_eq_true g5
      have e5 := g5
      refine .sG (.fieldAddr rfl fo_61_5 rfl) ?_
      refine .sG (.load rfl sc_3 rfl) ?_
      refine .sG (.fieldAddr rfl fo_61_5 rfl) ?_
      refine .sG (.load rfl sc_3 rfl) ?_
      refine .sG (.eql rfl rfl rfl) ?_
      refine .sA (.pickT rfl rfl rfl) ?_
      refine .mA ?_
      refine .split 45 rfl (fun g6 => ?_) (fun g6 => ?_)
      ·replace g6 := of_decide_eq_true g6
       have e6 := g6
       refine .sG (.fieldAddr rfl fo_61_6 rfl) ?_
       refine .sG (.load rfl sc_39 rfl) ?_
       refine .sG (.fieldAddr rfl fo_61_6 rfl) ?_
       refine .sG (.load rfl sc_39 rfl) ?_
       refine .sG (.call rfl (.cons (.rfl' rfl) (.cons (.rfl' rfl) .nil)) (c_eqI _ _)) ?_
       refine .sA (.pickT rfl rfl rfl) ?_
       refine .aA (.nil ?_)
       refine .ret ?_
       refine ⟨RetD.eq rfl ?_, trivial⟩
       all_goals (first | rfl | rw [thg_dec e1 e2 e3 e4 e5 e6])
      replace g6 := of_decide_eq_false g6
      rw [decide_eq_false (show ¬ a = b from fun e => g6 (by rw [e]))]
      refine .pA ?_
      refine .pA ?_
      refine .pA ?_
      refine .pA ?_
      refine .pA ?_
      refine .sA (.pickF rfl rfl rfl) ?_
      refine .aA (.nil ?_)
      refine .ret ?_
      refine ⟨RetD.eq rfl ?_, trivial⟩
      all_goals (first | rfl | rw [thg_dec e1 e2 e3 e4 e5 e6])
     replace g5 := of_decide_eq_false g5
     rw [decide_eq_false (show ¬ a = b from fun e => g5 (by rw [e]))]
     refine .pA ?_
     refine .pA ?_
     refine .pA ?_
     refine .pA ?_
     refine .pA ?_
     refine .sA (.pickF rfl rfl rfl) ?_
     refine .mA ?_
     refine .pA ?_
     refine .pA ?_
     refine .pA ?_
     refine .pA ?_
     refine .pA ?_
     refine .sA (.pickF rfl rfl rfl) ?_
     refine .aA (.nil ?_)
     refine .ret ?_
     refine ⟨RetD.eq rfl ?_, trivial⟩
     all_goals (first | rfl | rw [thg_dec e1 e2 e3 e4 e5 e6])
    replace g4 := of_decide_eq_false g4
    rw [decide_eq_false (show ¬ a = b from fun e => g4 (by rw [e]))]
    refine .pA ?_
    refine .pA ?_
    refine .pA ?_
    refine .pA ?_
    refine .pA ?_
    refine .sA (.pickF rfl rfl rfl) ?_
    refine .mA ?_
    refine .pA ?_
    refine .pA ?_
    refine .pA ?_
    refine .pA ?_
    refine .pA ?_
    refine .sA (.pickF rfl rfl rfl) ?_
    refine .mA ?_
    refine .pA ?_
    refine .pA ?_
    refine .pA ?_
    refine .pA ?_
    refine .pA ?_
    refine .sA (.pickF rfl rfl rfl) ?_
    refine .aA (.nil ?_)
    refine .ret ?_
    refine ⟨RetD.eq rfl ?_, trivial⟩
    all_goals (first | rfl | rw [thg_dec e1 e2 e3 e4 e5 e6])
   replace g3 := of_decide_eq_false g3
   rw [decide_eq_false (show ¬ a = b from fun e => g3 (by rw [e]))]
   refine .pA ?_
   refine .pA ?_
   refine .pA ?_
   refine .pA ?_
   refine .pA ?_
   refine .sA (.pickF rfl rfl rfl) ?_
   refine .mA ?_
   refine .pA ?_
   refine .pA ?_
   refine .pA ?_
   refine .pA ?_
   refine .pA ?_
   refine .sA (.pickF rfl rfl rfl) ?_
   refine .mA ?_
   refine .pA ?_
   refine .pA ?_
   refine .pA ?_
   refine .pA ?_
   refine .pA ?_
   refine .sA (.pickF rfl rfl rfl) ?_
   refine .mA ?_
   refine .pA ?_
   refine .pA ?_
   refine .pA ?_
   refine .pA ?_
   refine .pA ?_
   refine .sA (.pickF rfl rfl rfl) ?_
   refine .aA (.nil ?_)
   refine .ret ?_
   refine ⟨RetD.eq rfl ?_, trivial⟩
   all_goals (first | rfl | rw [thg_dec e1 e2 e3 e4 e5 e6])
  replace g2 := of_decide_eq_false g2
  rw [decide_eq_false (show ¬ a = b from fun e => g2 (by rw [e]))]
  refine .pA ?_
  refine .pA ?_
  refine .pA ?_
  refine .pA ?_
  refine .pA ?_
  refine .sA (.pickF rfl rfl rfl) ?_
  refine .mA ?_
  refine .pA ?_
  refine .pA ?_
  refine .pA ?_
  refine .pA ?_
  refine .pA ?_
  refine .sA (.pickF rfl rfl rfl) ?_
  refine .mA ?_
  refine .pA ?_
  refine .pA ?_
  refine .pA ?_
  refine .pA ?_
  refine .pA ?_
  refine .sA (.pickF rfl rfl rfl) ?_
  refine .mA ?_
  refine .pA ?_
  refine .pA ?_
  refine .pA ?_
  refine .pA ?_
  refine .pA ?_
  refine .sA (.pickF rfl rfl rfl) ?_
  refine .mA ?_
  refine .pA ?_
  refine .pA ?_
  refine .pA ?_
  refine .pA ?_
  refine .pA ?_
  refine .sA (.pickF rfl rfl rfl) ?_
  refine .aA (.nil ?_)
  refine .ret ?_
  refine ⟨RetD.eq rfl ?_, trivial⟩
  all_goals (first | rfl | rw [thg_dec e1 e2 e3 e4 e5 e6])
 replace g1 := of_decide_eq_false g1
 rw [decide_eq_false (show ¬ a = b from fun e => g1 (by rw [e]))]
 refine .pA ?_
 refine .pA ?_
 refine .pA ?_
 refine .pA ?_
 refine .pA ?_
 refine .sA (.pickF rfl rfl rfl) ?_
 refine .mA ?_
 refine .pA ?_
 refine .pA ?_
 refine .pA ?_
 refine .pA ?_
 refine .pA ?_
 refine .sA (.pickF rfl rfl rfl) ?_
 refine .mA ?_
 refine .pA ?_
 refine .pA ?_
 refine .pA ?_
 refine .pA ?_
 refine .pA ?_
 refine .sA (.pickF rfl rfl rfl) ?_
 refine .mA ?_
 refine .pA ?_
 refine .pA ?_
 refine .pA ?_
 refine .pA ?_
 refine .pA ?_
 refine .sA (.pickF rfl rfl rfl) ?_
 refine .mA ?_
 refine .pA ?_
 refine .pA ?_
 refine .pA ?_
 refine .pA ?_
 refine .pA ?_
 refine .sA (.pickF rfl rfl rfl) ?_
 refine .mA ?_
 refine .pA ?_
 refine .pA ?_
 refine .pA ?_
 refine .pA ?_
 refine .pA ?_
 refine .sA (.pickF rfl rfl rfl) ?_
 refine .aA (.nil ?_)
 refine .ret ?_
 refine ⟨RetD.eq rfl ?_, trivial⟩
 all_goals (first | rfl | rw [thg_dec e1 e2 e3 e4 e5 e6])

set_option maxRecDepth 100000 in
set_option maxHeartbeats 1000000 in
theorem c_sameTs (l r : List Thg) : ACall Tryz.prog 23 [.sl (l.map Thg.ds), .sl (r.map Thg.ds)] (.v (.bool (decide (l = r)))) := by
 refine acall_of (n := 27) (ds' := [.v (.bool (decide (l = r)))]) Tryz.func23 rfl (by kernel_rfl) rfl [4] rfl rfl ?_
 intro B w0 F0 fr
 refine .bound 0 rfl (fun hbd0 => ?_)
 rw [List.length_map] at hbd0
 refine .bound 1 rfl (fun hbd1 => ?_)
 rw [List.length_map] at hbd1
 refine .sr ?_
 refine .aA (.nil ?_)
 refine .seq ?_
 refine .sr ?_
 refine .mA ?_
 refine .sA (.lenSl rfl et_22.ht rfl) ?_
 refine .mA ?_
 refine .sA (.lenSl rfl et_22.ht rfl) ?_
 refine .sA (.neq rfl rfl rfl) (.nil ?_)
 refine .cond rfl (fun h1 => ?_) (fun h1 => ?_)
 ·replace h1 := of_decide_eq_true h1
  rw [List.length_map, List.length_map] at h1
  rw [decide_eq_false (show ¬ l = r from fun e => h1 (by rw [e]))]
  refine .sr ?_
  refine .aA (.nil ?_)
  refine .ret ?_
  refine ⟨RetD.eq rfl ?_, trivial⟩
  all_goals (rfl)
 replace h1 := of_decide_eq_false h1
 rw [List.length_map, List.length_map] at h1
 have hle : l.length = r.length := by omega
 refine .skip ?_
 refine .seq ?_
 refine .sr ?_
 refine .mA ?_
 refine .sA (.lenSl rfl et_22.ht rfl) ?_
 refine .mA (.nil ?_)
 refine .block ?_
 refine .loop (G := Nat) (fun k => Env.of [(13, .d (.v (.int .i64 (k : Int)))), (0, .d (.sl (l.map Thg.ds))), (1, .d (.sl (r.map Thg.ds))), (12, .d (.v (.int .i64 ((l.map Thg.ds).length : Int))))]) (fun k => []) (fun k => k ≤ l.length ∧ l.take k = r.take k) (fun k => l.length - k) 0 ⟨Nat.zero_le _, by simp⟩ (Sub.less ⟨(SLe.of_eq rfl), SLe.refl _, SLe.refl _, SLe.refl _, trivial⟩ (fun _ h => h)) ?_
 intro k hk
 refine .sr ?_
 refine .sA (.lss rfl rfl rfl) (.nil ?_)
 refine .seq ?_
 refine .cond rfl (fun h2 => ?_) (fun h2 => ?_)
 ·replace h2 := of_decide_eq_true h2
  rw [List.length_map] at h2
  have hlt : k < l.length := by omega
  have hlr : k < r.length := by omega
  refine .skip ?_
  refine .seq ?_
  refine .block ?_
  refine .sr ?_
  refine .mA ?_
  refine .aA (.nil ?_)
  refine .seq ?_
  refine .draw (by kernel_rfl) (by kernel_rfl) ?_
  refine .sA (.moveD rfl rfl) ?_
  refine .sA (.moveD rfl rfl) ?_
  refine .sA (.indexAddr rfl et_22 rfl rfl k rfl (at_lst hlt) rfl) ?_
  refine .sA (.loadAgg rfl ag_61 rfl rfl) ?_
  refine .sA (.moveD rfl rfl) ?_
  refine .sA (.moveD rfl rfl) ?_
  refine .sA (.indexAddr rfl et_22 rfl rfl k rfl (at_lst hlr) rfl) ?_
  refine .sA (.loadAgg rfl ag_61 rfl rfl) ?_
  refine .sA (.call rfl (.cons (.rfl' rfl) (.cons (.rfl' rfl) .nil)) (c_same _ _)) ?_
  refine .sA (.not rfl rfl) ?_
  refine .nil ?_
  refine .cond rfl (fun h3 => ?_) (fun h3 => ?_)
  ·replace h3 := bnot_t h3; replace h3 := of_decide_eq_false h3
   rw [decide_eq_false (show ¬ l = r from fun e => h3 (by subst e; rfl))]
   refine .sr ?_
   refine .aA (.nil ?_)
   refine .ret ?_
   refine ⟨RetD.eq rfl ?_, trivial⟩
   all_goals (rfl)
  replace h3 := bnot_f h3; replace h3 := of_decide_eq_true h3
  have hT := take_eq hlt hlr hk.2 (by first | exact h3 | exact Decidable.not_not.1 h3)
  refine .skip ?_
  refine .region ?_
  refine .sA (.add64 rfl rfl rfl (by omega) (by omega)) ?_
  refine .mA (.nil ?_)
  refine ⟨k + 1, ⟨by omega, hT⟩, (by dsimp only; omega), Sub.less ⟨(SLe.of_eq rfl), SLe.refl _, SLe.refl _, SLe.refl _, trivial⟩ (fun _ h => h)⟩
 replace h2 := of_decide_eq_false h2
 rw [List.length_map] at h2
 obtain rfl : k = l.length := by omega
 rw [decide_eq_true (take_all_eq hle hk.2)]
 refine .exit ?_
 refine .sr ?_
 refine .aA (.nil ?_)
 refine .ret ?_
 refine ⟨RetD.eq rfl ?_, trivial⟩
 all_goals (rfl)

theorem ctl_dec {a b : Ctl} (h : a.things = b.things) : decide (a.moved = b.moved) = decide (a = b) := by
  cases a; cases b
  dsimp only at h ⊢
  subst h
  simp

set_option maxRecDepth 100000 in
set_option maxHeartbeats 1000000 in
theorem c_sameC (a b : Ctl) : ACall Tryz.prog 8 [.agg a.ds, .agg b.ds] (.v (.bool (decide (a = b)))) := by
 refine acall_of (n := 17) (ds' := [.v (.bool (decide (a = b)))]) Tryz.func8 rfl (by kernel_rfl) rfl [4] rfl rfl ?_
 intro B w0 F0 fr
 refine .sr ?_
 refine .sA (.box rfl rfl rfl) ?_
 refine .sA (.box rfl rfl rfl) ?_
 refine .aA (.nil ?_)
 refine .sr ?_
 refine .sA (.fieldAddr rfl fo_25_0 rfl) ?_
 refine .sA (.load rfl sc_22 rfl) ?_
 refine .sA (.fieldAddr rfl fo_25_0 rfl) ?_
 refine .sA (.load rfl sc_22 rfl) ?_
 refine .sA (.call rfl (.cons (.rfl' rfl) (.cons (.rfl' rfl) .nil)) (c_sameTs _ _)) ?_
 refine .mA ?_
 refine .split 10 rfl (fun g1 => ?_) (fun g1 => ?_)
 ·replace g1 := of_decide_eq_true g1
  rw [← ctl_dec g1]
  refine .sG (.fieldAddr rfl fo_25_1 rfl) ?_
  refine .sG (.load rfl sc_23 rfl) ?_
  refine .sG (.fieldAddr rfl fo_25_1 rfl) ?_
  refine .sG (.load rfl sc_23 rfl) ?_
  refine .sG (.call rfl (.cons (.rfl' rfl) (.cons (.rfl' rfl) .nil)) (c_eqM _ _)) ?_
  refine .sA (.pickT rfl rfl rfl) ?_
  refine .aA (.nil ?_)
  refine .ret ?_
  refine ⟨RetD.eq rfl ?_, trivial⟩
  all_goals (rfl)
 replace g1 := of_decide_eq_false g1
 rw [decide_eq_false (show ¬ a = b from fun e => g1 (by rw [e]))]
 refine .pA ?_
 refine .pA ?_
 refine .pA ?_
 refine .pA ?_
 refine .pA ?_
 refine .sA (.pickF rfl rfl rfl) ?_
 refine .aA (.nil ?_)
 refine .ret ?_
 refine ⟨RetD.eq rfl ?_, trivial⟩
 all_goals (rfl)

end Go.Proofs.YthcdjmkkgbcaaaaGreatDoor

namespace Go.Proofs.YthcdjmkkgbcaaaaGreatDoor
open Go.RowKit
set_option linter.unusedVariables false

/-! Types. -/
namespace TyTP
end TyTP
open TyH3 TyH4 TyH5 TyJ3 TyJ4 TyJ5 TyKA TyKB TyKC TyKD TyKE TyKF TyKG TyTA TyTB TyTD TyTE TyTG TyTF TyTH TyTI TyTK TyTL TyTM TyTN TyTJ TyTP

open Go.Lib
set_option linter.unusedSimpArgs false
theorem two_int (a b : Int) : ∀ n ∈ [a, b], n = a ∨ n = b := fun n hn => by simpa using hn
theorem c_rNm2 (a b : Int) (ha : 0 ≤ a ∧ a < 10000000) (hb : 0 ≤ b ∧ b < 10000000) : ACallT Tryz.prog TBM 34 [.sl [[.v (.int .i64 a)], [.v (.int .i64 b)]]] (.v (.string (strL (dcL a ++ 32 :: dcL b)))) := by
 have := c_rNms [a, b] (fun n hn => by
  rcases two_int a b n hn with rfl | rfl
  ·exact ha
  exact hb) (by show 2 ≤ 50; decide)
 rwa [numsL_2] at this

set_option maxRecDepth 100000 in
set_option maxHeartbeats 4000000 in
theorem c_rText (c : Ctl) (hc : CtlOk c) : ACallT Tryz.prog TBM 11 [.agg c.ds] (.tup [.v (.string (textV c).1), .v (.int .i64 (textV c).2)]) := by
 refine acall_ofT (n := 92) (ds' := [.v (.string (textV c).1), .v (.int .i64 (textV c).2)]) Tryz.func11 rfl (by kernel_rfl) rfl [2, 3] rfl rfl ?_
 intro B w0 F0 hT
 refine .sr ?_
 refine .sA (.box rfl rfl rfl) ?_
 refine .aA ?_
 refine .aA (.nil ?_)
 refine .seq ?_
 refine .sr ?_
 refine .sA (.loadAgg rfl ag_25 rfl rfl) ?_
 -- wants the world
 refine .callT rfl rfl rfl hT tbm_stays rfl (.cons (.rfl' rfl) .nil) (c_rChk c hc).max ?_
 refine .aA (.nil ?_)
 refine .sr ?_
 refine .mA ?_
 refine .sA (.neq rfl rfl rfl) (.nil ?_)
 refine .cond rfl (fun h1 => ?_) (fun h1 => ?_)
 ·replace h1 := of_decide_eq_true h1
  rw [textV_c h1]
  refine .sr ?_
  refine .mA ?_
  refine .aA ?_
  refine .aA (.nil ?_)
  refine .ret ?_
  refine ⟨RetD.eq rfl ?_, RetD.eq rfl ?_, trivial⟩
  all_goals (rfl)
 replace h1 := of_decide_eq_false h1
 have h0 : chkF c = 0 := Decidable.not_not.1 h1
 obtain ⟨hL1, hL2⟩ := (catOk h0).lim
 refine .skip ?_
 refine .sr ?_
 refine .aA (.nil ?_)
 refine .seq ?_
 refine .sr ?_
 refine .sA (.fieldAddr rfl fo_25_0 rfl) ?_
 refine .sA (.load rfl sc_22 rfl) ?_
 refine .sA (.lenSl rfl et_22.ht rfl) ?_
 refine .mA (.nil ?_)
 refine .block ?_
 refine .loop (G := Nat) (fun k => Env.of [(19, .d (.v (.int .i64 (k : Int)))), (17, .d (.sl (c.things.map Thg.ds))), (18, .d (.v (.int .i64 ((c.things.map Thg.ds).length : Int)))), (1, .d (.fp c.ds)), (5, .d (.v (.string (strL (txT c k)))))]) (fun k => []) (fun k => k ≤ c.things.length) (fun k => c.things.length - k) 0 (Nat.zero_le _) (Sub.less ⟨(SLe.of_eq rfl), SLe.refl _, SLe.refl _, SLe.refl _, (sEq rfl), trivial⟩ (fun _ h => h)) ?_
 intro k hk
 refine .sr ?_
 refine .sA (.lss rfl rfl rfl) (.nil ?_)
 refine .seq ?_
 refine .cond rfl (fun h2 => ?_) (fun h2 => ?_)
 ·replace h2 := of_decide_eq_true h2
  rw [List.length_map] at h2
  have hlt : k < c.things.length := by omega
  have htk := tok_of h0 (List.getElem_mem hlt)
  have hsz := tsz_of h0 (List.getElem_mem hlt)
  have hTl := txT_len h0 k
  have hll := tLine_len htk hsz
  have hsp := hsz.parts
  have HN := txT_next hlt
  have z1 := kWd_len c.things[k].kind
  have z2 := dc_len htk.id
  have z3 := dc_len htk.since
  have z4 := parL_len htk.parent
  have z5 := hsz.code
  have z6 := hsz.title
  have z7 := numsL_len htk.parts hsp
  refine .skip ?_
  refine .seq ?_
  refine .block ?_
  refine .sr ?_
  refine .sA (.indexAddr rfl et_22 rfl rfl k rfl (at_lst hlt) rfl) ?_
  refine .sA (.loadAgg rfl ag_61 rfl rfl) ?_
  refine .alloc 101 rfl rfl rfl rfl zt_61 rfl rfl rfl ?_
  refine .store rfl rfl rfl sz_61 rfl (.head _) rfl rfl rfl (Nat.le_of_ble_eq_true rfl) ?_
  refine .freezeCells 7 (ds := c.things[k].ds) rfl (.head _) (.nil ?_)
  refine .sr ?_
  refine .aA (.nil ?_)
  refine .seq ?_
  refine .sr ?_
  refine .sA (.fieldAddr rfl fo_61_5 rfl) ?_
  refine .sA (.load rfl sc_3 rfl) ?_
  refine .sA (.neq rfl rfl rfl) (.nil ?_)
  refine .cond rfl (fun h3 => ?_) (fun h3 => ?_)
  ·replace h3 := of_decide_eq_true h3
   have hq : parL c.things[k].parent = dcL c.things[k].parent := if_neg h3
   have hq2 : codL (strL (dcL c.things[k].parent)) = dcL c.things[k].parent := codL_c _ (dc_nil _)
   rw [hq] at z4
   refine .region ?_
   refine .sA (.fieldAddr rfl fo_61_5 rfl) ?_
   refine .sA (.load rfl sc_3 rfl) ?_
   -- wants the world
   refine .callT rfl rfl rfl hT tbm_stays rfl (.cons (.rfl' rfl) .nil) (c_itoaL c.things[k].parent htk.parent) ?_
   refine .aA (.nil ?_)
   refine .seq ?_
   refine .drawK (by kernel_rfl) (by kernel_rfl) ?_
   refine .step rfl rfl rfl (AOp.toK (.moveD rfl rfl)) ?_
   refine .step rfl rfl rfl (AOp.toK (.call rfl .nil c_kws)) ?_
   refine .step rfl rfl rfl (AOp.toK (.fieldAddr rfl fo_61_1 rfl)) ?_
   refine .step rfl rfl rfl (AOp.toK (.load rfl sc_3 rfl)) ?_
   refine .step rfl rfl rfl (AOp.toK (.indexAddr rfl et_68 rfl rfl c.things[k].kind.toNat (by have := htk.kind; omega) (wd_at htk.kind) rfl)) ?_
   refine .step rfl rfl rfl (AOp.toK (.load rfl sc_9 rfl)) ?_
   refine .step rfl rfl rfl (AOp.toK (.cat rfl rfl rfl (by (try simp only [bStr_sz, List.length_append, ByteArray.size_append, strL_size, szMk, List.size_toArray, List.length_cons, List.length_nil]); omega))) ?_
   refine .step rfl rfl rfl (AOp.toK (.fieldAddr rfl fo_61_0 rfl)) ?_
   refine .step rfl rfl rfl (AOp.toK (.load rfl sc_3 rfl)) ?_
   refine .step rfl rfl rfl (AOp.toK (.fieldAddr rfl fo_61_4 rfl)) ?_
   refine .step rfl rfl rfl (AOp.toK (.load rfl sc_3 rfl)) ?_
   refine .step rfl rfl rfl (AOp.toK (.buildSlice rfl et_39 (.cons rfl rfl rfl (.cons rfl rfl rfl .nil)) rfl (by decide))) ?_
   refine .step rfl rfl rfl (AOpK.callT tbm_stays rfl hT rfl (.cons (.rfl' rfl) .nil) (c_rNm2 c.things[k].id c.things[k].since htk.id htk.since)) ?_
   refine .step rfl rfl rfl (AOp.toK (.cat rfl rfl rfl (by (try simp only [bStr_sz, List.length_append, ByteArray.size_append, strL_size, szMk, List.size_toArray, List.length_cons, List.length_nil]); omega))) ?_
   refine .step rfl rfl rfl (AOp.toK (.cat rfl rfl rfl (by (try simp only [bStr_sz, List.length_append, ByteArray.size_append, strL_size, szMk, List.size_toArray, List.length_cons, List.length_nil]); omega))) ?_
   refine .step rfl rfl rfl (AOp.toK (.moveD rfl rfl)) ?_
   refine .step rfl rfl rfl (AOp.toK (.call rfl (.cons (.rfl' rfl) .nil) (c_dash _))) ?_
   rw [hq2]
   refine .step rfl rfl rfl (AOp.toK (.cat rfl rfl rfl (by (try simp only [bStr_sz, List.length_append, ByteArray.size_append, strL_size, szMk, List.size_toArray, List.length_cons, List.length_nil]); omega))) ?_
   refine .step rfl rfl rfl (AOp.toK (.cat rfl rfl rfl (by (try simp only [bStr_sz, List.length_append, ByteArray.size_append, strL_size, szMk, List.size_toArray, List.length_cons, List.length_nil]); omega))) ?_
   refine .step rfl rfl rfl (AOp.toK (.fieldAddr rfl fo_61_3 rfl)) ?_
   refine .step rfl rfl rfl (AOp.toK (.load rfl sc_9 rfl)) ?_
   refine .step rfl rfl rfl (AOp.toK (.call rfl (.cons (.rfl' rfl) .nil) (c_dash c.things[k].code))) ?_
   refine .step rfl rfl rfl (AOp.toK (.cat rfl rfl rfl (by (try simp only [bStr_sz, List.length_append, ByteArray.size_append, strL_size, szMk, List.size_toArray, List.length_cons, List.length_nil]); omega))) ?_
   refine .step rfl rfl rfl (AOp.toK (.cat rfl rfl rfl (by (try simp only [bStr_sz, List.length_append, ByteArray.size_append, strL_size, szMk, List.size_toArray, List.length_cons, List.length_nil]); omega))) ?_
   refine .step rfl rfl rfl (AOp.toK (.fieldAddr rfl fo_61_2 rfl)) ?_
   refine .step rfl rfl rfl (AOp.toK (.load rfl sc_9 rfl)) ?_
   rw [← strL_of c.things[k].title]
   refine .step rfl rfl rfl (AOp.toK (.cat rfl rfl rfl (by (try simp only [bStr_sz, List.length_append, ByteArray.size_append, strL_size, szMk, List.size_toArray, List.length_cons, List.length_nil]); omega))) ?_
   refine .step rfl rfl rfl (AOp.toK (.cat rfl rfl rfl (by (try simp only [bStr_sz, List.length_append, ByteArray.size_append, strL_size, szMk, List.size_toArray, List.length_cons, List.length_nil]); omega))) ?_
   refine .step rfl rfl rfl (AOp.toK (.cat rfl rfl rfl (by (try simp only [bStr_sz, List.length_append, ByteArray.size_append, strL_size, szMk, List.size_toArray, List.length_cons, List.length_nil]); omega))) ?_
   refine .step rfl rfl rfl (AOp.toK (.assignD rfl rfl)) ?_
   refine .nil ?_
   refine .sr ?_
   refine .sA (.fieldAddr rfl fo_61_6 rfl) ?_
   refine .sA (.load rfl sc_39 rfl) ?_
   refine .sA (.lenSl rfl et_39.ht rfl) ?_
   refine .sA (.gtr rfl rfl rfl) (.nil ?_)
   refine .cond rfl (fun h4 => ?_) (fun h4 => ?_)
   ·replace h4 := of_decide_eq_true h4
    rw [List.length_map] at h4
    have hpp : 0 < c.things[k].parts.length := by omega
    have HT := tTx_p hpp
    refine .region ?_
    refine .mA ?_
    refine .sA (.fieldAddr rfl fo_61_6 rfl) ?_
    refine .sA (.load rfl sc_39 rfl) ?_
    -- wants the world
    refine .callT rfl rfl rfl hT tbm_stays rfl (.cons (.rfl' rfl) .nil) (c_rNms c.things[k].parts htk.parts hsp) ?_
    refine .sA (.cat rfl rfl rfl (by (try simp only [bStr_sz, List.length_append, ByteArray.size_append, strL_size, szMk, List.size_toArray, List.length_cons, List.length_nil]); omega)) ?_
    refine .sA (.cat rfl rfl rfl (by (try simp only [bStr_sz, List.length_append, ByteArray.size_append, strL_size, szMk, List.size_toArray, List.length_cons, List.length_nil]); omega)) ?_
    refine .sA (.cat rfl rfl rfl (by (try simp only [bStr_sz, List.length_append, ByteArray.size_append, strL_size, szMk, List.size_toArray, List.length_cons, List.length_nil]); omega)) ?_
    refine .aA (.nil ?_)
    refine .region ?_
    refine .sA (.add64 rfl rfl rfl (by omega) (by omega)) ?_
    refine .mA (.nil ?_)
    refine ⟨k + 1, (by omega), (by dsimp only; omega), Sub.less ⟨(SLe.of_eq rfl), SLe.refl _, SLe.refl _, SLe.refl _, (sEq (by rw [HN, HT]; unfold tLine; (try rw [← numsL_p hpp]); rw [hq]; (try simp only [str_app, ba_app, strL_list, List.append_assoc, List.nil_append, List.append_nil, List.cons_append]); first | done | rfl | skip)), trivial⟩ (fun _ h => h)⟩
   replace h4 := of_decide_eq_false h4
   rw [List.length_map] at h4
   have HT := tTx_0 (t := c.things[k]) (by omega)
   refine .skip ?_
   refine .region ?_
   refine .sA (.add64 rfl rfl rfl (by omega) (by omega)) ?_
   refine .mA (.nil ?_)
   refine ⟨k + 1, (by omega), (by dsimp only; omega), Sub.less ⟨(SLe.of_eq rfl), SLe.refl _, SLe.refl _, SLe.refl _, (sEq (by rw [HN, HT]; unfold tLine; (try rw [← numsL_p hpp]); rw [hq]; (try simp only [str_app, ba_app, strL_list, List.append_assoc, List.nil_append, List.append_nil, List.cons_append]); first | done | rfl | skip)), trivial⟩ (fun _ h => h)⟩
  replace h3 := of_decide_eq_false h3
  have hq : parL c.things[k].parent = [45] := if_pos (Decidable.not_not.1 h3)
  have hq2 : codL ⟨#[]⟩ = [45] := rfl
  rw [hq] at z4
  refine .skip ?_
  refine .seq ?_
  refine .drawK (by kernel_rfl) (by kernel_rfl) ?_
  refine .step rfl rfl rfl (AOp.toK (.moveD rfl rfl)) ?_
  refine .step rfl rfl rfl (AOp.toK (.call rfl .nil c_kws)) ?_
  refine .step rfl rfl rfl (AOp.toK (.fieldAddr rfl fo_61_1 rfl)) ?_
  refine .step rfl rfl rfl (AOp.toK (.load rfl sc_3 rfl)) ?_
  refine .step rfl rfl rfl (AOp.toK (.indexAddr rfl et_68 rfl rfl c.things[k].kind.toNat (by have := htk.kind; omega) (wd_at htk.kind) rfl)) ?_
  refine .step rfl rfl rfl (AOp.toK (.load rfl sc_9 rfl)) ?_
  refine .step rfl rfl rfl (AOp.toK (.cat rfl rfl rfl (by (try simp only [bStr_sz, List.length_append, ByteArray.size_append, strL_size, szMk, List.size_toArray, List.length_cons, List.length_nil]); omega))) ?_
  refine .step rfl rfl rfl (AOp.toK (.fieldAddr rfl fo_61_0 rfl)) ?_
  refine .step rfl rfl rfl (AOp.toK (.load rfl sc_3 rfl)) ?_
  refine .step rfl rfl rfl (AOp.toK (.fieldAddr rfl fo_61_4 rfl)) ?_
  refine .step rfl rfl rfl (AOp.toK (.load rfl sc_3 rfl)) ?_
  refine .step rfl rfl rfl (AOp.toK (.buildSlice rfl et_39 (.cons rfl rfl rfl (.cons rfl rfl rfl .nil)) rfl (by decide))) ?_
  refine .step rfl rfl rfl (AOpK.callT tbm_stays rfl hT rfl (.cons (.rfl' rfl) .nil) (c_rNm2 c.things[k].id c.things[k].since htk.id htk.since)) ?_
  refine .step rfl rfl rfl (AOp.toK (.cat rfl rfl rfl (by (try simp only [bStr_sz, List.length_append, ByteArray.size_append, strL_size, szMk, List.size_toArray, List.length_cons, List.length_nil]); omega))) ?_
  refine .step rfl rfl rfl (AOp.toK (.cat rfl rfl rfl (by (try simp only [bStr_sz, List.length_append, ByteArray.size_append, strL_size, szMk, List.size_toArray, List.length_cons, List.length_nil]); omega))) ?_
  refine .step rfl rfl rfl (AOp.toK (.moveD rfl rfl)) ?_
  refine .step rfl rfl rfl (AOp.toK (.call rfl (.cons (.rfl' rfl) .nil) (c_dash _))) ?_
  rw [hq2]
  refine .step rfl rfl rfl (AOp.toK (.cat rfl rfl rfl (by (try simp only [bStr_sz, List.length_append, ByteArray.size_append, strL_size, szMk, List.size_toArray, List.length_cons, List.length_nil]); omega))) ?_
  refine .step rfl rfl rfl (AOp.toK (.cat rfl rfl rfl (by (try simp only [bStr_sz, List.length_append, ByteArray.size_append, strL_size, szMk, List.size_toArray, List.length_cons, List.length_nil]); omega))) ?_
  refine .step rfl rfl rfl (AOp.toK (.fieldAddr rfl fo_61_3 rfl)) ?_
  refine .step rfl rfl rfl (AOp.toK (.load rfl sc_9 rfl)) ?_
  refine .step rfl rfl rfl (AOp.toK (.call rfl (.cons (.rfl' rfl) .nil) (c_dash c.things[k].code))) ?_
  refine .step rfl rfl rfl (AOp.toK (.cat rfl rfl rfl (by (try simp only [bStr_sz, List.length_append, ByteArray.size_append, strL_size, szMk, List.size_toArray, List.length_cons, List.length_nil]); omega))) ?_
  refine .step rfl rfl rfl (AOp.toK (.cat rfl rfl rfl (by (try simp only [bStr_sz, List.length_append, ByteArray.size_append, strL_size, szMk, List.size_toArray, List.length_cons, List.length_nil]); omega))) ?_
  refine .step rfl rfl rfl (AOp.toK (.fieldAddr rfl fo_61_2 rfl)) ?_
  refine .step rfl rfl rfl (AOp.toK (.load rfl sc_9 rfl)) ?_
  rw [← strL_of c.things[k].title]
  refine .step rfl rfl rfl (AOp.toK (.cat rfl rfl rfl (by (try simp only [bStr_sz, List.length_append, ByteArray.size_append, strL_size, szMk, List.size_toArray, List.length_cons, List.length_nil]); omega))) ?_
  refine .step rfl rfl rfl (AOp.toK (.cat rfl rfl rfl (by (try simp only [bStr_sz, List.length_append, ByteArray.size_append, strL_size, szMk, List.size_toArray, List.length_cons, List.length_nil]); omega))) ?_
  refine .step rfl rfl rfl (AOp.toK (.cat rfl rfl rfl (by (try simp only [bStr_sz, List.length_append, ByteArray.size_append, strL_size, szMk, List.size_toArray, List.length_cons, List.length_nil]); omega))) ?_
  refine .step rfl rfl rfl (AOp.toK (.assignD rfl rfl)) ?_
  refine .nil ?_
  refine .sr ?_
  refine .sA (.fieldAddr rfl fo_61_6 rfl) ?_
  refine .sA (.load rfl sc_39 rfl) ?_
  refine .sA (.lenSl rfl et_39.ht rfl) ?_
  refine .sA (.gtr rfl rfl rfl) (.nil ?_)
  refine .cond rfl (fun h5 => ?_) (fun h5 => ?_)
  ·replace h5 := of_decide_eq_true h5
   rw [List.length_map] at h5
   have hpp : 0 < c.things[k].parts.length := by omega
   have HT := tTx_p hpp
   refine .region ?_
   refine .mA ?_
   refine .sA (.fieldAddr rfl fo_61_6 rfl) ?_
   refine .sA (.load rfl sc_39 rfl) ?_
   -- wants the world
   refine .callT rfl rfl rfl hT tbm_stays rfl (.cons (.rfl' rfl) .nil) (c_rNms c.things[k].parts htk.parts hsp) ?_
   refine .sA (.cat rfl rfl rfl (by (try simp only [bStr_sz, List.length_append, ByteArray.size_append, strL_size, szMk, List.size_toArray, List.length_cons, List.length_nil]); omega)) ?_
   refine .sA (.cat rfl rfl rfl (by (try simp only [bStr_sz, List.length_append, ByteArray.size_append, strL_size, szMk, List.size_toArray, List.length_cons, List.length_nil]); omega)) ?_
   refine .sA (.cat rfl rfl rfl (by (try simp only [bStr_sz, List.length_append, ByteArray.size_append, strL_size, szMk, List.size_toArray, List.length_cons, List.length_nil]); omega)) ?_
   refine .aA (.nil ?_)
   refine .region ?_
   refine .sA (.add64 rfl rfl rfl (by omega) (by omega)) ?_
   refine .mA (.nil ?_)
   refine ⟨k + 1, (by omega), (by dsimp only; omega), Sub.less ⟨(SLe.of_eq rfl), SLe.refl _, SLe.refl _, SLe.refl _, (sEq (by rw [HN, HT]; unfold tLine; (try rw [← numsL_p hpp]); rw [hq]; (try simp only [str_app, ba_app, strL_list, List.append_assoc, List.nil_append, List.append_nil, List.cons_append]); first | done | rfl | skip)), trivial⟩ (fun _ h => h)⟩
  replace h5 := of_decide_eq_false h5
  rw [List.length_map] at h5
  have HT := tTx_0 (t := c.things[k]) (by omega)
  refine .skip ?_
  refine .region ?_
  refine .sA (.add64 rfl rfl rfl (by omega) (by omega)) ?_
  refine .mA (.nil ?_)
  refine ⟨k + 1, (by omega), (by dsimp only; omega), Sub.less ⟨(SLe.of_eq rfl), SLe.refl _, SLe.refl _, SLe.refl _, (sEq (by rw [HN, HT]; unfold tLine; (try rw [← numsL_p hpp]); rw [hq]; (try simp only [str_app, ba_app, strL_list, List.append_assoc, List.nil_append, List.append_nil, List.cons_append]); first | done | rfl | skip)), trivial⟩ (fun _ h => h)⟩
 replace h2 := of_decide_eq_false h2
 rw [List.length_map] at h2
 obtain rfl : k = c.things.length := by omega
 refine .exit ?_
 refine .seq ?_
 refine .sr ?_
 refine .sA (.fieldAddr rfl fo_25_1 rfl) ?_
 refine .sA (.load rfl sc_23 rfl) ?_
 refine .sA (.lenSl rfl et_23.ht rfl) ?_
 refine .mA (.nil ?_)
 refine .block ?_
 refine .loop (G := Nat) (fun k => Env.of [(73, .d (.v (.int .i64 (k : Int)))), (71, .d (.sl (c.moved.map Mvd.ds))), (72, .d (.v (.int .i64 ((c.moved.map Mvd.ds).length : Int)))), (5, .d (.v (.string (strL (txM c k)))))]) (fun k => []) (fun k => k ≤ c.moved.length) (fun k => c.moved.length - k) 0 (Nat.zero_le _) (Sub.less ⟨(SLe.of_eq rfl), SLe.refl _, SLe.refl _, (SLe.of_eq (by rw [txM_0]; rfl)), trivial⟩ (fun _ h => h)) ?_
 intro k hk
 refine .sr ?_
 refine .sA (.lss rfl rfl rfl) (.nil ?_)
 refine .seq ?_
 refine .cond rfl (fun h6 => ?_) (fun h6 => ?_)
 ·replace h6 := of_decide_eq_true h6
  rw [List.length_map] at h6
  have hlt : k < c.moved.length := by omega
  have hmk := mok_of h0 (List.getElem_mem hlt)
  have hTl := txM_len h0 k
  have hd1 := dc_len hmk.1
  have hd2 := dc_len hmk.2
  have HN := txM_next hlt
  refine .skip ?_
  refine .seq ?_
  refine .block ?_
  refine .sr ?_
  refine .sA (.indexAddr rfl et_23 rfl rfl k rfl (at_lst hlt) rfl) ?_
  refine .sA (.loadAgg rfl ag_54 rfl rfl) ?_
  refine .alloc 102 rfl rfl rfl rfl zt_54 rfl rfl rfl ?_
  refine .store rfl rfl rfl sz_54 rfl (.head _) rfl rfl rfl (Nat.le_of_ble_eq_true rfl) ?_
  refine .freezeCells 10 (ds := c.moved[k].ds) rfl (.head _) (.nil ?_)
  refine .region ?_
  refine .mA ?_
  refine .sA (.fieldAddr rfl fo_54_0 rfl) ?_
  refine .sA (.load rfl sc_3 rfl) ?_
  refine .sA (.fieldAddr rfl fo_54_1 rfl) ?_
  refine .sA (.load rfl sc_3 rfl) ?_
  refine .sA (.buildSlice rfl et_39 (.cons rfl rfl rfl (.cons rfl rfl rfl .nil)) rfl (by decide)) ?_
  -- wants the world
  refine .callT rfl rfl rfl hT tbm_stays rfl (.cons (.rfl' rfl) .nil) (c_rNm2 c.moved[k].src c.moved[k].dst hmk.1 hmk.2) ?_
  refine .sA (.cat rfl rfl rfl (by (try simp only [bStr_sz, List.length_append, ByteArray.size_append, strL_size, szMk, List.size_toArray, List.length_cons, List.length_nil]); omega)) ?_
  refine .sA (.cat rfl rfl rfl (by (try simp only [bStr_sz, List.length_append, ByteArray.size_append, strL_size, szMk, List.size_toArray, List.length_cons, List.length_nil]); omega)) ?_
  refine .sA (.cat rfl rfl rfl (by (try simp only [bStr_sz, List.length_append, ByteArray.size_append, strL_size, szMk, List.size_toArray, List.length_cons, List.length_nil]); omega)) ?_
  refine .aA (.nil ?_)
  refine .region ?_
  refine .sA (.add64 rfl rfl rfl (by omega) (by omega)) ?_
  refine .mA (.nil ?_)
  refine ⟨k + 1, (by omega), (by dsimp only; omega), Sub.less ⟨(SLe.of_eq rfl), SLe.refl _, SLe.refl _, (sEq (by rw [HN]; unfold mTx mLine; (try simp only [str_app, ba_app, strL_list, List.append_assoc, List.nil_append, List.append_nil, List.cons_append]); first | done | rfl | skip)), trivial⟩ (fun _ h => h)⟩
 replace h6 := of_decide_eq_false h6
 rw [List.length_map] at h6
 obtain rfl : k = c.moved.length := by omega
 have HA := txM_all c
 refine .exit ?_
 refine .seq ?_
 refine .sr ?_
 refine .mA ?_
 refine .sA (.lenStr rfl st_9 rfl) ?_
 refine .sA (.gtr rfl rfl rfl) (.nil ?_)
 refine .cond rfl (fun h7 => ?_) (fun h7 => ?_)
 ·replace h7 := of_decide_eq_true h7
  rw [strL_size, HA] at h7
  rw [textV_l h0 (by omega)]
  refine .sr ?_
  refine .aA ?_
  refine .aA (.nil ?_)
  refine .ret ?_
  refine ⟨RetD.eq rfl ?_, RetD.eq rfl ?_, trivial⟩
  all_goals (rfl)
 replace h7 := of_decide_eq_false h7
 rw [strL_size, HA] at h7
 rw [textV_0 h0 (by omega), HA]
 refine .skip ?_
 refine .sr ?_
 refine .mA ?_
 refine .aA ?_
 refine .aA (.nil ?_)
 refine .ret ?_
 refine ⟨RetD.eq rfl ?_, RetD.eq rfl ?_, trivial⟩
 all_goals (rfl)

set_option maxRecDepth 100000 in
set_option maxHeartbeats 1000000 in
theorem lawTexts (c : Ctl) (hc : CtlOk c) : ACallT Tryz.prog TBM 4 [.agg c.ds] (.v (.bool true)) := by
 refine acall_ofT (n := 50) (ds' := [.v (.bool true)]) Tryz.func4 rfl (by kernel_rfl) rfl [2] rfl rfl ?_
 intro B w0 F0 hT
 refine .sr ?_
 refine .sA (.box rfl rfl rfl) ?_
 refine .aA (.nil ?_)
 refine .sr ?_
 refine .sA (.loadAgg rfl ag_25 rfl rfl) ?_
 -- wants the world
 refine .callT rfl rfl rfl hT tbm_stays rfl (.cons (.rfl' rfl) .nil) (c_pText c hc) ?_
 refine .mA ?_
 refine .sA (.extract rfl rfl rfl) ?_
 refine .sA (.extract rfl rfl rfl) ?_
 refine .aA ?_
 refine .aA (.nil ?_)
 refine .sr ?_
 refine .sA (.loadAgg rfl ag_25 rfl rfl) ?_
 -- wants the world
 refine .callT rfl rfl rfl hT tbm_stays rfl (.cons (.rfl' rfl) .nil) (c_rText c hc) ?_
 refine .mA ?_
 refine .sA (.extract rfl rfl rfl) ?_
 refine .sA (.extract rfl rfl rfl) ?_
 refine .aA ?_
 refine .aA (.nil ?_)
 refine .seq ?_
 refine .sr ?_
 refine .mA ?_
 refine .mA ?_
 refine .sA (.neq rfl rfl rfl) ?_
 refine .mA ?_
 refine .split 22 rfl (fun g1 => ?_) (fun g1 => ?_)
 ·replace g1 := of_decide_eq_true g1
  exact absurd rfl g1
 replace g1 := of_decide_eq_false g1
 refine .sG (.moveD rfl rfl) ?_
 refine .sG (.moveD rfl rfl) ?_
 refine .sG (.sneq rfl rfl rfl) ?_
 refine .sA (.pickF rfl rfl rfl) ?_
 refine .mA ?_
 refine .split 27 rfl (fun g2 => ?_) (fun g2 => ?_)
 ·replace g2 := of_decide_eq_true g2
  exact absurd rfl g2
 replace g2 := of_decide_eq_false g2
 skip
 refine .sG (.call rfl .nil c_awake) ?_
 refine .sG (.not rfl rfl) ?_
 refine .sA (.pickF rfl rfl rfl) (.nil ?_)
 refine .cond rfl (fun h => nomatch h) (fun _ => ?_)
 refine .skip ?_
 refine .seq ?_
 refine .sr ?_
 refine .mA ?_
 refine .sA (.neq rfl rfl rfl) (.nil ?_)
 refine .cond rfl (fun h3 => ?_) (fun h3 => ?_)
 ·replace h3 := of_decide_eq_true h3
  skip
  refine .sr ?_
  refine .aA (.nil ?_)
  refine .ret ?_
  refine ⟨RetD.eq rfl ?_, trivial⟩
  all_goals (first | rfl | (simp [HS]))
 replace h3 := of_decide_eq_false h3
 have h0 : (textV c).2 = 0 := Decidable.not_not.1 h3
 have HS := text_same h0
 refine .skip ?_
 refine .sr ?_
 refine .mA ?_
 -- wants the world
 refine .callT rfl rfl rfl hT tbm_stays rfl (.cons (.rfl' rfl) .nil) (c_pRead (textV c).1).max ?_
 refine .mA ?_
 refine .sA (.extract rfl rfl rfl) ?_
 refine .sA (.extract rfl rfl rfl) ?_
 refine .sA (.extract rfl rfl rfl) ?_
 refine .alloc 101 rfl rfl rfl rfl zt_25 rfl rfl rfl ?_
 refine .store rfl rfl rfl sz_25 rfl (.head _) rfl rfl rfl (Nat.le_of_ble_eq_true rfl) ?_
 refine .freezeCells 7 (ds := (readV (textV c).1.data.toList).1.ds) rfl (.head _) ?_
 refine .aA ?_
 refine .aA (.nil ?_)
 refine .sr ?_
 refine .mA ?_
 refine .sA (.eql rfl rfl rfl) ?_
 refine .mA ?_
 refine .split 41 rfl (fun g4 => ?_) (fun g4 => ?_)
 ·replace g4 := of_decide_eq_true g4
  refine .sG (.moveD rfl rfl) ?_
  refine .sG (.eql rfl rfl rfl) ?_
  refine .sA (.pickT rfl rfl rfl) ?_
  refine .mA ?_
  refine .split 45 rfl (fun g5 => ?_) (fun g5 => ?_)
  ·replace g5 := of_decide_eq_true g5
   refine .sG (.loadAgg rfl ag_25 rfl rfl) ?_
   refine .sG (.loadAgg rfl ag_25 rfl rfl) ?_
   refine .sG (.call rfl (.cons (.rfl' rfl) (.cons (.rfl' rfl) .nil)) (c_sameC _ _)) ?_
   refine .sA (.pickT rfl rfl rfl) ?_
   refine .aA (.nil ?_)
   refine .ret ?_
   refine ⟨RetD.eq rfl ?_, trivial⟩
   all_goals (first | rfl | (simp [HS]))
  replace g5 := of_decide_eq_false g5
  exact absurd (by rw [HS]) g5
 replace g4 := of_decide_eq_false g4
 exact absurd (by rw [HS]) g4

end Go.Proofs.YthcdjmkkgbcaaaaGreatDoor
