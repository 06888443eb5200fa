/- Walks and laws over abstract values, merged by tools/merge.py. No statement of the seat. -/
import Derived.Shelf.Strings.Builder1
import Derived.Lib.AppendStr
import Derived.Lib.UnsafeStr
import Derived.WalkKit
import Derived.Ground.NamesProg
import Derived.Shelf.LaysM
import Derived.Shelf.Strconv.Itoa3
import Derived.Test.YtcfamaddnmnaeaaGreatDoorProg
import Derived.Shelf.RegionOpenPlain
import Derived.Lib.ItoaLen
import Derived.Test.YtcfamaddnmnaeaaGreatDoorZE8
set_option linter.unusedSimpArgs false
set_option linter.unusedVariables false
set_option maxHeartbeats 8000000
set_option maxRecDepth 100000
open List renaming length_map -> ZlM, getElem?_eq_getElem -> ZgE, getElem?_eq_some_iff -> ZgS, getElem_mem -> ZgM, length_take -> ZlT, getElem_append_left -> ZgL, getElem_map -> ZgP, getElem_append_right -> ZgR, map_append -> ZmA, mem_map -> ZmM, getElem?_drop -> ZgO
open Nat renaming le_of_ble_eq_true -> ZnB, ne_of_beq_eq_false -> ZnE, zero_le -> ZnZ, le_refl -> ZnR
open Bool renaming or_eq_true_iff -> ZbO
namespace Go.Proofs.YtcfamaddnmnaeaaGreatDoor
section
open Go.RowKit
open Ty
theorem fst_start (f : Nat -> Int) : FstMax f 0 0 := fun i hi => by omega
theorem fst_up {f : Nat -> Int} {i b : Nat} (h : FstMax f i b) (hlt : f i > f b) : FstMax f (i + 1) i := fun m hm => by
 by_cases e : m = i
 ·subst e; exact .inr ⟨Int.le_refl _, ZnR _⟩
 ·have := h m (by omega); left; omega
theorem fst_same {f : Nat -> Int} {i b : Nat} (h : FstMax f i b) (hb : b <= i) (hlt : ¬ f i > f b) : FstMax f (i + 1) b := fun m hm => by
 by_cases e : m = i
 ·subst e; exact .inr ⟨by omega, hb⟩
 ·exact h m (by omega)
theorem c_rDiv (t : Int) (ws : List Int) : Yaq Tryz.prog 108 [.v (.int .i64 t), .sl (ws.map intD)] (.tup [.sl (divR t ws), .v (.int .i64 (Yau t ws))]) := by
 refine Yah (n := 107) (ds' := [.sl (divR t ws), .v (.int .i64 (Yau t ws))]) Tryz.func108 J (by kernel_rfl) J [4, 5] J J ?_
 intro B w0 F0 fr
 refine .sr (.aA ?_)
 refine .aN ?_
 refine .seq (.sr (.mA ?_))
 refine .sA (.lenSl J et_37.ht J) ?_
 refine .sA (.eql J J J) (.nil ?_)
 refine .cT J (fun h1 => ?_) fun h1 => ?_
 ·rw [ZlM] at h1
  have HF := div_9 (t := t) h1
  have HR := Ybz (t := t) (ws := ws) (by rw [HF]; decide)
  rw [HR, HF]
  refine .sr (.aA ?_)
  refine .aN ?_
  refine .ret ?_
  refine ⟨RetD.nil J, RetD.eq J ?_, trivial⟩
  all_goals (first | rfl | (rw [Int.toNat_natCast]))
 rw [ZlM] at h1
 have g0 := h1
 refine .skip (.seq (.sr (.mA ?_)))
 refine .sA (.lenSl J et_37.ht J) ?_
 refine .sA (.gtr J J J) (.nil ?_)
 refine .cT J (fun h2 => ?_) fun h2 => ?_
 ·rw [ZlM] at h2
  have HF := div_2 (t := t) g0 h2
  have HR := Ybz (t := t) (ws := ws) (by rw [HF]; decide)
  rw [HR, HF]
  refine .sr (.aA ?_)
  refine .aN ?_
  refine .ret ?_
  refine ⟨RetD.nil J, RetD.eq J ?_, trivial⟩
  all_goals (first | rfl | (rw [Int.toNat_natCast]))
 rw [ZlM] at h2
 have g1 := h2
 refine .skip (.seq (.sr (.mA ?_)))
 refine .sA (.call J (.cons (.rfl' J) (.cons (.rfl' J) (.cons (.rfl' J) .nil))) (c_rWithin _ _ _)) ?_
 refine .sA (.not J J) (.nil ?_)
 refine .cN J (fun h3 => ?_) fun h3 => ?_
 ·have HF := div_1 g0 g1 h3
  have HR := Ybz (t := t) (ws := ws) (by rw [HF]; decide)
  rw [HR, HF]
  refine .sr (.aA ?_)
  refine .aN ?_
  refine .ret ?_
  refine ⟨RetD.nil J, RetD.eq J ?_, trivial⟩
  all_goals (first | rfl | (rw [Int.toNat_natCast]))
 have g2 := h3
 refine .skip (.sr (.aN ?_))
 refine .seq (.sr (.mA ?_))
 refine .sA (.lenSl J et_37.ht J) ?_
 refine .mN ?_
 refine .block (.loop (G := Nat) (fun k => Env.of [(28, .iv k), (26, .d (.sl (ws.map intD))), (27, .iv (ws.map intD).length), (6, .d (.v (.int .i64 (ws.take k).sum))), (0, .d (.v (.int .i64 t))), (1, .d (.sl (ws.map intD)))]) (fun k => []) (fun k => k <= ws.length /\ ∀ w ∈ ws.take k, 0 <= w /\ w <= 1000000000) (fun k => ws.length - k) 0 ⟨ZnZ _, fun w hw => by simp at hw⟩ (Sub.less ⟨U, U, U, (SLe.i64 rfl), U, U, trivial⟩ (fun _ h => h)) ?_)
 intro k hk
 refine .sr (.sA (.lss J J J) (.nil ?_))
 refine .seq (.cT J (fun h4 => ?_) fun h4 => ?_)
 ·rw [ZlM] at h4
  have hlt : k < ws.length := by omega
  have hsb := sum_bnd (l := ws.take k) hk.2
  have htl : ((ws.take k).length : Int) <= 500 := by rw [ZlT]; omega
  have hts := take_sum hlt
  refine .skip (.seq (.block (.sr (.sA (.indexAddr J et_37 J J k J (YbK hlt) J) ?_))))
  refine .sA (.load J sc_3 J) ?_
  refine .aN ?_
  refine .seq (.sr (.mA ?_))
  refine .sA (.call J (.cons (.rfl' J) (.cons (.rfl' J) (.cons (.rfl' J) .nil))) (c_rWithin _ _ _)) ?_
  refine .sA (.not J J) (.nil ?_)
  refine .cN J (fun h5 => ?_) fun h5 => ?_
  ·have HF := div_1w (t := t) g0 g1 g2 ⟨_, ZgM hlt, h5⟩
   have HR := Ybz (t := t) (ws := ws) (by rw [HF]; decide)
   rw [HR, HF]
   refine .sr (.aA ?_)
   refine .aN ?_
   refine .ret ?_
   refine ⟨RetD.nil J, RetD.eq J ?_, trivial⟩
   all_goals (first | rfl | (rw [Int.toNat_natCast]))
  have hN := take_next hlt hk.2 h5
  refine .skip (.region (.mA ?_))
  refine .mA ?_
  refine .sA (.add64 J J J) ?_
  refine .aN ?_
  refine .region (.sA (.add64 J J J) ?_)
  refine .mN ?_
  refine ⟨k + 1, ⟨by omega, hN⟩, (by dsimp only; omega), Sub.less ⟨U, U, U, (SLe.i64 (by rw [hts])), U, U, trivial⟩ (fun _ h => h)⟩
 rw [ZlM] at h4
 obtain rfl : k = ws.length := by omega
 rw [List.take_length]
 have hall := all_take hk.2
 have HD := div_in (t := t) g0 g1 g2 hall
 have hsb := sum_bnd hall
 refine .exit (.seq (.sr (.mA ?_)))
 refine .sA (.eql J J J) (.nil ?_)
 refine .cT J (fun h6 => ?_) fun h6 => ?_
 ·have HF : Yau t ws = 13 := HD.trans (if_pos h6)
  have HR := Ybz (t := t) (ws := ws) (by rw [HF]; decide)
  rw [HR, HF]
  refine .sr (.aA ?_)
  refine .aN ?_
  refine .ret ?_
  refine ⟨RetD.nil J, RetD.eq J ?_, trivial⟩
  all_goals (first | rfl | (rw [Int.toNat_natCast]))
 have HF : Yau t ws = 0 := HD.trans (if_neg h6)
 have ok : DivOk t ws := ⟨by omega, by omega, g2, hall, by omega⟩
 have hs := ok.s0
 have hn0 := ok.n0
 have hn1 := ok.n1
 have HR : divR t ws = rowF (outF t ws (YaR t ws ws.length).toNat) ws.length := if_pos HF
 rw [HR, HF]
 refine .skip (.seq (.drawFresh 8 [⟨43, 101, .own 101, .row 3 1 (List.replicate ws.length [.v (.int .i64 0)])⟩, ⟨46, 102, .own 102, .row 3 1 (List.replicate ws.length [.v (.int .i64 0)])⟩] (FrOk.two rfl (by simp) rfl rfl rfl rfl (by simp) rfl rfl rfl (ZnE rfl) (ZnE rfl) rfl rfl rfl rfl) (by kernel_rfl) (by kernel_rfl) (by kernel_rfl) (by kernel_rfl) ?_))
 refine .step J J J (.moveD J J) ?_
 refine .step J J J (.lenSl J et_37.ht J) ?_
 refine .make _ (.head _) ws.length J J J J J et_37 J J (by rw [ZlM]) (by omega) (by omega) J J J ?_
 refine .step J J J (.moveD J J) ?_
 refine .step J J J (.lenSl J et_37.ht J) ?_
 refine .make _ (.tail _ (.head _)) ws.length J J J J J et_37 J J (by rw [ZlM]) (by omega) (by omega) J J J ?_
 refine .step J J J (.assignO J J) ?_
 refine .step J J J (.assignO J J) ?_
 refine .nil ⟨J, J, trivial⟩ ?_
 refine .nil ?_
 refine .sr (.mA ?_)
 refine .aN ?_
 refine .seq (.sr (.mA ?_))
 refine .sA (.lenSl J et_37.ht J) ?_
 refine .mN ?_
 refine .block (.loop (G := Nat) (fun k => Env.of [(50, .iv k), (48, .d (.sl (ws.map intD))), (49, .iv (ws.map intD).length), (9, .own 101), (10, .own 102), (11, .iv (YaR t ws k)), (6, .d (.v (.int .i64 ws.sum))), (0, .d (.v (.int .i64 t))), (1, .d (.sl (ws.map intD)))]) (fun k => [(101, .row 3 1 (rowF (fun i => if i < k then qAt t ws i else 0) ws.length)), (102, .row 3 1 (rowF (fun i => if i < k then rAt t ws i else 0) ws.length))]) (fun k => k <= ws.length) (fun k => ws.length - k) 0 (ZnZ _) (Sub.less ⟨U, U, U, U, U, (SLe.i64 (by simp [YaR])), U, U, U, trivial⟩ (rows_2 ((rowF_zero _).trans (Ybi fun i _ => by simp)) ((rowF_zero _).trans (Ybi fun i _ => by simp)))) ?_)
 intro k hk
 refine .sr (.sA (.lss J J J) (.nil ?_))
 refine .seq (.cT J (fun h7 => ?_) fun h7 => ?_)
 ·rw [ZlM] at h7
  have hlt : k < ws.length := by omega
  have m1 := mul_bnd g2 (hall _ (ZgM hlt))
  have hq : qAt t ws k = t * ws[k] / ws.sum := by unfold qAt; rw [wAt_eq hlt]
  have hqb := ok.qB hlt
  have hl1 := ok.leftB (k := k) (by omega)
  have hl2 := Ycu t ws k
  rw [hq] at hqb hl2
  have hr : rAt t ws k = t * ws[k] % ws.sum := by unfold rAt; rw [wAt_eq hlt]
  refine .skip (.seq (.block (.sr (.mA ?_))))
  refine .sA (.indexAddr J et_37 J J k J (YbK hlt) J) (.sA (.load J sc_3 J) ?_)
  refine .aA ?_
  refine .aN ?_
  refine .seq (.drawG (fun k => (Nat.beq k 15 || Nat.beq k 17) || (Nat.beq k 14 || Nat.beq k 16)) (fun k => Nat.beq k 15 || Nat.beq k 17) (fun k h => ZbO.2 (.inl h)) (by kernel_rfl) (by kernel_rfl) (by kernel_rfl) ?_)
  refine .step J J J (fun _ => AOp.moveO J J) ?_
  refine .step J J J (fun _ => AOp.moveD J J) ?_
  refine .step J J J (fun _ => AOp.moveO J J) ?_
  refine .step J J J (fun _ => AOp.moveD J J) ?_
  refine .step J J J (fun _ => AOp.moveD J J) ?_
  refine .step J J J (fun _ => AOp.moveD J J) ?_
  refine .step J J J (fun _ => AOp.mul64 J J J (by omega) (by omega)) ?_
  refine .step J J J (fun _ => AOp.moveD J J) ?_
  refine .step J J J (fun _ => AOp.quo64 J J J (by omega) (by omega) (by omega)) ?_
  refine .step J J J (fun _ => AOp.moveD J J) ?_
  refine .step J J J (fun _ => AOp.moveD J J) ?_
  refine .step J J J (fun _ => AOp.mul64 J J J (by omega) (by omega)) ?_
  refine .step J J J (fun _ => AOp.moveD J J) ?_
  refine .step J J J (fun _ => AOp.rem64 J J J (by omega) (by omega)) ?_
  refine .stepS J J J J (.indexOwn J et_37 J J (.head _) k J (by rw [YaD]; exact hlt)) ?_
  refine .eff J J J (.storeRow J J sz_3 J (.head _) J J J k 0 J (Ybg hlt) (ZnB J)) ?_
  refine .stepS J J J J (.indexOwn J et_37 J J (.tail _ (.head _)) k J (by rw [YaD]; exact hlt)) ?_
  refine .eff J J J (.storeRow J J sz_3 J (.tail _ (.head _)) J J J k 0 J (Ybg hlt) (ZnB J)) ?_
  refine .nil ?_
  refine .region (.mA ?_)
  refine .sA (.moveO J J) ?_
  refine .mA ?_
  refine .sA (.indexOwn J et_37 J J (.head _) k J (by rw [List.length_set, YaD]; exact hlt)) ?_
  refine .sA (.loadRow J sc_3 J (.head _) k 0 J (List.getElem?_set_self (by rw [YaD]; exact hlt)) J) ?_
  refine .sA (.sub64 J J J) ?_
  refine .aN ?_
  refine .region (.sA (.add64 J J J) ?_)
  refine .mN ?_
  refine ⟨k + 1, (by omega), (by dsimp only; omega), Sub.less ⟨U, U, U, U, U, (SLe.i64 (by rw [hl2])), U, U, U, trivial⟩ (rows_2 (Ycr hlt fun i _ => by rw [<- hq]; exact step_if (qAt t ws) k i) (Ycr hlt fun i _ => by rw [<- hr]; exact step_if (rAt t ws) k i))⟩
 rw [ZlM] at h7
 obtain rfl : k = ws.length := by omega
 have hl1 := ok.leftB (k := ws.length) (ZnR _)
 have hlN := ok.leftN
 obtain ⟨L, hL⟩ : ∃ L : Nat, YaR t ws ws.length = (L : Int) := ⟨(YaR t ws ws.length).toNat, by omega⟩
 rw [hL] at hlN
 have hol := ordL_len t ws
 rw [hL]
 have HO : rowF (fun i => if i < ws.length then rAt t ws i else 0) ws.length = rowF (restF t ws 0) ws.length := Ybi fun i hi => by rw [if_pos hi]; unfold restF pick; simp
 have HQ : rowF (fun i => if i < ws.length then qAt t ws i else 0) ws.length = rowF (outF t ws 0) ws.length := Ybi fun i hi => by rw [if_pos hi]; unfold outF pick; simp
 rw [HO, HQ]
 refine .exit (.seq (.sr (.mA ?_)))
 refine .mN ?_
 refine .block (.loop (G := Nat) (fun j => Env.of [(79, .iv j), (78, .iv L), (9, .own 101), (10, .own 102)]) (fun j => [(101, .row 3 1 (rowF (outF t ws j) ws.length)), (102, .row 3 1 (rowF (restF t ws j) ws.length))]) (fun j => j <= L) (fun j => L - j) 0 (ZnZ _) (Sub.less ⟨(SLe.i64 J), U, U, U, trivial⟩ (rows_2 J J)) ?_)
 intro j hj
 refine .sr (.sA (.lss J J J) (.nil ?_))
 refine .seq (.cT J (fun h8 => ?_) fun h8 => ?_)
 ·have hjL : j < L := by omega
  have hjo : j < (ordL t ws).length := by omega
  refine .skip (.seq (.block (.sr (.aN ?_))))
  refine .seq (.sr (.sA (.moveO J J) ?_))
  refine .sA (.lenOwn J et_37.ht J (.tail _ (.head _))) ?_
  refine .mN ?_
  refine .block (.loop (G := Nat × Nat) (fun g => Env.of [(83, .iv g.1), (14, .iv g.2), (81, .own 102), (82, .d (.v (.int .i64 (((rowF (restF t ws j) ws.length).length : Nat) : Int)))), (79, .iv j), (78, .iv L), (9, .own 101), (10, .own 102)]) (fun g => [(101, .row 3 1 (rowF (outF t ws j) ws.length)), (102, .row 3 1 (rowF (restF t ws j) ws.length))]) (fun g => g.1 <= ws.length /\ g.2 < ws.length /\ g.2 <= g.1 /\ FstMax (restF t ws j) g.1 g.2) (fun g => ws.length - g.1) (0, 0) ⟨ZnZ _, hn0, ZnR _, fst_start _⟩ (Sub.less ⟨(SLe.i64 J), (SLe.i64 J), U, U, U, U, U, U, trivial⟩ (rows_2 J J)) ?_)
  rintro ⟨i, b⟩ ⟨hi, hb, hbi, hF⟩
  dsimp only at hi hb hbi hF ⊢
  refine .sr (.sA (.lss J J J) (.nil ?_))
  refine .seq (.cT J (fun h9 => ?_) fun h9 => ?_)
  ·rw [YaD] at h9
   have hin : i < ws.length := by omega
   refine .skip (.seq (.block (.sr (.mA ?_))))
   refine .sA (.indexOwn J et_37 J J (.tail _ (.head _)) i J (by rw [YaD]; exact hin)) ?_
   refine .sA (.loadRow J sc_3 J (.tail _ (.head _)) i 0 J (Ybg hin) J) ?_
   refine .aA ?_
   refine .aN ?_
   refine .sr (.mA ?_)
   refine .sA (.moveO J J) ?_
   refine .mA ?_
   refine .sA (.indexOwn J et_37 J J (.tail _ (.head _)) b J (by rw [YaD]; exact hb)) ?_
   refine .sA (.loadRow J sc_3 J (.tail _ (.head _)) b 0 J (Ybg hb) J) ?_
   refine .sA (.gtr J J J) (.nil ?_)
   refine .cT J (fun h10 => ?_) fun h10 => ?_
   ·have HN := fst_up hF h10
    refine .region (.mA ?_)
    refine .aN ?_
    refine .region (.sA (.add64 J J J) ?_)
    refine .mN ?_
    refine ⟨(i + 1, i), ⟨by dsimp only; omega, by dsimp only; omega, by dsimp only; omega, HN⟩, (by dsimp only; omega), Sub.less ⟨(SLe.i64 rfl), U, U, U, U, U, U, U, trivial⟩ (rows_2 rfl rfl)⟩
   have HN := fst_same hF hbi h10
   refine .skip (.region (.sA (.add64 J J J) ?_))
   refine .mN ?_
   refine ⟨(i + 1, b), ⟨by dsimp only; omega, hb, by dsimp only; omega, HN⟩, (by dsimp only; omega), Sub.less ⟨(SLe.i64 rfl), U, U, U, U, U, U, U, trivial⟩ (rows_2 rfl rfl)⟩
  rw [YaD] at h9
  obtain rfl : i = ws.length := by omega
  have hbe : b = (ordL t ws)[j].1.val := fstMax_one hb (ordL t ws)[j].1.isLt hF (next_max hs hjo)
  subst hbe
  have hob := ok.outB j (ordL t ws)[j].1.isLt
  refine .exit (.sr (.sA (.moveO J J) ?_))
  refine .mA ?_
  refine .sA (.indexOwn J et_37 J J (.head _) (ordL t ws)[j].1.val J (by rw [YaD]; exact hb)) ?_
  refine .sA (.loadRow J sc_3 J (.head _) (ordL t ws)[j].1.val 0 J (Ybg hb) J) ?_
  refine .sA (.add64 J J J) ?_
  refine .sA (.indexOwn J et_37 J J (.head _) (ordL t ws)[j].1.val J (by rw [YaD]; exact hb)) ?_
  refine .storeRow J J J sz_3 J (.head _) J J J (ordL t ws)[j].1.val 0 J (Ybg hb) (ZnB J) (.nil ?_)
  refine .region (.sA (.moveO J J) ?_)
  refine .mA ?_
  refine .sA (.indexOwn J et_37 J J (.tail _ (.head _)) (ordL t ws)[j].1.val J (by rw [YaD]; exact hb)) ?_
  refine .storeRow J J J sz_3 J (.tail _ (.head _)) J J J (ordL t ws)[j].1.val 0 J (Ybg hb) (ZnB J) (.nil ?_)
  refine .region (.sA (.add64 J J J) ?_)
  refine .mN ?_
  refine ⟨j + 1, (by omega), (by dsimp only; omega), Sub.less ⟨(SLe.i64 rfl), U, U, U, trivial⟩ (rows_2 (Ycr hb fun i _ => outF_succ hjo i) (Ycr hb fun i _ => restF_succ hjo i))⟩
 obtain rfl : j = L := by omega
 refine .exit (.sr (.sA (.moveO J J) ?_))
 refine .sA (.assignO J J) ?_
 refine .aN ?_
 refine .ret ?_
 refine ⟨RetD.own J (.head _) ?_, RetD.eq J ?_, trivial⟩
 all_goals (first | rfl | (rw [Int.toNat_natCast]))
open Go.Sort Go.Lib
theorem pw_of {α : Type} {R : α -> α -> Prop} (tr : ∀ x y z, R x y -> R y z -> R x z) {l : List α} (h : ∀ k (hk : k + 1 < l.length), R l[k] l[k + 1]) : l.Pairwise R := by
 have step : ∀ d i, (h : i + d + 1 < l.length) -> R l[i] l[i + d + 1] := by
  intro d
  induction d with
  | zero => intro i h3; exact h i h3
  | succ d ih => intro i h3; exact tr _ _ _ (ih i (by omega)) (h (i + d + 1) h3)
 refine List.pairwise_iff_getElem.2 fun i j hi hj hij => ?_
 obtain ⟨d, rfl⟩ : ∃ d, j = i + d + 1 := ⟨j - i - 1, by omega⟩
 exact step d i hj
theorem Ycd {α : Type} {l : List α} {k : Nat} (h : k < l.length) : l.take (k + 1) = l.take k ++ [l[k]] := by
 rw [List.take_add_one, ZgE h]; rfl
def nowV (S : List Sal) (next : Int) (d : Deal) : Int := ernV d.tiers (basV d next S)
def whdV (e r : Int) : Int := if 0 < e then e * r / 1000 else 0
def whD (S : List Sal) (next : Int) (p : Deal × Int) : Int := whdV (nowV S next p.1 - p.2) p.1.resv
def rwD (S : List Sal) (next : Int) (H : List Hld) (p : Deal × Int) : Rw := ⟨p.1.name, nowV S next p.1 - p.2, whD S next p, cenH H (p.1.name, next), if next = p.1.frm then p.1.adv else 0⟩
def keyD (next : Int) (p : Deal × Int) : KH := (p.1.name, next + p.1.hold)
def stepL (S : List Sal) (next : Int) (L : List Hld) (p : Deal × Int) : List Hld := if whD S next p = 0 then delH L (p.1.name, next) else addH (delH L (p.1.name, next)) ⟨p.1.name, next + p.1.hold, whD S next p⟩
def hldP (S : List Sal) (next : Int) (H : List Hld) (l : List (Deal × Int)) : List Hld := l.foldl (stepL S next) H
def outQ (next : Int) (p : Deal × Int) (k : KH) : Bool := decide (k.1 = p.1.name) && (decide (¬ k.2 = next) && decide (¬ k.2 = next + p.1.hold))
def outH (next : Int) (H : List Hld) (p : Deal × Int) : List Hld := H.filter fun h => outQ next p h.key
def cenD (S : List Sal) (next : Int) (H : List Hld) (p : Deal × Int) : Int := cenH H (keyD next p) + whD S next p
def segH (S : List Sal) (next : Int) (H : List Hld) (p : Deal × Int) : List Hld := if 0 < cenD S next H p then addH (outH next H p) ⟨p.1.name, next + p.1.hold, cenD S next H p⟩ else outH next H p
def hldR (S : List Sal) (next : Int) (H : List Hld) (l : List (Deal × Int)) : List Hld := l.flatMap (segH S next H)
theorem find_filter (q : KH -> Bool) (k : KH) : ∀ L : List Hld, Yap (HL (L.filter fun h => q h.key)) k = if q k = true then Yap (HL L) k else none
 | [] => by simp [HL, YbZ]
 | x :: L => by
  have ih := find_filter q k L
  have e : HL (x :: L) = (x.key, x.cents) :: HL L := rfl
  rw [List.filter_cons, e, Yat]
  dsimp only
  by_cases h1 : x.key = k
  ·rw [if_pos h1]
   by_cases h2 : q k = true
   ·rw [if_pos (by rw [h1]; exact h2), if_pos h2, show HL (x :: L.filter fun h => q h.key) = (x.key, x.cents) :: HL (L.filter fun h => q h.key) from rfl, Yat, if_pos h1]
   ·rw [if_neg (by rw [h1]; exact h2), ih, if_neg h2, if_neg h2]
  ·rw [if_neg h1]
   by_cases h2 : q x.key = true
   ·rw [if_pos h2, show HL (x :: L.filter fun h => q h.key) = (x.key, x.cents) :: HL (L.filter fun h => q h.key) from rfl, Yat, if_neg h1, ih]
   ·rw [if_neg h2, ih]
theorem find_del (L : List Hld) (k0 k : KH) : Yap (HL (delH L k0)) k = if k = k0 then none else Yap (HL L) k := by
 have := find_filter (fun x => decide (¬ x = k0)) k L
 unfold delH
 rw [this]
 by_cases h : k = k0 <;> simp [h]
theorem find_out (next : Int) (H : List Hld) (p : Deal × Int) (k : KH) : Yap (HL (outH next H p)) k = if outQ next p k = true then Yap (HL H) k else none := find_filter (outQ next p) k H
theorem filt_ok {L : List Hld} (ok : Hls L) (q : Hld -> Bool) : Hls (L.filter q) := ⟨ok.rise.filter _⟩
def finD (S : List Sal) (next : Int) (p : Deal × Int) (k : KH) (o : Option Int) : Option Int :=
 if k.2 = next then none else if k.2 = next + p.1.hold then (if whD S next p = 0 then o else some (YbE (· + ·) o (whD S next p))) else o
theorem find_step {S : List Sal} {next : Int} {L : List Hld} (ok : Hls L) {p : Deal × Int} (hh : 1 <= p.1.hold) (k : KH) : Yap (HL (stepL S next L p)) k = if k.1 = p.1.name then finD S next p k (Yap (HL L) k) else Yap (HL L) k := by
 obtain ⟨kd, kp⟩ := k
 unfold stepL finD
 dsimp only
 by_cases hw : whD S next p = 0
 ·rw [if_pos hw, if_pos hw, find_del]
  by_cases h1 : kd = p.1.name
  ·rw [if_pos h1]
   by_cases h2 : kp = next
   ·rw [if_pos h2, if_pos (by rw [h1, h2])]
   ·rw [if_neg h2, if_neg (fun e => h2 (congrArg Prod.snd e))]
    split <;> rfl
  ·rw [if_neg h1, if_neg (fun e => h1 (congrArg Prod.fst e))]
 ·rw [if_neg hw, if_neg hw, cen_add (delH_ok ok _), find_del, find_del]
  show (if (kd, kp) = (p.1.name, next + p.1.hold) then _ else _) = _
  have h0 : ¬ ((p.1.name, next + p.1.hold) : KH) = (p.1.name, next) := fun e => by have := congrArg Prod.snd e; dsimp only at this; omega
  by_cases h1 : kd = p.1.name
  ·rw [if_pos h1]
   by_cases h2 : kp = next
   ·rw [if_pos h2, if_neg (fun e => by have := congrArg Prod.snd e; dsimp only at this; omega), if_pos (by rw [h1, h2])]
   ·rw [if_neg h2]
    by_cases h3 : kp = next + p.1.hold
    ·rw [if_pos h3, if_pos (by rw [h1, h3])]
     show some (YbE _ (if ((p.1.name, next + p.1.hold) : KH) = (p.1.name, next) then _ else Yap (HL L) (p.1.name, next + p.1.hold)) _) = _
     rw [if_neg h0, h1, h3]
    ·rw [if_neg h3, if_neg (fun e => h3 (congrArg Prod.snd e)), if_neg (fun e => h2 (congrArg Prod.snd e))]
  ·rw [if_neg h1, if_neg (fun e => h1 (congrArg Prod.fst e)), if_neg (fun e => h1 (congrArg Prod.fst e))]
theorem step_ok {S : List Sal} {next : Int} {L : List Hld} (ok : Hls L) (p : Deal × Int) : Hls (stepL S next L p) := by
 unfold stepL
 split
 ·exact delH_ok ok _
 ·exact addH_ok (delH_ok ok _) _
theorem addO_len {κ β : Type} [DecidableEq κ] {lt : κ -> κ -> Bool} {add : β -> β -> β} {e : κ × β} : ∀ L : List (κ × β), (addO lt add e L).length <= L.length + 1
 | [] => by simp [addO]
 | p :: l => by
  have := addO_len (lt := lt) (add := add) (e := e) l
  unfold addO
  split
  ·simp; omega
  ·split <;> simp
theorem addH_len (L : List Hld) (x : Hld) : (addH L x).length <= L.length + 1 := by
 unfold addH
 rw [ZlM]
 have := addO_len (lt := ltH) (add := (· + · : Int -> Int -> Int)) (e := (x.key, x.cents)) (HL L)
 rw [HL_len] at this
 exact this
theorem step_len {S : List Sal} {next : Int} (L : List Hld) (p : Deal × Int) : (stepL S next L p).length <= L.length + 1 := by
 have h1 := del_len (l := L) (p.1.name, next)
 unfold stepL
 split
 ·omega
 ·have := addH_len (delH L (p.1.name, next)) ⟨p.1.name, next + p.1.hold, whD S next p⟩
  omega
theorem hldP_ok {S : List Sal} {next : Int} : ∀ (l : List (Deal × Int)) {L : List Hld}, Hls L -> Hls (hldP S next L l) /\ (hldP S next L l).length <= L.length + l.length
 | [], L, ok => ⟨ok, ZnR _⟩
 | p :: l, L, ok => by
  have h1 := hldP_ok (S := S) (next := next) l (step_ok (S := S) (next := next) ok p)
  have h2 := step_len (S := S) (next := next) L p
  refine ⟨h1.1, ?_⟩
  have h3 := h1.2
  rw [List.length_cons]
  show (hldP S next (stepL S next L p) l).length <= _
  omega
def NdD (l : List (Deal × Int)) : Prop := l.Pairwise fun p q => ltB p.1.name q.1.name = true
theorem find_miss {l : List (Deal × Int)} {nm : ByteArray} (h : ∀ p ∈ l, p.1.name ≠ nm) : l.find? (fun p => decide (p.1.name = nm)) = none := List.find?_eq_none.2 fun p hp => by simpa using h p hp
theorem ltB_ne {a b : ByteArray} (h : ltB a b = true) : a ≠ b := fun e => by rw [e, tot_str.irr] at h; cases h
theorem find_P {S : List Sal} {next : Int} : ∀ (l : List (Deal × Int)) {L : List Hld}, Hls L -> NdD l -> (∀ p ∈ l, 1 <= p.1.hold) -> ∀ k : KH, Yap (HL (hldP S next L l)) k = match l.find? (fun p => decide (p.1.name = k.1)) with | some p => finD S next p k (Yap (HL L) k) | none => Yap (HL L) k
 | [], L, ok, _, _, k => rfl
 | p :: l, L, ok, nd, hh, k => by
  have nd1 := List.pairwise_cons.1 nd
  have ih := find_P (S := S) (next := next) l (step_ok (S := S) (next := next) ok p) nd1.2 (fun q hq => hh q (List.mem_cons_of_mem _ hq)) k
  show Yap (HL (hldP S next (stepL S next L p) l)) k = _
  rw [ih, find_step ok (hh p (List.mem_cons_self ..)), List.find?_cons]
  by_cases h : p.1.name = k.1
  ·rw [find_miss (fun q hq e => ltB_ne (nd1.1 q hq) (h.trans e.symm)), if_pos h.symm, decide_eq_true h]
  ·rw [if_neg (fun e => h e.symm), decide_eq_false h]
theorem find_seg {S : List Sal} {next : Int} {H : List Hld} (ok : Hls H) (p : Deal × Int) (k : KH) : Yap (HL (segH S next H p)) k = if k.1 = p.1.name then (if k.2 = next + p.1.hold then (if 0 < cenD S next H p then some (cenD S next H p) else none) else if k.2 = next then none else Yap (HL H) k) else none := by
 obtain ⟨kd, kp⟩ := k
 have hq : outQ next p (p.1.name, next + p.1.hold) = false := by unfold outQ; simp
 have hm : outQ next p (kd, kp) = (decide (kd = p.1.name) && (decide (¬ kp = next) && decide (¬ kp = next + p.1.hold))) := rfl
 unfold segH
 dsimp only
 by_cases hc : 0 < cenD S next H p
 ·rw [if_pos hc, if_pos hc, cen_add (show Hls (outH next H p) from filt_ok ok _), find_out, find_out]
  have ho : (if outQ next p (p.1.name, next + p.1.hold) = true then Yap (HL H) (p.1.name, next + p.1.hold) else none) = none := by rw [hq]; rfl
  show (if ((kd, kp) : KH) = (p.1.name, next + p.1.hold) then some (YbE (· + ·) (if outQ next p (p.1.name, next + p.1.hold) = true then Yap (HL H) (p.1.name, next + p.1.hold) else none) (cenD S next H p)) else _) = _
  rw [ho, hm]
  by_cases h1 : kd = p.1.name
  ·rw [if_pos h1]
   by_cases h2 : kp = next + p.1.hold
   ·rw [if_pos h2, if_pos (by rw [h1, h2])]; rfl
   ·rw [if_neg h2, if_neg (fun e => h2 (congrArg Prod.snd e))]
    by_cases h3 : kp = next <;> simp [h1, h2, h3]
    all_goals (try (intro e; omega))
  ·rw [if_neg h1, if_neg (fun e => h1 (congrArg Prod.fst e))]
   simp [h1]
 ·rw [if_neg hc, if_neg hc, find_out, hm]
  by_cases h1 : kd = p.1.name
  ·rw [if_pos h1]
   by_cases h2 : kp = next + p.1.hold
   ·rw [if_pos h2]; simp [h2]
   ·rw [if_neg h2]
    by_cases h3 : kp = next <;> simp [h1, h2, h3]
    all_goals (try (intro e; omega))
  ·rw [if_neg h1]
   simp [h1]
theorem find_R {S : List Sal} {next : Int} {H : List Hld} (ok : Hls H) : ∀ (l : List (Deal × Int)), NdD l -> ∀ k : KH, Yap (HL (hldR S next H l)) k = match l.find? (fun p => decide (p.1.name = k.1)) with | some p => Yap (HL (segH S next H p)) k | none => none
 | [], _, k => rfl
 | p :: l, nd, k => by
  have nd1 := List.pairwise_cons.1 nd
  have ih := find_R (S := S) (next := next) ok l nd1.2 k
  have e : HL (hldR S next H (p :: l)) = HL (segH S next H p) ++ HL (hldR S next H l) := by unfold hldR HL; rw [List.flatMap_cons, ZmA]
  rw [e, findG_append, List.find?_cons]
  by_cases h : p.1.name = k.1
  ·rw [ih, find_miss (fun q hq e => ltB_ne (nd1.1 q hq) (h.trans e.symm)), decide_eq_true h]
   dsimp only
   split <;> simp_all
  ·rw [find_seg ok, if_neg (fun e => h e.symm), ih, decide_eq_false h]
theorem seg_deal {S : List Sal} {next : Int} {H : List Hld} (ok : Hls H) (p : Deal × Int) : ∀ x ∈ segH S next H p, x.deal = p.1.name := fun x hx => by
 have ok2 : Hls (segH S next H p) := by unfold segH; split; exact addH_ok (filt_ok ok _) _; exact filt_ok ok _
 have h1 := cen_some ok2 hx
 rw [find_seg ok] at h1
 by_cases h : x.key.1 = p.1.name
 ·exact h
 ·rw [if_neg h] at h1; cases h1
theorem hldR_ok {S : List Sal} {next : Int} {H : List Hld} (ok : Hls H) {l : List (Deal × Int)} (nd : NdD l) : Hls (hldR S next H l) := ⟨by
 unfold hldR
 rw [List.pairwise_flatMap]
 refine ⟨fun p _ => by unfold segH; split; exact (addH_ok (filt_ok ok _) _).rise; exact (filt_ok ok _).rise, nd.imp fun {p q} h x hx y hy => ?_⟩
 have e1 := seg_deal ok p x hx
 have e2 := seg_deal ok q y hy
 exact lexL_iff.2 (.inl (by show ltB x.deal y.deal = true; rw [e1, e2]; exact h))⟩
theorem hls_eq {L M : List Hld} (h1 : Hls L) (h2 : Hls M) (h : ∀ k, Yap (HL L) k = Yap (HL M) k) : L = M := by
 have := ri_uniq tot_H (HL_ri h1) (HL_ri h2) (fun x => by rw [YbF ((HL_ri h1).nk tot_H), YbF ((HL_ri h2).nk tot_H), h])
 rw [<- toH_HL L, this, toH_HL]
theorem wh_nn {e r : Int} (hr : 0 <= r) : 0 <= whdV e r := by
 unfold whdV
 split
 ·have := Int.mul_nonneg (show 0 <= e by omega) hr
  omega
 ·omega
theorem held_same {S : List Sal} {next : Int} {H : List Hld} (ok : Hls H) {l : List (Deal × Int)} (nd : NdD l) (hh : ∀ p ∈ l, 1 <= p.1.hold /\ 0 <= p.1.resv) (hc : ∀ x ∈ H, 1 <= x.cents) (hm : ∀ x ∈ H, ∃ p ∈ l, p.1.name = x.deal) : hldP S next H l = hldR S next H l := by
 refine hls_eq (hldP_ok l ok).1 (hldR_ok ok nd) fun k => ?_
 rw [find_P l ok nd (fun p hp => (hh p hp).1) k, find_R ok l nd k]
 cases hf : l.find? (fun p => decide (p.1.name = k.1)) with
 | none =>
  dsimp only
  refine cen_none fun x hx e => ?_
  obtain ⟨p, hp, hn⟩ := hm x hx
  have := List.find?_eq_none.1 hf p hp
  simp only [decide_eq_true_eq] at this
  exact this (by rw [<- e]; exact hn)
 | some p =>
  have hp := List.mem_of_find?_eq_some hf
  have hn := List.find?_some hf
  simp only [decide_eq_true_eq] at hn
  have hhp := hh p hp
  dsimp only
  rw [find_seg ok, if_pos hn.symm]
  unfold finD
  by_cases h1 : k.2 = next
  ·rw [if_pos h1, if_neg (show ¬ k.2 = next + p.1.hold by omega), if_pos h1]
  ·rw [if_neg h1]
   by_cases h2 : k.2 = next + p.1.hold
   ·rw [if_pos h2, if_pos h2]
    have hk : k = keyD next p := by unfold keyD; exact Prod.ext hn.symm h2
    have hw : 0 <= whD S next p := wh_nn hhp.2
    have hcd : cenD S next H p = (Yap (HL H) k).getD 0 + whD S next p := by unfold cenD cenH; rw [hk]
    rw [hcd]
    cases ho : Yap (HL H) k with
    | none =>
     by_cases h3 : whD S next p = 0
     ·rw [if_pos h3]; simp [h3]
     ·rw [if_neg h3]
      have h4 : 0 < (none : Option Int).getD 0 + whD S next p := by show 0 < 0 + _; omega
      rw [if_pos h4]
      show some (whD S next p) = some (0 + _)
      rw [Int.zero_add]
    | some u =>
     have hu : 1 <= u := by
      obtain ⟨y, hy, e⟩ := ZmM.1 ((YbF ((HL_ri ok).nk tot_H) (k, u)).2 ho)
      have := hc y hy
      have e2 : y.cents = u := congrArg Prod.snd e
      omega
     have h4 : 0 < (some u).getD 0 + whD S next p := by show 0 < u + _; omega
     rw [if_pos h4]
     by_cases h3 : whD S next p = 0
     ·rw [if_pos h3]
      show some u = some (u + _)
      rw [h3, Int.add_zero]
     ·rw [if_neg h3]; rfl
   ·rw [if_neg h2, if_neg h2, if_neg h1]
def idxN (names : List ByteArray) (n : ByteArray) : Nat := names.findIdx fun x => decide (x = n)
theorem idxN_lt {names : List ByteArray} {n : ByteArray} (h : n ∈ names) : ∃ hl : idxN names n < names.length, names[idxN names n] = n := by
 have hl : idxN names n < names.length := List.findIdx_lt_length_of_exists ⟨n, h, decide_eq_true rfl⟩
 exact ⟨hl, dcT (List.findIdx_getElem (w := hl))⟩
theorem hls_len {H : List Hld} (ok : Hls H) (names : List ByteArray) (hm : ∀ h ∈ H, h.deal ∈ names /\ 0 <= h.period /\ h.period <= 2500) : H.length <= names.length * 2501 := by
 have h1 := nd_len (n := names.length * 2501) (l := H.map fun h => idxN names h.deal * 2501 + h.period.toNat) (by
  rw [List.nodup_iff_pairwise_ne, List.pairwise_map]
  refine (List.Pairwise.and_mem.1 ok.rise).imp fun {a b} ⟨ha, hb, hab⟩ e => ?_
  have hna := hm a ha
  have hnb := hm b hb
  have e1 : idxN names a.deal = idxN names b.deal := by omega
  have e2 : a.period = b.period := by omega
  obtain ⟨h3, h5⟩ := idxN_lt hna.1
  obtain ⟨h4, h6⟩ := idxN_lt hnb.1
  have e3 : a.deal = b.deal := by
   rw [<- h5, <- h6]
   congr 1
  have e4 : a.key = b.key := Prod.ext e3 e2
  rw [e4, tot_H.irr] at hab
  cases hab) (fun i hi => by
  obtain ⟨h, hh, rfl⟩ := ZmM.1 hi
  have hn := hm h hh
  obtain ⟨h3, _⟩ := idxN_lt hn.1
  have h4 : idxN names h.deal * 2501 + 2501 <= names.length * 2501 := by
   have := Nat.mul_le_mul_right 2501 (show idxN names h.deal + 1 <= names.length by omega)
   omega
  omega)
 rwa [ZlM] at h1
def JoinQ (P : Prop) (e2 : Env) (σ2 : Obs) (Q : Post) : Post := fun ex e σ => match ex with
 | .normal => P /\ Sub e σ e2 σ2
 | .ret => Q .ret e σ
 | .exit id => Q (.exit id) e σ
 | .goto l => Q (.goto l) e σ
 | .panic c => Q (.panic c) e σ
 | .outgrown => Q .outgrown e σ
theorem AWP.seqJ {cx : Cx} {x y : Code} {e : Env} {σ : Obs} {Q : Post} (P : Prop) (e2 : Env) (σ2 : Obs) (h1 : AWP cx x e σ (JoinQ P e2 σ2 Q)) (h2 : P -> AWP cx y e2 σ2 Q) : AWP cx (.seq x y) e σ Q := fun a w hr => by
 refine wp_seq (wp_mono (h1 a w hr) ?_)
 rintro ex a' w' ⟨e', σ', hq, hr'⟩
 cases ex with
 | normal => exact h2 hq.1 a' w' (hq.2 cx a' w' hr')
 | ret => exact ⟨e', σ', hq, hr'⟩
 | exit id => exact ⟨e', σ', hq, hr'⟩
 | goto l => exact ⟨e', σ', hq, hr'⟩
 | panic c => exact ⟨e', σ', hq, hr'⟩
 | outgrown => exact ⟨e', σ', hq, hr'⟩
end
section
open Go.RowKit Go.Shelf Go.Lib
end
end Go.Proofs.YtcfamaddnmnaeaaGreatDoor
namespace Go.Proofs
open Go.Shelf
end Go.Proofs
namespace Go.Proofs.YtcfamaddnmnaeaaGreatDoor
section
open Go.RowKit Go.Shelf Go.Lib
section
variable {cx : Cx} {ops : Array Oper} {o : Oper} {rest : List Oper} {e : Env} {σ : Obs} {Q : Post}
end
def StaysAt (g : Nat) (T : World -> Prop) : Prop := (∀ w, T w -> g < w.heap.size) /\ ∀ w w', w'.heap[g]? = w.heap[g]? -> T w -> T w'
structure TC (g : Nat) (T : World -> Prop) (cx : Cx) : Prop where
 at_ : StaysAt g T
 so : T cx.w0
 fr : ¬ cx.fr g
theorem TC.of {g : Nat} {T : World -> Prop} {P : Program} {n B : Nat} {w0 : World} {F0 : Nat -> Prop} {fx : Nat -> Bool} {ρ0 : Nat -> Value} (h : StaysAt g T) (hT : T w0) : TC g T ⟨P, n, B, w0, F0, fun b => w0.heap.size <= b, fx, ρ0⟩ := ⟨h, hT, fun k => by have := h.1 _ hT; omega⟩
section
variable {cx : Cx} {ops : Array Oper} {o : Oper} {rest : List Oper} {e : Env} {σ : Obs} {Q : Post}
end
end
section
open Go.RowKit
section
variable {cx : Cx} {ops : Array Oper} {o : Oper} {rest : List Oper} {e : Env} {σ : Obs} {Q : Post}
end
section
variable {cx : Cx} {ops : Array Oper} {o om o1 o2 : Oper} {rest : List Oper} {e : Env} {σ : Obs} {Q : Post}
end
def RetCT (b t1 size : Nat) (d0 d1 : D) (σ' : Obs) : Post := fun ex e σ => match ex with
 | .ret => ((∃ ds, e b = .d (.fp ds) /\ ds.length = size /\ Le (.agg ds) d0) /\ ∃ d, e t1 = .d d /\ Le d d1) /\ AllIn σ σ'
 | .normal => ((∃ ds, e b = .d (.fp ds) /\ ds.length = size /\ Le (.agg ds) d0) /\ ∃ d, e t1 = .d d /\ Le d d1) /\ AllIn σ σ'
 | _ => False
theorem xcall_ofCT {P : Program} {f : FuncId} {fn : Func} {c : Code} {n : Nat} {ss : List S} {σ σ' : Obs} {chg : Nat -> Bool} {d0 d1 : D} (hf : P.funcs[f]? = some fn) (hb : fn.body = some c) (hn : (fn.name == "runtime.NumGoroutine") = false) (hN : fn.ntmps = n)
 (b t t1 size : Nat) (hr : fn.results = #[.cell b t, .tmp t1]) (hle' : Nat.ble ss.length n = true) (hT : AggT P t size)
 (h : ∀ B w0 F0 fr ρ0, AWP ⟨P, n, B, w0, F0, fr, fun i => !(chg i), ρ0⟩ c (Env.argsS 0 ss) σ (RetCT b t1 size d0 d1 σ')) : XCall P f ss σ σ' chg (.tup [d0, d1]) := by
 have hle : ss.length <= n := ZnB hle'
 refine ⟨Enters.of hf hn (by rw [hb]; rfl), fun F ρ B w vs hF hB hσ hv => ?_⟩
 refine calls_of_wp hf hb ?_
 refine wp_mono (h _ _ _ _ _ _ _ (args_R hN hle hF hB hσ hv)) ?_
 rintro ex a w' ⟨e', σe, hq, F', ρ', hr'⟩
 have hends : ((∃ ds, e' b = .d (.fp ds) /\ ds.length = size /\ Le (.agg ds) d0) /\ ∃ d, e' t1 = .d d /\ Le d d1) /\ AllIn σe σ' -> bodyPost P fn (fun e w' => ∃ v F' ρ', e = .returned v /\ Rep F' w' v (.tup [d0, d1]) /\ XEnd B F ρ w σ F' ρ' w' σ' chg) .ret a w' := by
  rintro ⟨⟨⟨ds, hb1, hb2, hb3⟩, d, ht1, ht2⟩, hin⟩
  have hin := hin.mem
  have r0 := hr'.env b
  have r1 := hr'.env t1
  rw [hb1] at r0
  rw [ht1] at r1
  have h2 := Yao r0
  obtain ⟨ad, hv⟩ := rep_fp h2
  rw [hv] at h2
  cases h2 with
  | fp _ _ vs hF' hcell hone hrep =>
  have hl' : (loadCells ad ((List.range ds.length).map vs).length).run P w' = .ok ((List.range ds.length).map vs).toArray w' := run_loadCells_list w' ad _ (fun j v hj => by
   have hlt := (ZgS.1 hj).1
   simp at hlt
   rw [hcell j hlt, <- hj]
   simp [hlt])
  simp only [ZlM, List.length_range, hb2] at hl'
  have hagg : Rep F' w' (.agg ((List.range size).map vs).toArray) (.agg ds) := .agg _ _ (by simp; omega) (fun i h1 => by simp at h1 ⊢; exact hone i (by omega)) (fun i h1 h2 => by simp at h1 ⊢; exact hrep i h2)
  have hres : (results fn a.tmps).run P w' = .ok (.tuple #[.agg ((List.range size).map vs).toArray, a.tmps.getD t1 undef]) w' := by
   unfold results
   rw [hr, Sem.run_bind]
   have h2 : (Array.mapM (fun r => match r with | ResultVar.tmp t => pure (a.tmps.getD t undef) | ResultVar.cell b t => do loadVar t (<- asAddr (a.tmps.getD b undef))) [ResultVar.cell b t, ResultVar.tmp t1].toArray : Sem (Array Value)).run P w' = .ok [.agg ((List.range size).map vs).toArray, a.tmps.getD t1 undef].toArray w' := by
    rw [List.mapM_toArray, Sem.run_map]
    simp only [List.mapM_cons, List.mapM_nil, hv, asAddr, Sem.run_bind, Sem.run_pure, Result.andThen_ok, loadVar, hT.agg w', hT.size w', if_true, hl']
   exact (congrArg (fun r => Result.andThen r _) h2).trans J
  exact ⟨hr'.defers, _, hres, _, F', ρ', J, .tup _ _ J (fun i h1 h2 => match i, h1, h2 with
   | 0, _, _ => hb3 _ _ _ hagg
   | 1, _, _ => ht2 _ _ _ (Yao r1)), hr'.base, hr'.new, hr'.lt, hr'.below, hr'.obs.sub hin, fun p hp => hr'.kown p (hin p hp), fun i hi => hr'.fixed i (by show (!(chg i)) = true; rw [hi]; rfl)⟩
 cases ex with
 | ret => exact hends hq
 | normal => exact hends hq
 | exit id => exact hq.elim
 | goto l => exact hq.elim
 | panic c => exact hq.elim
 | outgrown => exact hq.elim
theorem Ybe {α : Type} {a f g h : α} (hm : a ∈ [f, g, h]) : a = f \/ a = g \/ a = h := by simpa using hm
theorem FrOk.three {cx : Cx} {σ : Obs} {f g h : Fr} (h1 : f.s0.kill f.id = .d .any) (h2 : f.s0 ≠ .d .any) (h3 : Obs.fresh f.id σ = true) (h4 : Obs.kill f.id σ = σ) (h5 : cx.free f.id = true)
 (k1 : g.s0.kill g.id = .d .any) (k2 : g.s0 ≠ .d .any) (k3 : Obs.fresh g.id σ = true) (k4 : Obs.kill g.id σ = σ) (k5 : cx.free g.id = true)
 (l1 : h.s0.kill h.id = .d .any) (l2 : h.s0 ≠ .d .any) (l3 : Obs.fresh h.id σ = true) (l4 : Obs.kill h.id σ = σ) (l5 : cx.free h.id = true)
 (i1 : f.id ≠ g.id) (i2 : f.id ≠ h.id) (i3 : g.id ≠ h.id) (t1 : f.dst ≠ g.dst) (t2 : f.dst ≠ h.dst) (t3 : g.dst ≠ h.dst)
 (x1 : g.s0.kill f.id = g.s0 /\ g.ob.kill f.id = g.ob) (x2 : h.s0.kill f.id = h.s0 /\ h.ob.kill f.id = h.ob) (x3 : f.s0.kill g.id = f.s0 /\ f.ob.kill g.id = f.ob) (x4 : h.s0.kill g.id = h.s0 /\ h.ob.kill g.id = h.ob)
 (x5 : f.s0.kill h.id = f.s0 /\ f.ob.kill h.id = f.ob) (x6 : g.s0.kill h.id = g.s0 /\ g.ob.kill h.id = g.ob) : FrOk cx [f, g, h] σ where
 uid := fun a ha b hb he => by
  rcases Ybe ha with rfl | rfl | rfl <;> rcases Ybe hb with rfl | rfl | rfl <;> first | rfl | exact absurd he i1 | exact absurd he.symm i1 | exact absurd he i2 | exact absurd he.symm i2 | exact absurd he i3 | exact absurd he.symm i3
 udst := fun a ha b hb he => by
  rcases Ybe ha with rfl | rfl | rfl <;> rcases Ybe hb with rfl | rfl | rfl <;> first | rfl | exact absurd he t1 | exact absurd he.symm t1 | exact absurd he t2 | exact absurd he.symm t2 | exact absurd he t3 | exact absurd he.symm t3
 own := fun a ha => by rcases Ybe ha with rfl | rfl | rfl; exact ⟨h1, h2⟩; exact ⟨k1, k2⟩; exact ⟨l1, l2⟩
 other := fun a ha b hb hne => by
  rcases Ybe ha with rfl | rfl | rfl <;> rcases Ybe hb with rfl | rfl | rfl <;> first | exact absurd rfl hne | exact x1 | exact x2 | exact x3 | exact x4 | exact x5 | exact x6
 fresh := fun a ha => by rcases Ybe ha with rfl | rfl | rfl; exact h3; exact k3; exact l3
 kill := fun a ha => by rcases Ybe ha with rfl | rfl | rfl; exact h4; exact k4; exact l4
 free := fun a ha => by rcases Ybe ha with rfl | rfl | rfl; exact h5; exact k5; exact l5
section
variable {cx : Cx} {ops : Array Oper} {o : Oper} {rest : List Oper} {e : Env} {σ : Obs} {Q : Post}
theorem sets_app {α : Type} : ∀ (xs pre post : List α) (k : Nat), xs.length <= post.length -> k = pre.length -> ((xs.zipIdx k).foldl (fun (cs : Array α) p => cs.setIfInBounds p.2 p.1) (pre ++ post).toArray) = (pre ++ xs ++ post.drop xs.length).toArray
 | [], pre, post, k, _, _ => by simp
 | x :: xs, pre, [], k, h, _ => by simp at h
 | x :: xs, pre, y :: post, k, h, hk => by
  rw [List.zipIdx_cons, List.foldl_cons]
  have e1 : (pre ++ y :: post).toArray.setIfInBounds k x = ((pre ++ [x]) ++ post).toArray := by
   subst hk
   rw [List.setIfInBounds_toArray, List.set_append_right _ _ (ZnR _), Nat.sub_self]
   simp
  dsimp only
  rw [e1, sets_app xs (pre ++ [x]) post (k + 1) (by simpa using h) (by simp [hk])]
  simp
theorem AOps.buildV {t dst vid n : Nat} {x0 x1 : Operand} {ss : List S} {d : D} {places : Nat -> Option (Nat × Nat)} {zs : List Value} {z : Value} (id : Nat) (hg : o.guard = none) (ht : o.dst = some dst) (hdn : Nat.blt dst cx.N = true) (ho : o.op = .build t #[(0, x0), (1, x1)]) (T : StructT cx.P t places zs)
 (hp0 : places 0 = some (0, n)) (hp1 : places 1 = some (n, 1)) (hz : zs.drop (n + 1) = [z]) (hzl : zs.length = n + 2) (hzo : z.oneCell' = true) (hsl : ss.length = n) (e0 : e.ev x0 = .own vid) (hm : (vid, Ob.val ss) ∈ σ) (e1 : e.ev x1 = .d d) (h1 : d.one = true) (h2 : d.parts = [d]) (hid : Obs.fresh id σ = true)
 (k : AOps cx ops rest ((e.kill id).put (some dst) (.own id)) ((id, .val ((ss ++ [S.d d, S.d (.v z)]).map (S.kill id))) :: Obs.kill id σ) Q) (hfx : cx.free id = true := by rfl) : AOps cx ops (o :: rest) e σ Q := by
 intro a w ⟨F, ρ, hr⟩
 have r0' := YaC (e := e) (x := x0) (a := a) (fun t _ => hr.env t)
 have r1' := YaC (e := e) (x := x1) (a := a) (fun t _ => hr.env t)
 rw [e0] at r0'
 rw [e1] at r1'
 obtain ⟨cs, hv, hl, hc⟩ := val_at hr.obs hm r0'
 obtain ⟨c1, a1, b1, r1⟩ := (OneS.d (σ := σ) h1 h2).cell hr.obs r1'
 refine wpList_plain hg fun K hK => ?_
 unfold Oper.wp execOp
 simp only [ho, Sem.run_bind]
 rw [T.run w]
 have hfill : Instr.fill places zs.toArray (Array.map (fun p => (p.1, a.eval p.2)) #[(0, x0), (1, x1)]).toList = some (cs ++ [c1, z]).toArray := by
  have hcn : cs.length = n := by omega
  have q1 : (cs.zipIdx.foldl (fun (a : Array Value) p => a.setIfInBounds (0 + p.2) p.1) zs.toArray) = (cs ++ zs.drop n).toArray := by
   have := sets_app cs [] zs 0 (by omega) rfl
   simp only [Nat.zero_add]
   simpa [hcn] using this
  have q2 : zs.drop n = [zs[n]'(by omega), z] := by rw [List.drop_eq_getElem_cons (by omega), hz]
  have q3 : (cs ++ [zs[n]'(by omega), z]).toArray.setIfInBounds (n + 0) c1 = (cs ++ [c1, z]).toArray := by
   rw [List.setIfInBounds_toArray, List.set_append_right _ _ (by omega)]
   simp [hcn]
  have q4 : (Value.agg cs.toArray).cells.size = n := by simp [Value.cells, hcn]
  simp only [Array.toList_map, List.map_cons, List.map_nil, Instr.fill, hp0, hp1, hv, a1]
  rw [if_neg (by rw [q4]; simp [hzl])]
  have q5 : (Value.agg cs.toArray).cells = cs.toArray := rfl
  rw [q5]
  have q6 : (cs.toArray.zipIdx.foldl (fun (a : Array Value) p => a.setIfInBounds (0 + p.2) p.1) zs.toArray) = (cs ++ zs.drop n).toArray := by
   rw [<- q1, <- Array.foldl_toList, Array.toList_zipIdx]
  rw [q6, q2]
  simp [hcn]
 rw [hfill]
 simp only [Result.andThen_ok, Sem.run_pure]
 obtain ⟨ρ', h8⟩ := hr.newObF (id := id) (dst := dst) (ob := .val ((ss ++ [S.d d, S.d (.v z)]).map (S.kill id))) (v := .agg (cs ++ [c1, z]).toArray) (Obs.fresh_spec hid) (by simpa [Nat.blt_eq] using hdn) (Ext.refl hr.lt) (by
  refine ⟨cs ++ [c1, z], by simp, by simp [hl], fun m hm hm' => ?_⟩
  simp only [ZgP]
  by_cases h5 : m < cs.length
  ·rw [ZgL h5, ZgL (by omega)]
   exact ⟨(hc m h5 (by omega)).1, (hc m h5 (by omega)).2.kill id (fun i hi => by simp [hi])⟩
  ·simp at hm
   rcases (show m = cs.length \/ m = cs.length + 1 by omega) with rfl | rfl
   ·rw [ZgR (by omega), ZgR (by omega)]
    simp only [hl, Nat.sub_self, List.getElem_cons_zero]
    exact ⟨b1, r1.kill id (fun i hi => by simp [hi])⟩
   ·rw [ZgR (by omega), ZgR (by omega)]
    have e5 : cs.length + 1 - cs.length = 1 := by omega
    have e6 : cs.length + 1 - ss.length = 1 := by omega
    simp only [e5, e6, List.getElem_cons_succ, List.getElem_cons_zero]
    exact ⟨hzo, .d (.v _)⟩) (fun g hg => by simp [blk] at hg) hfx
 have := k _ _ ⟨F, ρ', h8⟩
 rw [<- ht] at this
 exact hK _ _ this
end
namespace Ty
theorem Ycb : AggT Tryz.prog 114 5 := .of (by kernel_rfl)
theorem bu_114 : StructT Tryz.prog 114 (fun i => (#[(0, 1), (1, 1), (2, 1), (3, 1), (4, 1)] : Array (Nat × Nat))[i]?) [(.string ⟨#[]⟩), (.int .i64 0), (.int .i64 0), (.int .i64 0), (.int .i64 0)] := .of (by kernel_rfl) (by kernel_rfl) (by decide)
theorem et_56 : ElemTy Tryz.prog 56 114 5 48 (.agg #[(.string ⟨#[]⟩), (.int .i64 0), (.int .i64 0), (.int .i64 0), (.int .i64 0)]) := ⟨by kernel_rfl, by kernel_rfl, by kernel_rfl, by decide⟩
theorem fo_108_1 : Yaf Tryz.prog 108 1 = some 7 := by kernel_rfl
theorem fo_108_2 : Yaf Tryz.prog 108 2 = some 8 := by kernel_rfl
theorem fo_114_1 : Yaf Tryz.prog 114 1 = some 1 := by kernel_rfl
theorem fo_114_2 : Yaf Tryz.prog 114 2 = some 2 := by kernel_rfl
theorem fo_114_3 : Yaf Tryz.prog 114 3 = some 3 := by kernel_rfl
theorem fo_114_4 : Yaf Tryz.prog 114 4 = some 4 := by kernel_rfl
theorem sc_56 : Scal Tryz.prog 56 := .of (by kernel_rfl)
theorem sc_97 : Scal Tryz.prog 97 := .of (by kernel_rfl)
theorem sz_114 : ∀ w, (sizeOf 114).run Tryz.prog w = .ok 5 w := SizeT.of (by kernel_rfl)
theorem sz_56 : ∀ w, (sizeOf 56).run Tryz.prog w = .ok 1 w := SizeT.of (by kernel_rfl)
theorem zt_114 : (Tryz.prog.info? 114).bind (·.zero) = some (.agg #[(.string ⟨#[]⟩), (.int .i64 0), (.int .i64 0), (.int .i64 0), (.int .i64 0)]) := by kernel_rfl
end Ty
open Ty
open Go.Lib
def dlF (S : List Sal) (next : Int) (H : List Hld) (p : Deal × Int) : Int := if 1000000000000 < basV p.1 next S then 2 else if 1000000000000 < cenD S next H p then 2 else 0
def isT (T : List Int) : Nat × Ob := (501, .row 3 1 (T.map intD))
def isR (R : List Rw) : Nat × Ob := (504, .row 114 5 (R.map Rw.ds))
theorem obs_hd {i : Nat} {o o' : Ob} {τ : Obs} (h : o = o') : ∀ p ∈ (i, o') :: τ, p ∈ (i, o) :: τ := fun p hp => by rw [h]; exact hp
theorem in4 {σ : Obs} {p q r s : Nat × Ob} (h1 : p ∈ σ) (h2 : q ∈ σ) (h3 : r ∈ σ) (h4 : s ∈ σ) : ∀ x ∈ [p, q, r, s], x ∈ σ := fun x hx => by
 simp only [List.mem_cons, List.not_mem_nil, or_false] at hx
 rcases hx with rfl | rfl | rfl | rfl
 ·exact h1
 ·exact h2
 ·exact h3
 ·exact h4
theorem in5 {σ : Obs} {p q r s t : Nat × Ob} (h1 : p ∈ σ) (h2 : q ∈ σ) (h3 : r ∈ σ) (h4 : s ∈ σ) (h5 : t ∈ σ) : ∀ x ∈ [p, q, r, s, t], x ∈ σ := fun x hx => by
 rcases List.mem_cons.1 hx with rfl | hx
 ·exact h1
 ·exact in4 h2 h3 h4 h5 x hx
theorem FrOk.nil {cx : Cx} {σ : Obs} : FrOk cx [] σ := ⟨fun f h => by simp at h, fun f h => by simp at h, fun f h => by simp at h, fun f h => by simp at h, fun f h => by simp at h, fun f h => by simp at h, fun f h => by simp at h⟩
theorem cen_del {L : List Hld} {k0 k : KH} (h : k ≠ k0) : cenH (delH L k0) k = cenH L k := by unfold cenH; rw [find_del, if_neg h]
theorem cen_key {nm : ByteArray} {next hold : Int} (h : 1 <= hold) : ((nm, next + hold) : KH) ≠ (nm, next) := fun e => by have := congrArg Prod.snd e; dsimp only at this; omega
theorem c_deal (c : Ctr) (next : Int) (S : List Sal) (H L : List Hld) (T : List Int) (R : List Rw) (i : Nat) (d : Deal) (st : Int) (hd : c.deals[i]? = some d) (hT : T[i]? = some st) (okS : SalsOk S) (okT : TrsOk d.tiers) (okL : Hls L) (hl : L.length <= 190000) (hcl : ∀ q : Int, cenH L (d.name, q) = cenH H (d.name, q)) (hc : ∀ q : Int, 0 <= cenH H (d.name, q) /\ cenH H (d.name, q) <= 1000000000000) (hst : 0 <= st /\ st <= 1000000000000) (hn : 0 <= next /\ next <= 2400) (hdd : (0 <= d.resv /\ d.resv <= 1000) /\ 1 <= d.hold /\ d.hold <= 100) (hR : R.length <= 40) : XCall Tryz.prog 45 [.ptr 600 0, .d (.v (.int .i64 (i : Int)))] [isC c next S, isT T, isH L, isR R] [isC c next S, isT (if 1000000000000 < basV d next S then T else T.set i (nowV S next d)), isH (if 1000000000000 < basV d next S then L else stepL S next L (d, st)), isR (if 1000000000000 < basV d next S then R else R ++ [rwD S next H (d, st)])] (fun i => Nat.beq i 501 || Nat.beq i 502 || Nat.beq i 504 || Nat.beq i 901 || Nat.ble 1000 i) (.v (.int .i64 (dlF S next H (d, st)))) := by
 refine xcall_of (n := 107) (ds' := [.v (.int .i64 (dlF S next H (d, st)))]) Tryz.func45 J (by kernel_rfl) J [4] J J ?_
 intro B w0 F0 fr ρ0
 have hTd : (T.map intD)[i]? = some (intD st) := by rw [List.getElem?_map, hT]; rfl
 have hTl : i < (T.map intD).length := by rw [ZlM]; exact (ZgS.1 hT).1
 have hDd : (c.deals.map Deal.ds)[i]? = some d.ds := by rw [List.getElem?_map, hd]; rfl
 have hbr : 0 <= basV d next S /\ basV d next S <= 30000000000000 * (S.length : Int) := Yca (d := d) (p := next) okS S.length (ZnR _)
 have hbl := okS.len
 refine .sr (.aN ?_)
 refine .sr (.sA (.moveP J J) ?_)
 refine .sA (.nilCheckP J J) (.sA (.fieldAddrP J Yav J) (.sA (.fieldAddrP J Yay J) (.sA (.fieldAddrP J YaE J) (.sA (.loadP J YbI J (.head _) J) ?_))))
 refine .mA ?_
 refine .sA (.indexAddr J et_33 J J i J hDd J) (.sA (.loadAgg J ag_63 J J) ?_)
 refine .alloc 1001 J J J J zt_63 J J J ?_
 refine .store J J J sz_63 J (.head _) J J J (ZnB J) ?_
 refine .freezeCells 5 (ds := d.ds) J (.head _) (.nil ?_)
 refine .seq (.draw (by kernel_rfl) (by kernel_rfl) ?_)
 refine .sA (.loadAgg J ag_63 J J) (.sA (.moveP J J) (.sA (.nilCheckP J J) (.sA (.fieldAddrP J fo_108_1 J) (.sA (.loadP J sc_97 J (.head _) J) (.sA (.moveP J J) ?_)))))
 refine .sA (.nilCheckP J J) (.sA (.fieldAddrP J Yav J) (.sA (.fieldAddrP J YaB J) (.sA (.loadP J sc_3 J (.head _) J) (.sA (.call J (.cons (.rfl' J) (.cons (.rfl' J) (.cons (.rfl' J) .nil))) (c_pBase d S next okS)) (.sA (.assignD J J) ?_)))))
 refine .nil ?_
 refine .seq (.sr (.mA ?_))
 refine .sA (.gtr J J J) (.nil ?_)
 refine .cT J (fun h1 => ?_) fun h1 => ?_
 ·have hB : 1000000000000 < basV d next S := h1
  have HF : dlF S next H (d, st) = 2 := if_pos hB
  rw [HF]
  simp only [if_pos hB]
  refine .sr (.aN ?_)
  refine .ret ?_
  refine ⟨⟨RetDX.eq J ?_, trivial⟩, ⟨Yac (.head _) ?_, Yac (.tail _ (.head _)) ?_, Yac (.tail _ (.tail _ (.head _))) ?_, Yac (.tail _ (.tail _ (.tail _ (.head _)))) ?_, trivial⟩⟩
  all_goals (first | rfl | rw [HF] | (rw [ZmA]; rfl))
 have hB0 : ¬ 1000000000000 < basV d next S := h1
 have hB : basV d next S <= 1000000000000 := Int.not_lt.1 hB0
 simp only [if_neg hB0]
 have hE : 0 <= ernV d.tiers (basV d next S) /\ ernV d.tiers (basV d next S) <= basV d next S := ernV_le okT hbr.1 hB
 refine .skip (.sr (.sA (.fieldAddr J Yci J) ?_))
 refine .sA (.load J sc_61 J) ?_
 refine .mA ?_
 refine .sA (.call J (.cons (.rfl' J) (.cons (.rfl' J) .nil)) (c_pErn d.tiers (basV d next S) okT ⟨hbr.1, hB⟩)) ?_
 refine .aN ?_
 refine .seq (.drawFresh 14 [⟨8, 901, .ptr 901 0, .cells [.d (.v (.string ⟨#[]⟩)), .d (.v (.int .i64 0)), .d (.v (.int .i64 0)), .d (.v (.int .i64 0)), .d (.v (.int .i64 0))]⟩] (FrOk.one rfl (by simp) rfl rfl rfl) (by kernel_rfl) (by kernel_rfl) (by kernel_rfl) (by kernel_rfl) ?_)
 refine .step J J J (.fieldAddr J YaZ J) ?_
 refine .step J J J (.load J sc_9 J) ?_
 refine .step J J J (.moveD J J) ?_
 refine .step J J J (.moveP J J) ?_
 refine .step J J J (.nilCheckP J J) ?_
 refine .step J J J (.fieldAddrP J Yav J) ?_
 refine .step J J J (.fieldAddrP J Ybh J) ?_
 refine .step J J J (.loadP J YaO J (.head _) J) ?_
 refine .step J J J (.moveD J J) ?_
 refine .step J J J (.indexOwn J et_37 J J (.tail _ (.head _)) i J hTl) ?_
 refine .step J J J (.loadRow J sc_3 J (.tail _ (.head _)) i 0 J hTd J) ?_
 refine .step J J J (.sub64 J J J) ?_
 refine .step J J J (.build J bu_114 (.cons J J (.cons J J .nil)) J) ?_
 refine .alloc _ (.head _) J J J J J zt_114 J J J J ?_
 refine .nil ⟨J, trivial⟩ ?_
 refine .store J J J sz_114 J (.head _) J J J (ZnB J) (.nil ?_)
 refine .seqJ (0 <= (whD S next (d, st)) /\ (whD S next (d, st)) <= 20000000000000000) (Env.of [(0, .ptr 600 0), (1, .iv i), (5, .d (.fp d.ds)), (7, .iv (nowV S next d)), (8, .ptr 901 0)]) [(901, .cells [.d (.v (.string d.name)), .iv (nowV S next d - st), .iv (whD S next (d, st)), .d (.v (.int .i64 0)), .d (.v (.int .i64 0))]), isC c next S, isT T, isH L, isR R] ?_ (fun hw => ?_)
 ·skip
  refine .sr (.sA (.fieldAddrP J fo_114_1 J) ?_)
  refine .sA (.loadP J sc_3 J (.head _) J) ?_
  refine .sA (.gtr J J J) (.nil ?_)
  refine .cT J (fun h2 => ?_) fun h2 => ?_
  ·have hp : 0 < nowV S next d - st := h2
   have hnv : nowV S next d = ernV d.tiers (basV d next S) := rfl
   have hm1 : 0 <= (ernV d.tiers (basV d next S) - st) * d.resv := Int.mul_nonneg (by omega) hdd.1.1
   have hm2 : (ernV d.tiers (basV d next S) - st) * d.resv <= 1000000000000 * 1000 := Int.mul_le_mul (by omega) hdd.1.2 hdd.1.1 (by omega)
   have HW : (whD S next (d, st)) = (ernV d.tiers (basV d next S) - st) * d.resv / 1000 := if_pos hp
   refine .region (.sA (.fieldAddrP J fo_114_1 J) ?_)
   refine .sA (.loadP J sc_3 J (.head _) J) (.sA (.fieldAddr J fo_63_7 J) (.sA (.load J sc_3 J) ?_))
   refine .sA (.mul64 J J J) ?_
   refine .sA (.quo64 J J J (by omega) (by omega) (by omega)) ?_
   refine .sA (.fieldAddrP J fo_114_2 J) ?_
   refine .store J J J sz_3 J (.head _) J J J (ZnB J) (.nil ?_)
   refine ⟨?_, Sub.less ⟨U, U, U, U, U, trivial⟩ (obs_hd (by rw [HW]; first | done | rfl))⟩
   rw [HW]; omega
  have hp : ¬ 0 < nowV S next d - st := h2
  have HW : (whD S next (d, st)) = 0 := if_neg hp
  refine .skip ?_
  refine ⟨?_, Sub.less ⟨U, U, U, U, U, trivial⟩ (obs_hd (by rw [HW]; first | done | rfl))⟩
  rw [HW]; omega
 refine .sr (.sA (.moveP J J) ?_)
 refine .sA (.nilCheckP J J) (.sA (.fieldAddrP J Yav J) (.sA (.fieldAddrP J Ybh J) (.sA (.loadP J YaO J (.tail _ (.head _)) J) ?_)))
 refine .mA ?_
 refine .mA ?_
 refine .sA (.indexOwn J et_37 J J (.tail _ (.tail _ (.head _))) i J hTl) ?_
 refine .storeRow J J J sz_3 J (.tail _ (.tail _ (.head _))) J J J i 0 J hTd (ZnB J) (.nil ?_)
 refine .sr (.sA (.moveP J J) ?_)
 refine .sA (.fieldAddr J YaZ J) (.sA (.load J sc_9 J) ?_)
 -- writes 600 502
 refine .callX rfl rfl rfl (.cons U (.cons U .nil)) (c_rel c next S L d.name okL (by omega)) ⟨(.tail _ (.head _)), (.tail _ (.tail _ (.tail _ (.head _)))), trivial⟩ rfl rfl (fun i h => by have h : Nat.beq i 502 = true := h; show (!(Nat.beq i 501 || Nat.beq i 502 || Nat.beq i 504 || Nat.beq i 901 || Nat.ble 1000 i)) = false; rw [h]; simp) ?_
 rw [hcl]
 refine .sA (.fieldAddrP J fo_114_3 J) ?_
 refine .store J J J sz_3 J (.tail _ (.tail _ (.head _))) J J J (ZnB J) (.nil ?_)
 refine .seqJ (True) (Env.of [(0, .ptr 600 0), (1, .iv i), (5, .d (.fp d.ds)), (8, .ptr 901 0)]) [(901, .cells [.d (.v (.string d.name)), .iv (nowV S next d - st), .iv (whD S next (d, st)), .iv (cenH H (d.name, next)), .iv (if next = d.frm then d.adv else 0)]), isC c next S, isT (T.set i (nowV S next d)), isH (delH L (d.name, next)), isR R] ?_ (fun _ => ?_)
 ·skip
  refine .seq (.draw (by kernel_rfl) (by kernel_rfl) ?_)
  refine .sA (.moveP J J) (.sA (.nilCheckP J J) (.sA (.fieldAddrP J Yav J) (.sA (.fieldAddrP J YaB J) (.sA (.loadP J sc_3 J (.head _) J) (.sA (.fieldAddr J Ycj J) ?_)))))
  refine .sA (.load J sc_3 J) (.sA (.eql J J J) ?_)
  refine .nil ?_
  refine .cT J (fun h3 => ?_) fun h3 => ?_
  ·have HA : (if next = d.frm then d.adv else 0) = d.adv := if_pos h3
   refine .region (.sA (.fieldAddr J fo_63_6 J) ?_)
   refine .sA (.load J sc_3 J) (.sA (.fieldAddrP J fo_114_4 J) ?_)
   refine .store J J J sz_3 J (.tail _ (.tail _ (.head _))) J J J (ZnB J) (.nil ?_)
   refine ⟨?_, Sub.less ⟨U, U, U, U, trivial⟩ (in5 (Yac (.tail _ (.tail _ (.head _))) (by rw [HA]; first | done | rfl)) (.head _) (Yac (.tail _ (.tail _ (.tail _ (.head _)))) (by rw [List.map_set]; rfl)) (.tail _ (.head _)) (.tail _ (.tail _ (.tail _ (.tail _ (.head _))))))⟩
   trivial
  have HA : (if next = d.frm then d.adv else 0) = 0 := if_neg h3
  refine .skip ?_
  refine ⟨?_, Sub.less ⟨U, U, U, U, trivial⟩ (in5 (Yac (.tail _ (.tail _ (.head _))) (by rw [HA]; first | done | rfl)) (.head _) (Yac (.tail _ (.tail _ (.tail _ (.head _)))) (by rw [List.map_set]; rfl)) (.tail _ (.head _)) (.tail _ (.tail _ (.tail _ (.tail _ (.head _))))))⟩
  trivial
 refine .seq (.drawFreshL 7 [0] [] FrOk.nil (by kernel_rfl) (by kernel_rfl) (by kernel_rfl) (by kernel_rfl) (by kernel_rfl) ?_)
 refine .step J J J (.moveP J J) ?_ (hs := trivial)
 refine .step J J J (.moveP J J) ?_ (hs := trivial)
 refine .step J J J (.nilCheckP J J) ?_ (hs := trivial)
 refine .step J J J (.fieldAddrP J fo_108_2 J) ?_ (hs := trivial)
 refine .step J J J (.loadP J sc_56 J (.tail _ (.head _)) J) ?_ (hs := trivial)
 refine .step J J J (.loadPU J Ycb J (.head _) J J) ?_ (hs := trivial)
 refine .step J J J (.buildSlice J et_56 (.cons J J J .nil) J (by decide)) ?_ (hs := trivial)
 refine .nil trivial ?_
 -- append 89
 refine .append rfl rfl rfl rfl et_56 rfl (.tail _ (.tail _ (.tail _ (.tail _ (.head _))))) rfl (by simp [D.parts]) (by simp; omega) (by simp; omega) ?_
 refine .sA (.nilCheckP J J) (.sA (.fieldAddrP J fo_108_2 J) ?_)
 refine .storeS J J J sz_56 J (.tail _ (.head _)) J (.tail _ (.tail _ (.tail _ (.tail _ (.head _))))) (ZnB J) (.nil ?_)
 refine .seq ?_
 have hdl := del_len (l := L) (d.name, next)
 have HF : dlF S next H (d, st) = if (whD S next (d, st)) ≠ 0 /\ 1000000000000 < cenH (delH L (d.name, next)) (d.name, next + d.hold) + (whD S next (d, st)) then 2 else 0 := by
  rw [cen_del (cen_key hdd.2.1), hcl]
  unfold dlF
  rw [if_neg hB0]
  have h5 := hc (next + d.hold)
  have h6 : cenD S next H (d, st) = cenH H (d.name, next + d.hold) + (whD S next (d, st)) := rfl
  rw [h6]
  by_cases h7 : (whD S next (d, st)) = 0
  ·rw [if_neg (by omega), if_neg (fun hh => hh.1 h7)]
  by_cases h8 : 1000000000000 < cenH H (d.name, next + d.hold) + (whD S next (d, st))
  ·rw [if_pos h8, if_pos ⟨h7, h8⟩]
  rw [if_neg h8, if_neg (fun hh => h8 hh.2)]
 refine .drawTail 14 (by kernel_rfl) (by kernel_rfl) (by kernel_rfl) ?_
 refine .sA (.moveP J J) (.sA (.fieldAddr J YaZ J) (.sA (.load J sc_9 J) (.sA (.moveP J J) (.sA (.nilCheckP J J) (.sA (.fieldAddrP J Yav J) ?_)))))
 refine .sA (.fieldAddrP J YaB J) (.sA (.loadP J sc_3 J (.tail _ (.head _)) J) (.sA (.fieldAddr J fo_63_8 J) (.sA (.load J sc_3 J) ?_)))
 refine .sA (.add64 J J J) ?_
 refine .sA (.fieldAddrP J fo_114_2 J) (.sA (.loadP J sc_3 J (.head _) J) (.sA (.build J bu_105 (.cons J J (.cons J J (.cons J J .nil))) J) ?_))
 refine .nil ?_
 -- writes 600 502
 refine .callX rfl rfl rfl (.cons U (.cons U .nil)) (c_hold c next S (delH L (d.name, next)) d.name (next + d.hold) (whD S next (d, st)) (delH_ok okL _) (by omega) hw (by rw [cen_del (cen_key hdd.2.1), hcl]; exact hc _)) ⟨(.tail _ (.head _)), (.tail _ (.tail _ (.tail _ (.head _)))), trivial⟩ rfl rfl (fun i h => by show (!(Nat.beq i 501 || Nat.beq i 502 || Nat.beq i 504 || Nat.beq i 901 || Nat.ble 1000 i)) = false; rcases ZbO.1 h with h | h <;> rw [h] <;> simp) ?_
 refine .aN ?_
 refine .ret ?_
 refine ⟨⟨RetDX.eq J ?_, trivial⟩, ⟨Yac (.head _) ?_, Yac (.tail _ (.tail _ (.tail _ (.head _)))) ?_, Yac (.tail _ (.head _)) ?_, Yac (.tail _ (.tail _ (.tail _ (.tail _ (.head _))))) ?_, trivial⟩⟩
 all_goals (first | rfl | rw [HF] | (rw [ZmA]; rfl))
open Go.Lib
theorem two_ne : ¬ ((2 : Int) = 0) := by decide
def wtS (g : Grp) : List Int := g.cut.map Stk.weight
def netR (r : Rw) : Int := r.earned - r.withheld + r.released - r.advance
def numG (op : Int) (rs : List Rw) : Int := rs.foldl (fun n r => n + netR r) op
def Yai (nm : ByteArray) (Z : List (Deal × Rw)) : List Rw := (Z.filter fun p => decide (p.1.group = nm)).map (·.2)
def divI (t : Int) (ws : List Int) : List Int := if Yau t ws = 0 then (List.range ws.length).map (outF t ws (YaR t ws ws.length).toNat) else []
theorem divR_I (t : Int) (ws : List Int) : divR t ws = (divI t ws).map intD := by
 unfold divR divI rowF
 split
 ·rw [List.map_map]; rfl
 ·rfl
theorem divI_len {t : Int} {ws : List Int} (h : Yau t ws = 0) : (divI t ws).length = ws.length := by unfold divI; rw [if_pos h, ZlM, List.length_range]
theorem divI_bad {t : Int} {ws : List Int} (h : ¬ Yau t ws = 0) : divI t ws = [] := if_neg h
def ptsG (g : Grp) (n : Int) : List Pd := List.zipWith (fun s c => ⟨s.party, c⟩) g.cut (divI n (wtS g))
theorem ptsG_at {g : Grp} {n : Int} {k : Nat} (h : k < (ptsG g n).length) (h1 : k < g.cut.length) (h2 : k < (divI n (wtS g)).length) : (ptsG g n)[k] = ⟨g.cut[k].party, (divI n (wtS g))[k]⟩ := List.getElem_zipWith (h := h)
def payP (g : Grp) (n : Int) : Prop := 0 < n /\ g.minim <= n
instance (g : Grp) (n : Int) : Decidable (payP g n) := by unfold payP; exact inferInstance
def pdG (g : Grp) (n : Int) : Int := if payP g n then n else 0
def clG (g : Grp) (n : Int) : Int := if payP g n then 0 else n
def ptG (g : Grp) (n : Int) : List Pd := if payP g n then ptsG g n else []
def stF (g : Grp) (n : Int) : Int := if payP g n then (if 1000000000 < n then 2 else Yau n (wtS g)) else if -1000000000000 <= n /\ n <= 1000000000000 then 0 else 2
def stG (next : Int) (g : Grp) (op : Int) (rs : List Rw) : Stm := ⟨next, g.name, rs, op, pdG g (numG op rs), ptG g (numG op rs), clG g (numG op rs)⟩
def badG (next : Int) (g : Grp) (op : Int) (rs : List Rw) : Stm := ⟨next, g.name, rs, op, 0, [], 0⟩
theorem num_snoc (op : Int) (l : List Rw) (r : Rw) : numG op (l ++ [r]) = numG op l + (r.earned - r.withheld + r.released - r.advance) := by unfold numG; rw [List.foldl_append]; rfl
theorem rowsG_y {nm : ByteArray} {Z : List (Deal × Rw)} {k : Nat} (h : k < Z.length) (e : Z[k].1.group = nm) : Yai nm (Z.take (k + 1)) = Yai nm (Z.take k) ++ [Z[k].2] := by
 unfold Yai
 rw [Ycd h, List.filter_append, ZmA, List.filter_cons, if_pos (by simp [e])]; rfl
theorem rowsG_n {nm : ByteArray} {Z : List (Deal × Rw)} {k : Nat} (h : k < Z.length) (e : ¬ Z[k].1.group = nm) : Yai nm (Z.take (k + 1)) = Yai nm (Z.take k) := by
 unfold Yai
 rw [Ycd h, List.filter_append, ZmA, List.filter_cons, if_neg (by simp [e])]; simp
structure RwOk (r : Rw) : Prop where
 e : -1000000000000 <= r.earned /\ r.earned <= 1000000000000
 w : 0 <= r.withheld /\ r.withheld <= 1000000000000
 rel : 0 <= r.released /\ r.released <= 1000000000000
 a : 0 <= r.advance /\ r.advance <= 1000000000
theorem num_rng0 : ∀ (rs : List Rw) (op : Int), (∀ r ∈ rs, RwOk r) -> op - 3000000000000 * (rs.length : Int) <= numG op rs /\ numG op rs <= op + 3000000000000 * (rs.length : Int)
 | [], op, _ => by show op - 3000000000000 * 0 <= op /\ op <= op + 3000000000000 * 0; omega
 | r :: l, op, h => by
  have h1 := num_rng0 l (op + netR r) fun x hx => h x (List.mem_cons_of_mem _ hx)
  have h2 := h r (List.mem_cons_self ..)
  have e := h2.e; have w := h2.w; have rr := h2.rel; have a := h2.a
  have hn : netR r = r.earned - r.withheld + r.released - r.advance := rfl
  show _ <= numG (op + netR r) l /\ numG (op + netR r) l <= _
  rw [List.length_cons]
  omega
theorem num_rng {op : Int} (ho : -1000000000000 <= op /\ op <= 1000000000000) (rs : List Rw) (h : ∀ r ∈ rs, RwOk r) : -1000000000000 - 3000000000000 * (rs.length : Int) <= numG op rs /\ numG op rs <= 1000000000000 + 3000000000000 * (rs.length : Int) := by
 have := num_rng0 rs op h
 omega
theorem rowsG_len (nm : ByteArray) (Z : List (Deal × Rw)) : (Yai nm Z).length <= Z.length := by unfold Yai; rw [ZlM]; exact List.length_filter_le _ _
theorem rowsG_mem {nm : ByteArray} {Z : List (Deal × Rw)} {r : Rw} (h : r ∈ Yai nm Z) : ∃ p ∈ Z, p.2 = r := by
 unfold Yai at h
 obtain ⟨p, hp, e⟩ := ZmM.1 h
 exact ⟨p, (List.mem_filter.1 hp).1, e⟩
theorem zip_mem2 {α β : Type} {l : List α} {m : List β} {p : α × β} (h : p ∈ l.zip m) : p.2 ∈ m := (List.of_mem_zip (a := p.1) (b := p.2) h).2
theorem rows_rng {nm : ByteArray} {l : List Deal} {R : List Rw} {k : Nat} (hR : ∀ r ∈ R, RwOk r) : ∀ r ∈ Yai nm ((l.zip R).take k), RwOk r := fun r hr => by
 obtain ⟨p, hp, rfl⟩ := rowsG_mem hr
 exact hR _ (zip_mem2 (List.mem_of_mem_take hp))
theorem in6 {σ : Obs} {o p q r s t : Nat × Ob} (h0 : o ∈ σ) (h1 : p ∈ σ) (h2 : q ∈ σ) (h3 : r ∈ σ) (h4 : s ∈ σ) (h5 : t ∈ σ) : ∀ x ∈ [o, p, q, r, s, t], x ∈ σ := fun x hx => by
 rcases List.mem_cons.1 hx with rfl | hx
 ·exact h0
 ·exact in5 h1 h2 h3 h4 h5 x hx
def isG (c : Ctr) (next : Int) (T : List Int) (L : List Hld) (S : List Sal) (R : List Rw) : Nat × Ob := (600, .cells [.d (.sl (c.als.map Ali.ds)), .d (.sl (c.deals.map Deal.ds)), .d (.sl (c.groups.map Grp.ds)), .d (.v (.int .i64 next)), .d (.sl (T.map intD)), .d (.sl (L.map Hld.ds)), .own 503, .d (.sl (S.map Sal.ds)), .d (.sl (R.map Rw.ds))])
def isB (B : List Int) : Nat × Ob := (503, .row 3 1 (B.map intD))
open Go.Sort Go.Lib
structure BkOk (b : Bks) : Prop where
 ctr : ctrF b.ctr = 0
 next : 0 <= b.next /\ b.next <= 2401
 sl : b.stated.length = b.ctr.deals.length
 bl : b.bal.length = b.ctr.groups.length
 st : ∀ x ∈ b.stated, 0 <= x /\ x <= 1000000000000
 ba : ∀ x ∈ b.bal, -1000000000000 <= x /\ x <= 1000000000000
 held : Hls b.held
 hr : ∀ x ∈ b.held, (∃ d ∈ b.ctr.deals, d.name = x.deal) /\ (b.next <= x.period /\ x.period <= 2500) /\ 1 <= x.cents /\ x.cents <= 1000000000000
 dl : b.ctr.deals.length <= 40
 gl : b.ctr.groups.length <= 20
 als : Als b.ctr.als
 deal : ∀ d ∈ b.ctr.deals, TrsOk d.tiers /\ (0 <= d.upto /\ d.upto <= 2401) /\ (0 <= d.adv /\ d.adv <= 1000000000) /\ (0 <= d.resv /\ d.resv <= 1000) /\ 1 <= d.hold /\ d.hold <= 100
 nd : b.ctr.deals.Pairwise fun p q => ltB p.name q.name = true
 cut : ∀ g ∈ b.ctr.groups, g.cut.length <= 20
theorem dealF0_ok {c : Ctr} {d : Deal} (h : Yas c d = 0) : TrsOk d.tiers /\ (0 <= d.upto /\ d.upto <= 2401) /\ (0 <= d.adv /\ d.adv <= 1000000000) /\ (0 <= d.resv /\ d.resv <= 1000) /\ 1 <= d.hold /\ d.hold <= 100 := by
 unfold Yas at h
 split at h
 ·omega
 split at h
 ·omega
 split at h
 ·omega
 split at h
 ·omega
 split at h
 ·omega
 split at h
 ·omega
 rename_i h1 h2 h3 h4 h5 h6
 have h7 := Decidable.not_not.1 h6
 have h8 := Decidable.not_not.1 h2
 exact ⟨trsOk (Decidable.not_not.1 h5), by omega, h7⟩
theorem sle_lt {a b : ByteArray} (h : ¬ sle b a = true) : ltB a b = true := by
 unfold ltB
 refine decide_eq_true (strCmp_lt.2 ?_)
 rw [slt_sle]
 cases hs : sle b a with
 | false => rfl
 | true => exact absurd hs h
theorem ctr_parts {c : Ctr} (h : ctrF c = 0) : Yb5 c.als = 0 /\ (c.deals.length <= 40 /\ c.groups.length <= 20) /\ ffst (grpF c.groups) c.groups.length = 0 /\ ffst (Ybp c) c.deals.length = 0 := by
 unfold ctrF at h
 by_cases h1 : Yb5 c.als ≠ 0
 ·rw [if_pos h1] at h; exact absurd h h1
 rw [if_neg h1] at h
 by_cases h2 : 40 < c.deals.length \/ 20 < c.groups.length
 ·rw [if_pos h2] at h; exact absurd h (by decide)
 rw [if_neg h2] at h
 by_cases h3 : ffst (grpF c.groups) c.groups.length ≠ 0
 ·rw [if_pos h3] at h; exact absurd h h3
 rw [if_neg h3] at h
 exact ⟨Decidable.not_not.1 h1, by omega, Decidable.not_not.1 h3, h⟩
theorem bks_parts {b : Bks} (h : bksF b = 0) : ctrF b.ctr = 0 /\ (0 <= b.next /\ b.next <= 2401) /\ (b.stated.length = b.ctr.deals.length /\ b.bal.length = b.ctr.groups.length) /\ ffst (Ycm b.stated) b.stated.length = 0 /\ ffst (hldF b) b.held.length = 0 /\ ffst (balF b.bal) b.bal.length = 0 := by
 unfold bksF at h
 by_cases h1 : ctrF b.ctr ≠ 0
 ·rw [if_pos h1] at h; exact absurd h h1
 rw [if_neg h1] at h
 by_cases h2 : ¬ (0 <= b.next /\ b.next <= 2401)
 ·rw [if_pos h2] at h; exact absurd h (by decide)
 rw [if_neg h2] at h
 by_cases h3 : b.stated.length ≠ b.ctr.deals.length \/ b.bal.length ≠ b.ctr.groups.length
 ·rw [if_pos h3] at h; exact absurd h (by decide)
 rw [if_neg h3] at h
 by_cases h4 : ffst (Ycm b.stated) b.stated.length ≠ 0
 ·rw [if_pos h4] at h; exact absurd h h4
 rw [if_neg h4] at h
 by_cases h5 : ffst (hldF b) b.held.length ≠ 0
 ·rw [if_pos h5] at h; exact absurd h h5
 rw [if_neg h5] at h
 exact ⟨Decidable.not_not.1 h1, Decidable.not_not.1 h2, by omega, Decidable.not_not.1 h4, Decidable.not_not.1 h5, h⟩
theorem deal_parts {c : Ctr} {k : Nat} (hk : k < c.deals.length) (h : Ybp c k = 0) : Yas c c.deals[k] = 0 /\ ∀ h0 : 0 < k, ltB (c.deals[k-1]'(by omega)).name c.deals[k].name = true := by
 unfold Ybp at h
 rw [dif_pos hk] at h
 by_cases n1 : YaI c.deals[k].name = false
 ·rw [if_pos n1] at h; exact absurd h (by decide)
 rw [if_neg n1] at h
 by_cases n2 : 0 < k /\ sle c.deals[k].name (c.deals[k-1]'(by omega)).name = true
 ·rw [if_pos n2] at h; exact absurd h (by decide)
 rw [if_neg n2] at h
 exact ⟨h, fun h0 => sle_lt fun hh => n2 ⟨h0, hh⟩⟩
theorem hld_parts {b : Bks} {k : Nat} (hk : k < b.held.length) (h : hldF b k = 0) : Yb2 b.ctr.deals b.held[k].deal = true /\ ((b.next <= b.held[k].period /\ b.held[k].period <= 2500) /\ 1 <= b.held[k].cents /\ b.held[k].cents <= 1000000000000) /\ ∀ h0 : 0 < k, ltH (b.held[k-1]'(by omega)).key b.held[k].key = true := by
 unfold hldF at h
 rw [dif_pos hk] at h
 by_cases n1 : Yb2 b.ctr.deals b.held[k].deal = false
 ·rw [if_pos n1] at h; exact absurd h (by decide)
 rw [if_neg n1] at h
 by_cases n2 : 0 < k /\ 0 <= YaQ (b.held[k-1]'(by omega)) b.held[k]
 ·rw [if_pos n2] at h; exact absurd h (by decide)
 rw [if_neg n2] at h
 by_cases n3 : (b.next <= b.held[k].period /\ b.held[k].period <= 2500) /\ 1 <= b.held[k].cents /\ b.held[k].cents <= 1000000000000
 ·exact ⟨by cases hx : Yb2 b.ctr.deals b.held[k].deal with | true => rfl | false => exact absurd hx n1, n3, fun h0 => hldCmp_lt.1 (Int.not_le.1 fun hh => n2 ⟨h0, hh⟩)⟩
 ·rw [if_neg n3] at h; exact absurd h (by decide)
theorem stat_parts {l : List Int} {k : Nat} (hk : k < l.length) (h : Ycm l k = 0) : 0 <= l[k] /\ l[k] <= 1000000000000 := by
 unfold Ycm at h
 rw [dif_pos hk] at h
 by_cases n : 0 <= l[k] /\ l[k] <= 1000000000000
 ·exact n
 ·rw [if_neg n] at h; exact absurd h (by decide)
theorem bal_parts {l : List Int} {k : Nat} (hk : k < l.length) (h : balF l k = 0) : -1000000000000 <= l[k] /\ l[k] <= 1000000000000 := by
 unfold balF at h
 rw [dif_pos hk] at h
 by_cases n : -1000000000000 <= l[k] /\ l[k] <= 1000000000000
 ·exact n
 ·rw [if_neg n] at h; exact absurd h (by decide)
theorem grp_parts {l : List Grp} {k : Nat} (hk : k < l.length) (h : grpF l k = 0) : Ybq l[k] = 0 := by
 unfold grpF at h
 rw [dif_pos hk] at h
 split at h
 ·omega
 ·split at h
  ·omega
  ·exact h
theorem bkOk {b : Bks} (h : bksF b = 0) : BkOk b := by
 obtain ⟨hc, h1, ⟨hsl, hbl⟩, h3, h4, h5⟩ := bks_parts h
 clear h
 obtain ⟨ha, hl, hg, hd⟩ := ctr_parts hc
 have h3 := Ya2 _ h3
 have h4 := Ya2 _ h4
 have h5 := Ya2 _ h5
 have hd := Ya2 _ hd
 have hg := Ya2 _ hg
 have hdk := fun k (hk : k < b.ctr.deals.length) => deal_parts hk (hd k hk)
 have hhk := fun k (hk : k < b.held.length) => hld_parts hk (h4 k hk)
 refine ⟨hc, h1, hsl, hbl, fun x hx => ?_, fun x hx => ?_, ⟨pw_of (R := fun a b => ltH a.key b.key = true) (fun (x y z : Hld) (h1 : ltH x.key y.key = true) (h2 : ltH y.key z.key = true) => tot_H.tr h1 h2) fun k hk => (hhk (k + 1) hk).2.2 (by omega)⟩, fun x hx => ?_, hl.1, hl.2, als_of ha, fun d hdm => ?_, pw_of (R := fun p q => ltB p.name q.name = true) (fun (x y z : Deal) (h1 : ltB x.name y.name = true) (h2 : ltB y.name z.name = true) => tot_str.tr h1 h2) fun k hk => (hdk (k + 1) hk).2 (by omega), fun g hgm => ?_⟩
 ·obtain ⟨k, hk, rfl⟩ := List.mem_iff_getElem.1 hx
  exact stat_parts hk (h3 k hk)
 ·obtain ⟨k, hk, rfl⟩ := List.mem_iff_getElem.1 hx
  exact bal_parts hk (h5 k hk)
 ·obtain ⟨k, hk, rfl⟩ := List.mem_iff_getElem.1 hx
  have := hhk k hk
  refine ⟨?_, this.2.1⟩
  have h6 := this.1
  unfold Yb2 at h6
  obtain ⟨d, hd, e⟩ := List.any_eq_true.1 h6
  exact ⟨d, hd, dcT e⟩
 ·obtain ⟨k, hk, rfl⟩ := List.mem_iff_getElem.1 hdm
  exact dealF0_ok (hdk k hk).1
 ·obtain ⟨k, hk, rfl⟩ := List.mem_iff_getElem.1 hgm
  exact grp0_ok (grp_parts hk (hg k hk))
def dls (b : Bks) : List (Deal × Int) := b.ctr.deals.zip b.stated
theorem Ybo {b : Bks} (ok : BkOk b) : (dls b).length = b.ctr.deals.length := by unfold dls; rw [List.length_zip, ok.sl, Nat.min_self]
theorem dls_at {b : Bks} {k : Nat} (h : k < (dls b).length) : (dls b)[k] = (b.ctr.deals[k]'(by unfold dls at h; rw [List.length_zip] at h; omega), b.stated[k]'(by unfold dls at h; rw [List.length_zip] at h; omega)) := List.getElem_zip (h := h)
theorem dls_mem {b : Bks} {p : Deal × Int} (h : p ∈ dls b) : p.1 ∈ b.ctr.deals /\ p.2 ∈ b.stated := List.of_mem_zip (a := p.1) (b := p.2) h
theorem dls_nd {b : Bks} (ok : BkOk b) : NdD (dls b) := by
 have h1 : (dls b).map Prod.fst = b.ctr.deals := List.map_fst_zip (Nat.le_of_eq ok.sl.symm)
 have h2 := ok.nd
 rw [<- h1, List.pairwise_map] at h2
 exact h2
def dlK (S : List Sal) (b : Bks) (k : Nat) : Int := if h : k < (dls b).length then dlF S b.next b.held (dls b)[k] else 0
def YbC (S : List Sal) (b : Bks) : List Rw := (dls b).map (rwD S b.next b.held)
def Ybl (S : List Sal) (b : Bks) : List Int := (dls b).map fun p => nowV S b.next p.1
def tK (S : List Sal) (b : Bks) (k : Nat) : List Int := (Ybl S b).take k ++ b.stated.drop k
def lK (S : List Sal) (b : Bks) (k : Nat) : List Hld := hldP S b.next b.held ((dls b).take k)
def rK (S : List Sal) (b : Bks) (k : Nat) : List Rw := (YbC S b).take k
theorem held_len {b : Bks} (ok : BkOk b) : b.held.length <= 100040 := by
 have := hls_len ok.held (b.ctr.deals.map Deal.name) (fun h hh => by
  obtain ⟨⟨d, hd, e⟩, h2, _⟩ := ok.hr h hh
  have := ok.next
  exact ⟨ZmM.2 ⟨d, hd, e⟩, by omega⟩)
 rw [ZlM] at this
 have h2 := ok.dl
 omega
theorem cen_rng {H : List Hld} (ok : Hls H) (h : ∀ x ∈ H, 1 <= x.cents /\ x.cents <= 1000000000000) (k : KH) : 0 <= cenH H k /\ cenH H k <= 1000000000000 := by
 unfold cenH
 cases hf : Yap (HL H) k with
 | none => show (0 : Int) <= 0 /\ (0 : Int) <= 1000000000000; omega
 | some v =>
  obtain ⟨y, hy, e⟩ := ZmM.1 ((YbF ((HL_ri ok).nk tot_H) (k, v)).2 hf)
  have e2 : y.cents = v := congrArg Prod.snd e
  have := h y hy
  show 0 <= v /\ v <= 1000000000000
  omega
theorem lK_ok {S : List Sal} {b : Bks} (ok : BkOk b) (k : Nat) : Hls (lK S b k) /\ (lK S b k).length <= 100080 := by
 have h1 := hldP_ok (S := S) (next := b.next) ((dls b).take k) ok.held
 have h2 := held_len ok
 have h3 := ok.dl
 have h4 := Ybo ok
 have h5 := h1.2
 rw [ZlT] at h5
 exact ⟨h1.1, by unfold lK; omega⟩
theorem dls_hold {b : Bks} (ok : BkOk b) : ∀ p ∈ dls b, 1 <= p.1.hold /\ 0 <= p.1.resv := fun p hp => by
 have := ok.deal _ (dls_mem hp).1
 omega
theorem lK_cen {S : List Sal} {b : Bks} (ok : BkOk b) {k : Nat} (hk : k < (dls b).length) (q : Int) : cenH (lK S b k) ((dls b)[k].1.name, q) = cenH b.held ((dls b)[k].1.name, q) := by
 unfold cenH lK
 rw [find_P _ ok.held ((dls_nd ok).sublist (List.take_sublist _ _)) (fun p hp => (dls_hold ok p (List.mem_of_mem_take hp)).1), find_miss fun p hp e => ?_]
 obtain ⟨i, hi, rfl⟩ := List.mem_take_iff_getElem.1 hp
 have := List.pairwise_iff_getElem.1 (dls_nd ok) i k (by omega) hk (by omega)
 exact ltB_ne this e
theorem lK_next {S : List Sal} {b : Bks} {k : Nat} (hk : k < (dls b).length) : lK S b (k + 1) = stepL S b.next (lK S b k) (dls b)[k] := by
 unfold lK hldP
 rw [Ycd hk, List.foldl_append]; rfl
theorem rK_next {S : List Sal} {b : Bks} {k : Nat} (hk : k < (dls b).length) : rK S b (k + 1) = rK S b k ++ [rwD S b.next b.held (dls b)[k]] := by
 unfold rK
 rw [Ycd (by unfold YbC; rw [ZlM]; exact hk)]
 congr 1
 unfold YbC
 rw [ZgP]
theorem tK_next {S : List Sal} {b : Bks} (ok : BkOk b) {k : Nat} (hk : k < (dls b).length) : (tK S b k).set k (nowV S b.next (dls b)[k].1) = tK S b (k + 1) := by
 have h1 : k < (Ybl S b).length := by unfold Ybl; rw [ZlM]; exact hk
 have h2 : k < b.stated.length := by have := Ybo ok; have := ok.sl; omega
 have h3 : ((Ybl S b).take k).length = k := by rw [ZlT]; omega
 unfold tK
 rw [List.set_append_right _ _ (by omega), h3, Nat.sub_self, Ycd h1, List.drop_eq_getElem_cons h2, List.set_cons_zero, List.append_assoc]
 rw [show (Ybl S b)[k] = nowV S b.next (dls b)[k].1 from ZgP (h := h1) ..]
 rfl
theorem tK_at {S : List Sal} {b : Bks} (ok : BkOk b) {k : Nat} (hk : k < (dls b).length) : (tK S b k)[k]? = some (dls b)[k].2 := by
 have h1 : k < (Ybl S b).length := by unfold Ybl; rw [ZlM]; exact hk
 have h2 : k < b.stated.length := by have := Ybo ok; have := ok.sl; omega
 have h3 : ((Ybl S b).take k).length = k := by rw [ZlT]; omega
 unfold tK
 rw [List.getElem?_append_right (by omega), h3, Nat.sub_self, ZgO, Nat.add_zero, ZgE h2, dls_at hk]
theorem tK_end {S : List Sal} {b : Bks} (ok : BkOk b) : tK S b b.ctr.deals.length = Ybl S b := by
 have h1 : (Ybl S b).length = b.ctr.deals.length := by unfold Ybl; rw [ZlM, Ybo ok]
 unfold tK
 rw [<- h1, List.take_length, List.drop_eq_nil_of_le (by rw [h1, ok.sl]; exact ZnR _), List.append_nil]
theorem rK_end {S : List Sal} {b : Bks} (ok : BkOk b) : rK S b b.ctr.deals.length = YbC S b := by
 have h1 : (YbC S b).length = b.ctr.deals.length := by unfold YbC; rw [ZlM, Ybo ok]
 unfold rK
 rw [<- h1, List.take_length]
theorem lK_end {S : List Sal} {b : Bks} (ok : BkOk b) : lK S b b.ctr.deals.length = hldR S b.next b.held (dls b) := by
 unfold lK
 rw [<- Ybo ok, List.take_length]
 refine held_same ok.held (dls_nd ok) (dls_hold ok) (fun x hx => (ok.hr x hx).2.2.1) fun x hx => ?_
 obtain ⟨⟨d, hd, e⟩, _⟩ := ok.hr x hx
 have h1 : (dls b).map Prod.fst = b.ctr.deals := List.map_fst_zip (Nat.le_of_eq ok.sl.symm)
 rw [<- h1] at hd
 obtain ⟨p, hp, e2⟩ := ZmM.1 hd
 exact ⟨p, hp, by rw [e2]; exact e⟩
theorem rowsB_len {S : List Sal} {b : Bks} (ok : BkOk b) : (YbC S b).length = b.ctr.deals.length := by unfold YbC; rw [ZlM, Ybo ok]
theorem now_rng {S : List Sal} (okS : SalsOk S) {next : Int} {d : Deal} (hT : TrsOk d.tiers) (hb : basV d next S <= 1000000000000) : 0 <= nowV S next d /\ nowV S next d <= 1000000000000 := by
 have hbr : 0 <= basV d next S /\ basV d next S <= 30000000000000 * (S.length : Int) := Yca (d := d) (p := next) okS S.length (ZnR _)
 have := ernV_le hT hbr.1 hb
 unfold nowV
 omega
theorem rows_ok {S : List Sal} (okS : SalsOk S) {b : Bks} (ok : BkOk b) (h : ∀ k, k < b.ctr.deals.length -> dlK S b k = 0) : ∀ r ∈ YbC S b, RwOk r := fun r hr => by
 unfold YbC at hr
 obtain ⟨p, hp, rfl⟩ := ZmM.1 hr
 obtain ⟨k, hk, rfl⟩ := List.mem_iff_getElem.1 hp
 have h1 := h k (by rw [<- Ybo ok]; exact hk)
 unfold dlK at h1
 rw [dif_pos hk] at h1
 have hm := dls_mem (ZgM hk)
 have hd := ok.deal _ hm.1
 have hs := ok.st _ hm.2
 generalize (dls b)[k] = p at *
 unfold dlF at h1
 split at h1
 ·omega
 rename_i h2
 have h3 := now_rng okS hd.1 (Int.not_lt.1 h2)
 have hc := cen_rng ok.held (fun x hx => (ok.hr x hx).2.2) (p.1.name, b.next)
 refine ⟨?_, ?_, hc, ?_⟩
 ·show -1000000000000 <= nowV S b.next p.1 - p.2 /\ nowV S b.next p.1 - p.2 <= 1000000000000
  omega
 ·show 0 <= whdV (nowV S b.next p.1 - p.2) p.1.resv /\ whdV (nowV S b.next p.1 - p.2) p.1.resv <= 1000000000000
  unfold whdV
  split
  ·have h5 : 0 <= (nowV S b.next p.1 - p.2) * p.1.resv := Int.mul_nonneg (by omega) hd.2.2.2.1.1
   have h6 : (nowV S b.next p.1 - p.2) * p.1.resv <= 1000000000000 * 1000 := Int.mul_le_mul (by omega) hd.2.2.2.1.2 hd.2.2.2.1.1 (by omega)
   omega
  ·omega
 ·show 0 <= (if b.next = p.1.frm then p.1.adv else 0) /\ (if b.next = p.1.frm then p.1.adv else 0) <= 1000000000
  split <;> omega
def gps (b : Bks) : List (Grp × Int) := b.ctr.groups.zip b.bal
def rsG (S : List Sal) (b : Bks) (p : Grp × Int) : List Rw := Yai p.1.name (b.ctr.deals.zip (YbC S b))
def numB (S : List Sal) (b : Bks) (p : Grp × Int) : Int := numG p.2 (rsG S b p)
def gpK (S : List Sal) (b : Bks) (k : Nat) : Int := if h : k < (gps b).length then stF (gps b)[k].1 (numB S b (gps b)[k]) else 0
def stmsB (S : List Sal) (b : Bks) : List Stm := (gps b).map fun p => stG b.next p.1 p.2 (rsG S b p)
def YbQ (S : List Sal) (b : Bks) : List Int := (gps b).map fun p => clG p.1 (numB S b p)
def bK (S : List Sal) (b : Bks) (k : Nat) : List Int := (YbQ S b).take k ++ b.bal.drop k
theorem gps_len {b : Bks} (ok : BkOk b) : (gps b).length = b.ctr.groups.length := by unfold gps; rw [List.length_zip, ok.bl, Nat.min_self]
theorem gps_at {b : Bks} {k : Nat} (h : k < (gps b).length) : (gps b)[k] = (b.ctr.groups[k]'(by unfold gps at h; rw [List.length_zip] at h; omega), b.bal[k]'(by unfold gps at h; rw [List.length_zip] at h; omega)) := List.getElem_zip (h := h)
theorem gps_mem {b : Bks} {p : Grp × Int} (h : p ∈ gps b) : p.1 ∈ b.ctr.groups /\ p.2 ∈ b.bal := List.of_mem_zip (a := p.1) (b := p.2) h
theorem bK_next {S : List Sal} {b : Bks} (ok : BkOk b) {k : Nat} (hk : k < (gps b).length) : (bK S b k).set k (clG (gps b)[k].1 (numB S b (gps b)[k])) = bK S b (k + 1) := by
 have h1 : k < (YbQ S b).length := by unfold YbQ; rw [ZlM]; exact hk
 have h2 : k < b.bal.length := by have := gps_len ok; have := ok.bl; omega
 have h3 : ((YbQ S b).take k).length = k := by rw [ZlT]; omega
 unfold bK
 rw [List.set_append_right _ _ (by omega), h3, Nat.sub_self, Ycd h1, List.drop_eq_getElem_cons h2, List.set_cons_zero, List.append_assoc]
 rw [show (YbQ S b)[k] = clG (gps b)[k].1 (numB S b (gps b)[k]) from ZgP (h := h1) ..]
 rfl
theorem bK_at {S : List Sal} {b : Bks} (ok : BkOk b) {k : Nat} (hk : k < (gps b).length) : (bK S b k)[k]? = some (gps b)[k].2 := by
 have h1 : k < (YbQ S b).length := by unfold YbQ; rw [ZlM]; exact hk
 have h2 : k < b.bal.length := by have := gps_len ok; have := ok.bl; omega
 have h3 : ((YbQ S b).take k).length = k := by rw [ZlT]; omega
 unfold bK
 rw [List.getElem?_append_right (by omega), h3, Nat.sub_self, ZgO, Nat.add_zero, ZgE h2, gps_at hk]
theorem bK_end {S : List Sal} {b : Bks} (ok : BkOk b) : bK S b b.ctr.groups.length = YbQ S b := by
 have h1 : (YbQ S b).length = b.ctr.groups.length := by unfold YbQ; rw [ZlM, gps_len ok]
 unfold bK
 rw [<- h1, List.take_length, List.drop_eq_nil_of_le (by rw [h1, ok.bl]; exact ZnR _), List.append_nil]
def zBks : Bks := ⟨⟨[], [], []⟩, 0, [], [], []⟩
def salB (b : Bks) (l : List Rpt) : List Sal := salesR b.ctr.als (Yaa l)
def askB (b : Bks) (l : List Rpt) : Int := if bksF b ≠ 0 then bksF b else logF l
def issF (b : Bks) (l : List Rpt) : Int := if askB b l ≠ 0 then askB b l else if 2400 < b.next then 11 else if ffst (dlK (salB b l) b) b.ctr.deals.length ≠ 0 then ffst (dlK (salB b l) b) b.ctr.deals.length else ffst (gpK (salB b l) b) b.ctr.groups.length
def issB (b : Bks) (l : List Rpt) : Bks := if issF b l = 0 then ⟨b.ctr, b.next + 1, Ybl (salB b l) b, hldR (salB b l) b.next b.held (dls b), YbQ (salB b l) b⟩ else zBks
def issS (b : Bks) (l : List Rpt) : List Stm := if issF b l = 0 then stmsB (salB b l) b else []
theorem ask_0 {b : Bks} {l : List Rpt} (h : askB b l = 0) : bksF b = 0 /\ logF l = 0 := by
 unfold askB at h
 split at h
 ·exact absurd h (by assumption)
 ·rename_i h1; exact ⟨Decidable.not_not.1 h1, h⟩
theorem sals_ok {l : List Rpt} {a : List Ali} (hl : Log l) (ho : ∀ x ∈ l, okRpt x) (ha : Als a) : SalsOk (salesR a (Yaa l)) := by
 have hll := hl.len
 have hvl : (Yaa l).length <= l.length := List.length_filter_le _ _
 have hV : ∀ x ∈ Yaa l, RpO x := fun x hx => rpO (hl.ok x (List.mem_filter.1 hx).1) (ho x (List.mem_filter.1 hx).1)
 have hI := inv_A ha hV (Yaa l).length (ZnR _)
 rw [List.take_length, stA_eq] at hI
 have h1 := hI.l1
 have h2 := fold_len tot_S (knA a (Yaa l))
 dsimp only at h1
 refine ⟨?_, fun s hs => ?_⟩
 ·unfold salesR
  rw [ZlM]
  omega
 ·unfold salesR at hs
  obtain ⟨p, hp, rfl⟩ := ZmM.1 hs
  have := hI.b1 p ((fold_mem tot_S _ p).2 hp)
  show 0 <= p.2.2 /\ p.2.2 <= 30000000000000
  omega
namespace Ty
theorem Ybs : AggT Tryz.prog 40 7 := .of (by kernel_rfl)
end Ty
open Go.Lib
theorem c_clHld (l : List Hld) (hl : l.length <= 1000000) : OCall Tryz.prog 44 [.sl (l.map Hld.ds)] 105 3 (l.map Hld.ds) := by
 refine Yct (n := 8) Tryz.func44 J (by kernel_rfl) J 2 J J ?_
 intro B w0 F0 fr
 refine (Classical.em (l = [])).elim (fun hn => ?_) (fun hn => ?_)
 subst hn
 refine .nilOr 0 J ?_ (fun ad cap hcap => ?_)
 ·skip
  refine .sr (.aN ?_)
  refine .seq (.sr (.mA ?_))
  refine .sA (.eqNilV J Tryz.underlying38 J J) (.nil ?_)
  refine .cond J (fun _ => ?_) (fun h => nomatch h)
  refine .sr (.aN ?_)
  refine .adopt 2 51 105 3 J J ?_
  refine .ret ?_
  refine ⟨51, J, Yam (.head _) ?_⟩
  first | rfl | simp
 ·skip
  refine .sr (.aN ?_)
  refine .seq (.sr (.mA ?_))
  refine .sA (.eqNilV J Tryz.underlying38 J J) (.nil ?_)
  refine .cond J (fun h => nomatch h) (fun _ => ?_)
  refine .skip (.sr (.build0 102 J J J J et_38 J ?_))
  refine .mA ?_
  refine .le 6 J (SLe.d (Le.empty hcap)) ?_
  -- append 7
  refine .append rfl rfl rfl rfl et_38 rfl (.head _) rfl (fun y hy => by first | exact absurd hy List.not_mem_nil | (obtain ⟨x, _, rfl⟩ := ZmM.1 hy; rfl)) (by simp; try omega) (by simp; try omega) ?_
  refine .sA (.assignO J J) (.nil ?_)
  refine .ret ?_
  refine ⟨102, J, Yam (.head _) ?_⟩
  first | rfl | simp
 refine .sr (.aN ?_)
 refine .seq (.sr (.mA ?_))
 refine .sA (.eqNilS J Tryz.underlying38 J J (fun h => hn (List.map_eq_nil_iff.1 h))) (.nil ?_)
 refine .cond J (fun h => nomatch h) (fun _ => ?_)
 refine .skip (.sr (.build0 103 J J J J et_38 J ?_))
 refine .mA ?_
 -- append 7
 refine .append rfl rfl rfl rfl et_38 rfl (.head _) rfl (fun y hy => by first | exact absurd hy List.not_mem_nil | (obtain ⟨x, _, rfl⟩ := ZmM.1 hy; rfl)) (by simp; try omega) (by simp; try omega) ?_
 refine .sA (.assignO J J) (.nil ?_)
 refine .ret ?_
 refine ⟨103, J, Yam (.head _) ?_⟩
 first | rfl | simp
theorem c_pCkI (b : Bks) (l : List Rpt) (hb : okBks b) (ho : ∀ x ∈ l, okRpt x) : Ya3 Tryz.prog MaxT 40 [.agg b.ds, .sl (l.map Rpt.ds)] (.v (.int .i64 (askB b l))) := by
 refine YaF (n := 13) (ds' := [.v (.int .i64 (askB b l))]) Tryz.func40 J (by kernel_rfl) J [4] J J ?_
 intro B w0 F0 hT
 refine .sr (.sA (.box J J J) ?_)
 refine .aN ?_
 refine .seq (.sr (.sA (.loadAgg J Ybs J J) ?_))
 -- wants the world
 refine .callT J J J hT Yan J (.cons (.rfl' J) .nil) (c_pBks b hb) ?_
 refine .aN ?_
 refine .sr (.mA ?_)
 refine .sA (.neq J J J) (.nil ?_)
 refine .cT J (fun h1 => ?_) fun h1 => ?_
 ·have HF : askB b l = bksF b := if_pos h1
  rw [HF]
  refine .sr (.mA ?_)
  refine .aN ?_
  refine .ret (rD J ?_)
  all_goals (rfl)
 have HF : askB b l = logF l := if_neg h1
 rw [HF]
 refine .skip (.sr (.mA ?_))
 -- wants the world
 refine .callT J J J hT Yan J (.cons (.rfl' J) .nil) (c_pLog l ho) ?_
 refine .aN ?_
 refine .ret (rD J ?_)
 all_goals (rfl)
theorem c_rAsk8 (b : Bks) (l : List Rpt) (hb : okBks b) (ho : ∀ x ∈ l, okRpt x) : Ya3 Tryz.prog MaxT 47 [.agg b.ds, .sl (l.map Rpt.ds)] (.v (.int .i64 (askB b l))) := by
 refine YaF (n := 13) (ds' := [.v (.int .i64 (askB b l))]) Tryz.func47 J (by kernel_rfl) J [4] J J ?_
 intro B w0 F0 hT
 refine .sr (.sA (.box J J J) ?_)
 refine .aN ?_
 refine .seq (.sr (.sA (.loadAgg J Ybs J J) ?_))
 -- wants the world
 refine .callT J J J hT Yan J (.cons (.rfl' J) .nil) (c_rBks b hb) ?_
 refine .aN ?_
 refine .sr (.mA ?_)
 refine .sA (.neq J J J) (.nil ?_)
 refine .cT J (fun h1 => ?_) fun h1 => ?_
 ·have HF : askB b l = bksF b := if_pos h1
  rw [HF]
  refine .sr (.mA ?_)
  refine .aN ?_
  refine .ret (rD J ?_)
  all_goals (rfl)
 have HF : askB b l = logF l := if_neg h1
 rw [HF]
 refine .skip (.sr (.mA ?_))
 -- wants the world
 refine .callT J J J hT Yan J (.cons (.rfl' J) .nil) (c_rLog l ho) ?_
 refine .aN ?_
 refine .ret (rD J ?_)
 all_goals (rfl)
namespace Ty
theorem ag_59 : AggT Tryz.prog 59 7 := .of (by kernel_rfl)
theorem bu_135 : StructT Tryz.prog 135 (fun i => (#[(0, 1), (1, 1)] : Array (Nat × Nat))[i]?) [(.string ⟨#[]⟩), (.int .i64 0)] := .of (by kernel_rfl) (by kernel_rfl) (by decide)
theorem bu_59 : StructT Tryz.prog 59 (fun i => (#[(0, 1), (1, 1), (2, 1), (3, 1), (4, 1), (5, 1), (6, 1)] : Array (Nat × Nat))[i]?) [(.int .i64 0), (.string ⟨#[]⟩), (.slice none 0 0), (.int .i64 0), (.int .i64 0), (.slice none 0 0), (.int .i64 0)] := .of (by kernel_rfl) (by kernel_rfl) (by decide)
theorem et_57 : ElemTy Tryz.prog 57 135 2 24 (.agg #[(.string ⟨#[]⟩), (.int .i64 0)]) := ⟨by kernel_rfl, by kernel_rfl, by kernel_rfl, by decide⟩
theorem fo_59_2 : Yaf Tryz.prog 59 2 = some 2 := by kernel_rfl
theorem fo_59_3 : Yaf Tryz.prog 59 3 = some 3 := by kernel_rfl
theorem fo_59_4 : Yaf Tryz.prog 59 4 = some 4 := by kernel_rfl
theorem fo_59_5 : Yaf Tryz.prog 59 5 = some 5 := by kernel_rfl
theorem YbJ : Yaf Tryz.prog 59 6 = some 6 := by kernel_rfl
theorem sc_57 : Scal Tryz.prog 57 := .of (by kernel_rfl)
theorem sz_57 : ∀ w, (sizeOf 57).run Tryz.prog w = .ok 1 w := SizeT.of (by kernel_rfl)
theorem sz_59 : ∀ w, (sizeOf 59).run Tryz.prog w = .ok 7 w := SizeT.of (by kernel_rfl)
theorem zt_59 : (Tryz.prog.info? 59).bind (·.zero) = some (.agg #[(.int .i64 0), (.string ⟨#[]⟩), (.slice none 0 0), (.int .i64 0), (.int .i64 0), (.slice none 0 0), (.int .i64 0)]) := by kernel_rfl
end Ty
open Go.Lib
theorem c_grp (c : Ctr) (next : Int) (S : List Sal) (L : List Hld) (T : List Int) (R : List Rw) (Bl : List Int) (j : Nat) (g : Grp) (op : Int) (hg : c.groups[j]? = some g) (hB : Bl[j]? = some op) (hRl : R.length = c.deals.length) (hdl : c.deals.length <= 40) (hR : ∀ r ∈ R, RwOk r) (hop : -1000000000000 <= op /\ op <= 1000000000000) (hcl : g.cut.length <= 20) : XCall Tryz.prog 46 [.ptr 600 0, .d (.v (.int .i64 (j : Int)))] [isG c next T L S R, isB Bl] [isG c next T L S R, isB (if stF g (numG op (Yai g.name (c.deals.zip R))) = 0 then Bl.set j (clG g (numG op (Yai g.name (c.deals.zip R)))) else Bl)] (fun i => Nat.beq i 503 || Nat.ble 900 i) (.tup [.agg (if stF g (numG op (Yai g.name (c.deals.zip R))) = 0 then stG next g op (Yai g.name (c.deals.zip R)) else badG next g op (Yai g.name (c.deals.zip R))).ds, .v (.int .i64 (stF g (numG op (Yai g.name (c.deals.zip R)))))]) := by
 refine xcall_ofCT (n := 162) Tryz.func46 J (by kernel_rfl) J 4 59 5 7 J J ag_59 ?_
 intro B w0 F0 fr ρ0
 have hgd : (c.groups.map Grp.ds)[j]? = some g.ds := by rw [List.getElem?_map, hg]; rfl
 have hBd : (Bl.map intD)[j]? = some (intD op) := by rw [List.getElem?_map, hB]; rfl
 have hBl : j < (Bl.map intD).length := by rw [ZlM]; exact (ZgS.1 hB).1
 have hZl : (c.deals.zip R).length = c.deals.length := by rw [List.length_zip, hRl, Nat.min_self]
 have hNr := num_rng (op := op) hop (Yai g.name (c.deals.zip R)) (fun r hr => by
  obtain ⟨p, hp, e⟩ := rowsG_mem hr
  exact e ▸ hR _ (zip_mem2 hp))
 have hNl := rowsG_len g.name (c.deals.zip R)
 refine .sr (.alloc 904 J J J J zt_59 J J J ?_)
 refine .aN ?_
 refine .sr (.sA (.moveP J J) ?_)
 refine .sA (.nilCheckP J J) (.sA (.fieldAddrP J Yav J) (.sA (.fieldAddrP J Yay J) (.sA (.fieldAddrP J YaP J) (.sA (.loadP J Yce J (.tail _ (.head _)) J) ?_))))
 refine .mA ?_
 refine .sA (.indexAddr J et_34 J J j J hgd J) (.sA (.loadAgg J ag_128 J J) ?_)
 refine .alloc 1002 J J J J zt_128 J J J ?_
 refine .store J J J sz_128 J (.head _) J J J (ZnB J) ?_
 refine .freezeCells 6 (ds := g.ds) J (.head _) (.nil ?_)
 refine .seq (.drawFresh 17 [⟨7, 901, .ptr 901 0, .cells [.d (.v (.int .i64 0)), .d (.v (.string ⟨#[]⟩)), .d (.v (.slice none 0 0)), .d (.v (.int .i64 0)), .d (.v (.int .i64 0)), .d (.v (.slice none 0 0)), .d (.v (.int .i64 0))]⟩] (FrOk.one rfl (by simp) rfl rfl rfl) (by kernel_rfl) (by kernel_rfl) (by kernel_rfl) (by kernel_rfl) ?_)
 refine .step J J J (.moveP J J) ?_
 refine .step J J J (.nilCheckP J J) ?_
 refine .step J J J (.fieldAddrP J Yav J) ?_
 refine .step J J J (.fieldAddrP J YaB J) ?_
 refine .step J J J (.loadP J sc_3 J (.tail _ (.head _)) J) ?_
 refine .step J J J (.fieldAddr J Ya1 J) ?_
 refine .step J J J (.load J sc_9 J) ?_
 refine .step J J J (.moveP J J) ?_
 refine .step J J J (.nilCheckP J J) ?_
 refine .step J J J (.fieldAddrP J Yav J) ?_
 refine .step J J J (.fieldAddrP J Ybv J) ?_
 refine .step J J J (.loadP J YaO J (.tail _ (.head _)) J) ?_
 refine .step J J J (.moveD J J) ?_
 refine .step J J J (.indexOwn J et_37 J J (.tail _ (.tail _ (.head _))) j J hBl) ?_
 refine .step J J J (.loadRow J sc_3 J (.tail _ (.tail _ (.head _))) j 0 J hBd J) ?_
 refine .step J J J (.build J bu_59 (.cons J J (.cons J J (.cons J J .nil))) J) ?_
 refine .alloc _ (.head _) J J J J J zt_59 J J J J ?_
 refine .nil ⟨J, trivial⟩ ?_
 refine .store J J J sz_59 J (.head _) J J J (ZnB J) (.nil ?_)
 refine .seq (.adoptCell 902 114 5 901 2 (.head _) J J ?_)
 refine .region (.sA (.fieldAddrP J fo_59_3 J) ?_)
 refine .sA (.loadP J sc_3 J (.tail _ (.head _)) J) ?_
 refine .aN ?_
 refine .seq (.sr (.sA (.moveP J J) ?_))
 refine .sA (.nilCheckP J J) (.sA (.fieldAddrP J Yav J) (.sA (.fieldAddrP J Yay J) (.sA (.fieldAddrP J YaE J) (.sA (.loadP J YbI J (.tail _ (.tail _ (.tail _ (.head _)))) J) (.sA (.lenSl J et_33.ht J) ?_)))))
 refine .mN ?_
 refine .block (.loop (G := Nat) (fun k => Env.of [(53, .iv k), (51, .d (.sl (c.deals.map Deal.ds))), (52, .iv (c.deals.map Deal.ds).length), (0, .ptr 600 0), (1, .iv j), (4, .ptr 904 0), (6, .d (.fp g.ds)), (7, .ptr 901 0), (8, .d (.v (.int .i64 (numG op (Yai g.name ((c.deals.zip R).take k))))))]) (fun k => [(902, .row 114 5 ((Yai g.name ((c.deals.zip R).take k)).map Rw.ds)), (901, .cells [.d (.v (.int .i64 next)), .d (.v (.string g.name)), .own 902, .d (.v (.int .i64 op)), .d (.v (.int .i64 0)), .d (.v (.slice none 0 0)), .d (.v (.int .i64 0))]), (904, .cells [.d (.v (.int .i64 0)), .d (.v (.string ⟨#[]⟩)), .d (.v (.slice none 0 0)), .d (.v (.int .i64 0)), .d (.v (.int .i64 0)), .d (.v (.slice none 0 0)), .d (.v (.int .i64 0))]), isG c next T L S R, isB Bl]) (fun k => k <= c.deals.length) (fun k => c.deals.length - k) 0 (ZnZ _) (Sub.less ⟨U, U, U, U, U, U, U, U, U, trivial⟩ (in5 (.head _) (.tail _ (.head _)) (.tail _ (.tail _ (.head _))) (.tail _ (.tail _ (.tail _ (.head _)))) (.tail _ (.tail _ (.tail _ (.tail _ (.head _))))))) ?_)
 intro k hk
 refine .sr (.sA (.lss J J J) (.nil ?_))
 refine .seq (.cT J (fun h1 => ?_) fun h1 => ?_)
 ·rw [ZlM] at h1
  have hlt : k < c.deals.length := by omega
  have hkr : k < R.length := by omega
  have hkz : k < (c.deals.zip R).length := by omega
  have hkr2 := rows_rng (nm := g.name) (l := c.deals) (k := k) hR
  have hnk := num_rng (op := op) hop (Yai g.name ((c.deals.zip R).take k)) hkr2
  have hkl := rowsG_len g.name ((c.deals.zip R).take k)
  rw [ZlT] at hkl
  have hrk := hR _ (ZgM hkr)
  have re := hrk.e
  have rw_ := hrk.w
  have rr := hrk.rel
  have ra := hrk.a
  have hzg : (c.deals.zip R)[k].1 = c.deals[k] := by rw [List.getElem_zip]
  have hzr : (c.deals.zip R)[k].2 = R[k] := by rw [List.getElem_zip]
  refine .skip (.seq (.block (.sr (.mA ?_))))
  refine .sA (.indexAddr J et_33 J J k J (Yad hlt) J) (.sA (.loadAgg J ag_63 J J) ?_)
  refine .alloc 1004 J J J J zt_63 J J J ?_
  refine .aA ?_
  refine .store J J J sz_63 J (.head _) J J J (ZnB J) ?_
  refine .freezeCells 10 (ds := c.deals[k].ds) J (.head _) (.nil ?_)
  refine .sr (.sA (.fieldAddr J fo_63_1 J) ?_)
  refine .sA (.load J sc_9 J) (.sA (.fieldAddr J Ya1 J) (.sA (.load J sc_9 J) ?_))
  refine .sA (.seql J J J) (.nil ?_)
  refine .cT J (fun h2 => ?_) fun h2 => ?_
  ·have HRG := rowsG_y (nm := g.name) hkz (by rw [hzg]; exact h2)
   rw [hzr] at HRG
   refine .sr (.sA (.moveP J J) ?_)
   refine .sA (.nilCheckP J J) (.sA (.fieldAddrP J fo_108_2 J) (.sA (.loadP J sc_56 J (.tail _ (.tail _ (.tail _ (.head _)))) J) ?_))
   refine .mA ?_
   refine .sA (.indexAddr J et_56 J J k J (Yad (by omega)) J) ?_
   refine .sA (.loadAgg J Ycb J J) ?_
   refine .alloc 1005 J J J J zt_114 J J J ?_
   refine .store J J J sz_114 J (.head _) J J J (ZnB J) ?_
   refine .freezeCells 11 (ds := R[k].ds) J (.head _) (.nil ?_)
   refine .sr (.sA (.fieldAddrP J fo_59_2 J) ?_)
   refine .sA (.loadP J sc_56 J (.tail _ (.head _)) J) (.sA (.loadAgg J Ycb J J) ?_)
   refine .sA (.buildSlice J et_56 (.cons J J J .nil) J (by decide)) ?_
   -- append 74
   refine .append rfl rfl rfl rfl et_56 rfl (.head _) rfl (by simp [D.parts, Rw.ds]) (by simp; omega) (by simp; omega) ?_
   refine .sA (.fieldAddrP J fo_59_2 J) ?_
   refine .storeS J J J sz_56 J (.tail _ (.head _)) J (.head _) (ZnB J) (.nil ?_)
   refine .region (.mA ?_)
   refine .sA (.fieldAddr J fo_114_1 J) (.sA (.load J sc_3 J) (.sA (.fieldAddr J fo_114_2 J) (.sA (.load J sc_3 J) ?_)))
   refine .sA (.sub64 J J J) ?_
   refine .sA (.fieldAddr J fo_114_3 J) (.sA (.load J sc_3 J) ?_)
   refine .sA (.add64 J J J) ?_
   refine .sA (.fieldAddr J fo_114_4 J) (.sA (.load J sc_3 J) ?_)
   refine .sA (.sub64 J J J) ?_
   refine .sA (.add64 J J J) ?_
   refine .aN ?_
   refine .region (.sA (.add64 J J J) ?_)
   refine .mN ?_
   refine ⟨k + 1, (by omega), (by dsimp only; omega), Sub.less ⟨U, U, U, U, U, U, U, U, (SLe.i64 (by rw [HRG, num_snoc])), trivial⟩ (in5 (Yac (.head _) (by rw [HRG, ZmA]; first | done | rfl)) (.tail _ (.head _)) (.tail _ (.tail _ (.head _))) (.tail _ (.tail _ (.tail _ (.head _)))) (.tail _ (.tail _ (.tail _ (.tail _ (.head _))))))⟩
  have HRG := rowsG_n (nm := g.name) hkz (by rw [hzg]; exact h2)
  refine .skip (.region (.sA (.add64 J J J) ?_))
  refine .mN ?_
  refine ⟨k + 1, (by omega), (by dsimp only; omega), Sub.less ⟨U, U, U, U, U, U, U, U, (SLe.i64 (by rw [HRG])), trivial⟩ (in5 (Yac (.head _) (by rw [HRG]; first | done | rfl)) (.tail _ (.head _)) (.tail _ (.tail _ (.head _))) (.tail _ (.tail _ (.tail _ (.head _)))) (.tail _ (.tail _ (.tail _ (.tail _ (.head _))))))⟩
 rw [ZlM] at h1
 obtain rfl : k = c.deals.length := by omega
 rw [<- hZl, List.take_length]
 refine .exit (.seqJ ((stF g (numG op (Yai g.name (c.deals.zip R))) = if -1000000000000 <= (clG g (numG op (Yai g.name (c.deals.zip R)))) /\ (clG g (numG op (Yai g.name (c.deals.zip R)))) <= 1000000000000 then 0 else 2) /\ (¬ (-1000000000000 <= (clG g (numG op (Yai g.name (c.deals.zip R)))) /\ (clG g (numG op (Yai g.name (c.deals.zip R)))) <= 1000000000000) -> (pdG g (numG op (Yai g.name (c.deals.zip R)))) = 0 /\ (ptG g (numG op (Yai g.name (c.deals.zip R)))) = [])) (Env.of [(0, .ptr 600 0), (1, .iv j), (4, .ptr 904 0), (7, .ptr 901 0), (8, .d (.v (.int .i64 (clG g (numG op (Yai g.name (c.deals.zip R)))))))]) [(903, .row 135 2 ((ptG g (numG op (Yai g.name (c.deals.zip R)))).map Pd.ds)), (901, .cells [.d (.v (.int .i64 next)), .d (.v (.string g.name)), .d (.sl ((Yai g.name (c.deals.zip R)).map Rw.ds)), .d (.v (.int .i64 op)), .d (.v (.int .i64 (pdG g (numG op (Yai g.name (c.deals.zip R)))))), .own 903, .d (.v (.int .i64 0))]), (904, .cells [.d (.v (.int .i64 0)), .d (.v (.string ⟨#[]⟩)), .d (.v (.slice none 0 0)), .d (.v (.int .i64 0)), .d (.v (.int .i64 0)), .d (.v (.slice none 0 0)), .d (.v (.int .i64 0))]), isG c next T L S R, isB Bl] ?_ (fun hJ => ?_))
 ·skip
  refine .seq (.freezeIn 901 2 J (.head _) (.head _) ?_)
  refine .adoptCell 903 135 2 901 5 (.head _) J J ?_
  refine .region (.mA ?_)
  refine .sA (.fieldAddr J fo_128_1 J) (.sA (.load J sc_3 J) (.sA (.geq J J J) ?_))
  refine .mA ?_
  refine .sT 94 J (fun g3 => ?_) fun g3 => ?_
  ·have hmn := g3
   refine .sG (.moveD J J) ?_
   refine .sG (.gtr J J J) ?_
   refine .sA (.pickT J J J) (.nil ?_)
   refine .cT J (fun h4 => ?_) fun h4 => ?_
   ·have HPP : payP g (numG op (Yai g.name (c.deals.zip R))) := ⟨h4, hmn⟩
    have hwl : (wtS g).length = g.cut.length := ZlM ..
    refine .seq (.sr (.mA ?_))
    refine .sA (.gtr J J J) (.nil ?_)
    refine .cT J (fun h5 => ?_) fun h5 => ?_
    ·have HF : stF g (numG op (Yai g.name (c.deals.zip R))) = 2 := (if_pos HPP).trans (if_pos h5)
     rw [HF, if_neg two_ne, if_neg two_ne]
     refine .seq (.freezeIn 901 5 J (.head _) (.head _) ?_)
     refine .region (.sA (.loadPU J ag_59 J (.head _) J J) ?_)
     refine .store J J J sz_59 J (.tail _ (.head _)) J J J (ZnB J) ?_
     refine .aN ?_
     refine .freezeCells 4 (ds := [.v (.int .i64 next), .v (.string g.name), .sl ((Yai g.name (c.deals.zip R)).map Rw.ds), .v (.int .i64 op), .v (.int .i64 0), .sl (([] : List Pd).map Pd.ds), .v (.int .i64 0)]) J (.tail _ (.head _)) ?_
     refine .ret ?_
     refine ⟨⟨⟨_, J, J, Le.of_eq ?_⟩, _, J, Le.of_eq ?_⟩, ⟨Yac (.tail _ (.head _)) ?_, Yac (.tail _ (.tail _ (.head _))) ?_, trivial⟩⟩
     all_goals (first | rfl | (rw [HQ1, HQ2]; rfl) | (rw [List.map_set]; rfl))
    have HF : stF g (numG op (Yai g.name (c.deals.zip R))) = Yau (numG op (Yai g.name (c.deals.zip R))) (wtS g) := (if_pos HPP).trans (if_neg h5)
    refine .skip (.sr (.aN ?_))
    refine .seq (.sr (.sA (.fieldAddr J YaT J) ?_))
    refine .sA (.load J YbV J) (.sA (.lenSl J et_126.ht J) ?_)
    refine .mN ?_
    refine .block (.adopt 12 961 3 1 J J ?_)
    refine .loop (G := Nat) (fun k => Env.of [(104, .iv k), (102, .d (.sl (g.cut.map Stk.ds))), (103, .iv (g.cut.map Stk.ds).length), (12, .own 961), (0, .ptr 600 0), (1, .iv j), (4, .ptr 904 0), (6, .d (.fp g.ds)), (7, .ptr 901 0), (8, .iv (numG op (Yai g.name (c.deals.zip R))))]) (fun k => [(961, .row 3 1 (((wtS g).take k).map intD)), (903, .row 135 2 (([] : List Pd).map Pd.ds)), (901, .cells [.d (.v (.int .i64 next)), .d (.v (.string g.name)), .d (.sl ((Yai g.name (c.deals.zip R)).map Rw.ds)), .d (.v (.int .i64 op)), .d (.v (.int .i64 0)), .own 903, .d (.v (.int .i64 0))]), (904, .cells [.d (.v (.int .i64 0)), .d (.v (.string ⟨#[]⟩)), .d (.v (.slice none 0 0)), .d (.v (.int .i64 0)), .d (.v (.int .i64 0)), .d (.v (.slice none 0 0)), .d (.v (.int .i64 0))]), isG c next T L S R, isB Bl]) (fun k => k <= g.cut.length) (fun k => g.cut.length - k) 0 (ZnZ _) (Sub.less ⟨U, U, U, U, U, U, U, U, U, U, trivial⟩ (in6 (.head _) (.tail _ (.head _)) (.tail _ (.tail _ (.head _))) (.tail _ (.tail _ (.tail _ (.head _)))) (.tail _ (.tail _ (.tail _ (.tail _ (.head _))))) (.tail _ (.tail _ (.tail _ (.tail _ (.tail _ (.head _)))))))) ?_
    intro k hk
    refine .sr (.sA (.lss J J J) (.nil ?_))
    refine .seq (.cT J (fun h6 => ?_) fun h6 => ?_)
    ·rw [ZlM] at h6
     have hlt : k < g.cut.length := by omega
     refine .skip (.seq (.block (.sr (.sA (.indexAddr J et_126 J J k J (Yad hlt) J) ?_))))
     refine .sA (.loadAgg J ag_131 J J) ?_
     refine .alloc 1006 J J J J zt_131 J J J ?_
     refine .store J J J sz_131 J (.head _) J J J (ZnB J) ?_
     refine .freezeCells 14 (ds := g.cut[k].ds) J (.head _) (.nil ?_)
     refine .region (.sA (.moveO J J) ?_)
     refine .sA (.fieldAddr J fo_131_1 J) (.sA (.load J sc_3 J) ?_)
     refine .sA (.buildSlice J et_37 (.cons J J J .nil) J (by decide)) ?_
     -- append 112
     refine .append rfl rfl rfl rfl et_37 rfl (.head _) rfl (by simp [D.parts, Rw.ds]) (by simp; omega) (by simp; omega) ?_
     refine .sA (.assignO J J) (.nil ?_)
     refine .region (.sA (.add64 J J J) ?_)
     refine .mN ?_
     refine ⟨k + 1, (by omega), (by dsimp only; omega), Sub.less ⟨U, U, U, U, U, U, U, U, U, U, trivial⟩ (in6 (Yac (.head _) (by rw [Ycd (l := wtS g) (by rw [hwl]; exact hlt), ZmA]; simp [wtS, intD]; first | done | rfl)) (.tail _ (.head _)) (.tail _ (.tail _ (.head _))) (.tail _ (.tail _ (.tail _ (.head _)))) (.tail _ (.tail _ (.tail _ (.tail _ (.head _))))) (.tail _ (.tail _ (.tail _ (.tail _ (.tail _ (.head _)))))))⟩
    rw [ZlM] at h6
    obtain rfl : k = g.cut.length := by omega
    rw [<- hwl, List.take_length]
    refine .exit (.sr (.freeze 12 J (.head _) ?_))
    refine .mA ?_
    refine .mA ?_
    refine .sA (.call J (.cons (.rfl' J) (.cons (.rfl' J) .nil)) (c_pDiv (numG op (Yai g.name (c.deals.zip R))) (wtS g) (by show (g.cut.map Stk.weight).length <= 20; rw [ZlM]; exact hcl))) ?_
    rw [divR_I]
    refine .mA ?_
    refine .sA (.extract J J J) (.sA (.extract J J J) ?_)
    refine .aA ?_
    refine .aN ?_
    refine .seq (.sr (.mA ?_))
    refine .sA (.neq J J J) (.nil ?_)
    refine .cT J (fun h7 => ?_) fun h7 => ?_
    ·have HN := h7
     rw [HF, if_neg HN, if_neg HN]
     refine .seq (.freezeIn 901 5 J (.head _) (.head _) ?_)
     refine .region (.sA (.loadPU J ag_59 J (.head _) J J) ?_)
     refine .mA ?_
     refine .store J J J sz_59 J (.tail _ (.head _)) J J J (ZnB J) ?_
     refine .aN ?_
     refine .freezeCells 4 (ds := [.v (.int .i64 next), .v (.string g.name), .sl ((Yai g.name (c.deals.zip R)).map Rw.ds), .v (.int .i64 op), .v (.int .i64 0), .sl (([] : List Pd).map Pd.ds), .v (.int .i64 0)]) J (.tail _ (.head _)) ?_
     refine .ret ?_
     refine ⟨⟨⟨_, J, J, Le.of_eq ?_⟩, _, J, Le.of_eq ?_⟩, ⟨Yac (.tail _ (.head _)) ?_, Yac (.tail _ (.tail _ (.head _))) ?_, trivial⟩⟩
     all_goals (first | rfl | (rw [HQ1, HQ2]; rfl) | (rw [List.map_set]; rfl))
    have HD : Yau (numG op (Yai g.name (c.deals.zip R))) (wtS g) = 0 := Decidable.not_not.1 h7
    refine .skip (.seq (.sr (.sA (.fieldAddr J YaT J) ?_)))
    refine .sA (.load J YbV J) (.sA (.lenSl J et_126.ht J) ?_)
    refine .mN ?_
    refine .block (.loop (G := Nat) (fun k => Env.of [(127, .iv k), (125, .d (.sl (g.cut.map Stk.ds))), (126, .iv (g.cut.map Stk.ds).length), (15, .d (.sl ((divI (numG op (Yai g.name (c.deals.zip R))) (wtS g)).map intD))), (0, .ptr 600 0), (1, .iv j), (4, .ptr 904 0), (6, .d (.fp g.ds)), (7, .ptr 901 0), (8, .iv (numG op (Yai g.name (c.deals.zip R))))]) (fun k => [(903, .row 135 2 (((ptsG g (numG op (Yai g.name (c.deals.zip R)))).take k).map Pd.ds)), (901, .cells [.d (.v (.int .i64 next)), .d (.v (.string g.name)), .d (.sl ((Yai g.name (c.deals.zip R)).map Rw.ds)), .d (.v (.int .i64 op)), .d (.v (.int .i64 0)), .own 903, .d (.v (.int .i64 0))]), (904, .cells [.d (.v (.int .i64 0)), .d (.v (.string ⟨#[]⟩)), .d (.v (.slice none 0 0)), .d (.v (.int .i64 0)), .d (.v (.int .i64 0)), .d (.v (.slice none 0 0)), .d (.v (.int .i64 0))]), isG c next T L S R, isB Bl]) (fun k => k <= g.cut.length) (fun k => g.cut.length - k) 0 (ZnZ _) (Sub.less ⟨U, U, U, U, U, U, U, U, U, U, trivial⟩ (in5 (.head _) (.tail _ (.head _)) (.tail _ (.tail _ (.head _))) (.tail _ (.tail _ (.tail _ (.head _)))) (.tail _ (.tail _ (.tail _ (.tail _ (.head _))))))) ?_)
    intro k hk
    refine .sr (.sA (.lss J J J) (.nil ?_))
    refine .seq (.cT J (fun h8 => ?_) fun h8 => ?_)
    ·rw [ZlM] at h8
     have hlt : k < g.cut.length := by omega
     have hpk : k < (ptsG g (numG op (Yai g.name (c.deals.zip R)))).length := by unfold ptsG; rw [List.length_zipWith, divI_len HD, hwl, Nat.min_self]; exact hlt
     have HPK := Ycd hpk
     have HPE : (ptsG g (numG op (Yai g.name (c.deals.zip R))))[k] = ⟨g.cut[k].party, (divI (numG op (Yai g.name (c.deals.zip R))) (wtS g))[k]'(by rw [divI_len HD, hwl]; exact hlt)⟩ := ptsG_at hpk hlt _
     refine .skip (.seq (.block (.sr (.mA ?_))))
     refine .sA (.indexAddr J et_126 J J k J (Yad hlt) J) (.sA (.loadAgg J ag_131 J J) ?_)
     refine .alloc 1007 J J J J zt_131 J J J ?_
     refine .aA ?_
     refine .store J J J sz_131 J (.head _) J J J (ZnB J) ?_
     refine .freezeCells 18 (ds := g.cut[k].ds) J (.head _) (.nil ?_)
     refine .drawTail 10 (by kernel_rfl) (by kernel_rfl) (by kernel_rfl) ?_
     refine .sA (.fieldAddrP J fo_59_5 J) (.sA (.loadP J sc_57 J (.tail _ (.head _)) J) (.sA (.fieldAddr J Yb9 J) (.sA (.load J sc_9 J) (.sA (.moveD J J) (.sA (.moveD J J) ?_)))))
     refine .sA (.indexAddr J et_37 J J k J (Yad (by rw [divI_len HD, hwl]; exact hlt)) J) ?_
     refine .sA (.load J sc_3 J) (.sA (.build J bu_135 (.cons J J (.cons J J .nil)) J) ?_)
     refine .sA (.buildSlice J et_57 (.cons J J J .nil) J (by decide)) ?_
     refine .nil ?_
     -- append 142
     refine .append rfl rfl rfl rfl et_57 rfl (.head _) rfl (by simp [D.parts, Rw.ds]) (by simp; omega) (by simp; omega) ?_
     refine .sA (.fieldAddrP J fo_59_5 J) ?_
     refine .storeS J J J sz_57 J (.tail _ (.head _)) J (.head _) (ZnB J) (.nil ?_)
     refine .region (.sA (.add64 J J J) ?_)
     refine .mN ?_
     refine ⟨k + 1, (by omega), (by dsimp only; omega), Sub.less ⟨U, U, U, U, U, U, U, U, U, U, trivial⟩ (in5 (Yac (.head _) (by rw [HPK, HPE, ZmA]; rfl)) (.tail _ (.head _)) (.tail _ (.tail _ (.head _))) (.tail _ (.tail _ (.tail _ (.head _)))) (.tail _ (.tail _ (.tail _ (.tail _ (.head _))))))⟩
    rw [ZlM] at h8
    obtain rfl : k = g.cut.length := by omega
    have hpl : (ptsG g (numG op (Yai g.name (c.deals.zip R)))).length = g.cut.length := by unfold ptsG; rw [List.length_zipWith, divI_len HD, hwl, Nat.min_self]
    rw [<- hpl, List.take_length]
    have HPD : (pdG g (numG op (Yai g.name (c.deals.zip R)))) = (numG op (Yai g.name (c.deals.zip R))) := if_pos HPP
    have HPT : (ptG g (numG op (Yai g.name (c.deals.zip R)))) = ptsG g (numG op (Yai g.name (c.deals.zip R))) := if_pos HPP
    have HCL : (clG g (numG op (Yai g.name (c.deals.zip R)))) = 0 := if_pos HPP
    have HP30 : stF g (numG op (Yai g.name (c.deals.zip R))) = if (-1000000000000 : Int) <= 0 /\ (0 : Int) <= 1000000000000 then 0 else 2 := by rw [HF, HD, if_pos (by decide)]
    refine .exit (.region (.mA ?_))
    refine .sA (.fieldAddrP J fo_59_4 J) ?_
    refine .store J J J sz_3 J (.tail _ (.head _)) J J J (ZnB J) ?_
    refine .aN ?_
    refine ⟨?_, Sub.less ⟨U, U, U, U, (SLe.i64 (by rw [HCL])), trivial⟩ (in5 (Yac (.head _) (by rw [HPT]; first | done | rfl)) (Yac (.tail _ (.head _)) (by rw [HPD]; first | done | rfl)) (.tail _ (.tail _ (.head _))) (.tail _ (.tail _ (.tail _ (.head _)))) (.tail _ (.tail _ (.tail _ (.tail _ (.head _))))))⟩
    rw [HCL]
    exact ⟨HP30, fun hh => by first | exact ⟨HPD, HPT⟩ | exact absurd (by decide) hh⟩
   have HNP : ¬ payP g (numG op (Yai g.name (c.deals.zip R))) := fun hh => h4 hh.1
   have HPD : (pdG g (numG op (Yai g.name (c.deals.zip R)))) = 0 := if_neg HNP
   have HPT : (ptG g (numG op (Yai g.name (c.deals.zip R)))) = [] := if_neg HNP
   have HCL : (clG g (numG op (Yai g.name (c.deals.zip R)))) = (numG op (Yai g.name (c.deals.zip R))) := if_neg HNP
   have HP30 : stF g (numG op (Yai g.name (c.deals.zip R))) = if -1000000000000 <= (numG op (Yai g.name (c.deals.zip R))) /\ (numG op (Yai g.name (c.deals.zip R))) <= 1000000000000 then 0 else 2 := if_neg HNP
   refine .skip ?_
   refine ⟨?_, Sub.less ⟨U, U, U, U, (SLe.i64 (by rw [HCL])), trivial⟩ (in5 (Yac (.head _) (by rw [HPT]; first | done | rfl)) (Yac (.tail _ (.head _)) (by rw [HPD]; first | done | rfl)) (.tail _ (.tail _ (.head _))) (.tail _ (.tail _ (.tail _ (.head _)))) (.tail _ (.tail _ (.tail _ (.tail _ (.head _))))))⟩
   rw [HCL]
   exact ⟨HP30, fun hh => by first | exact ⟨HPD, HPT⟩ | exact absurd (by decide) hh⟩
  have HNP : ¬ payP g (numG op (Yai g.name (c.deals.zip R))) := fun hh => g3 hh.2
  have HPD : (pdG g (numG op (Yai g.name (c.deals.zip R)))) = 0 := if_neg HNP
  have HPT : (ptG g (numG op (Yai g.name (c.deals.zip R)))) = [] := if_neg HNP
  have HCL : (clG g (numG op (Yai g.name (c.deals.zip R)))) = (numG op (Yai g.name (c.deals.zip R))) := if_neg HNP
  have HP30 : stF g (numG op (Yai g.name (c.deals.zip R))) = if -1000000000000 <= (numG op (Yai g.name (c.deals.zip R))) /\ (numG op (Yai g.name (c.deals.zip R))) <= 1000000000000 then 0 else 2 := if_neg HNP
  refine .pA ?_
  refine .pA ?_
  refine .sA (.pickF J J J) (.nil ?_)
  refine .cond J (fun h => nomatch h) (fun _ => ?_)
  refine .skip ?_
  refine ⟨?_, Sub.less ⟨U, U, U, U, (SLe.i64 (by rw [HCL])), trivial⟩ (in5 (Yac (.head _) (by rw [HPT]; first | done | rfl)) (Yac (.tail _ (.head _)) (by rw [HPD]; first | done | rfl)) (.tail _ (.tail _ (.head _))) (.tail _ (.tail _ (.tail _ (.head _)))) (.tail _ (.tail _ (.tail _ (.tail _ (.head _))))))⟩
  rw [HCL]
  exact ⟨HP30, fun hh => by first | exact ⟨HPD, HPT⟩ | exact absurd (by decide) hh⟩
 refine .seq (.seq (.freezeIn 901 5 J (.head _) (.head _) ?_))
 refine .region (.mA ?_)
 refine .sA (.call J (.cons (.rfl' J) (.cons (.rfl' J) (.cons (.rfl' J) .nil))) (YbG _ _ _)) ?_
 refine .sA (.not J J) (.nil ?_)
 refine .cN J (fun h9 => ?_) fun h9 => ?_
 ·obtain ⟨HP, HQ⟩ := hJ
  obtain ⟨HQ1, HQ2⟩ := HQ h9
  rw [if_neg h9] at HP
  rw [HP, if_neg two_ne, if_neg two_ne]
  refine .sr (.sA (.loadPU J ag_59 J (.head _) J J) ?_)
  refine .store J J J sz_59 J (.tail _ (.head _)) J J J (ZnB J) ?_
  refine .aN ?_
  refine .freezeCells 4 (ds := [.v (.int .i64 next), .v (.string g.name), .sl ((Yai g.name (c.deals.zip R)).map Rw.ds), .v (.int .i64 op), .v (.int .i64 (pdG g (numG op (Yai g.name (c.deals.zip R))))), .sl ((ptG g (numG op (Yai g.name (c.deals.zip R)))).map Pd.ds), .v (.int .i64 0)]) J (.tail _ (.head _)) ?_
  refine .ret ?_
  refine ⟨⟨⟨_, J, J, Le.of_eq ?_⟩, _, J, Le.of_eq ?_⟩, ⟨Yac (.tail _ (.head _)) ?_, Yac (.tail _ (.tail _ (.head _))) ?_, trivial⟩⟩
  all_goals (first | rfl | (rw [HQ1, HQ2]; rfl) | (rw [List.map_set]; rfl))
 obtain ⟨HP, HQ⟩ := hJ
 rw [if_pos h9] at HP
 rw [HP, if_pos rfl, if_pos rfl]
 refine .skip (.seq (.drawH (fun k => (Nat.beq k 9 || Nat.beq k 11) || Nat.beq k 10) (fun k => Nat.beq k 9 || Nat.beq k 11) (fun τ => isG c next T L S R ∈ τ) (fun k h => ZbO.2 (.inl h)) (by kernel_rfl) (by kernel_rfl) (by kernel_rfl) ?_))
 refine .step J J J (.tail _ (.tail _ (.head _))) (fun τ hτ => AOp.moveP J J) ?_
 refine .step J J J (.tail _ (.tail _ (.head _))) (fun τ hτ => AOp.nilCheckP J J) ?_
 refine .step J J J (.tail _ (.tail _ (.head _))) (fun τ hτ => AOp.fieldAddrP J Yav J) ?_
 refine .step J J J (.tail _ (.tail _ (.head _))) (fun τ hτ => AOp.fieldAddrP J Ybv J) ?_
 refine .step J J J (.tail _ (.tail _ (.head _))) (fun τ hτ => AOp.loadP (s := .own 503) J YaO J hτ J) ?_
 refine .step J J J (.tail _ (.tail _ (.head _))) (fun τ hτ => AOp.moveD J J) ?_
 refine .step J J J (.tail _ (.tail _ (.head _))) (fun τ hτ => AOp.moveD J J) ?_
 refine .step J J J (.tail _ (.tail _ (.head _))) (fun τ hτ => AOp.moveD J J) ?_
 refine .step J J J (.tail _ (.tail _ (.head _))) (fun τ hτ => AOp.fieldAddrP J YbJ J) ?_
 refine .eff J J J (.store J J sz_3 J (.head _) J J J (ZnB J)) (.tail _ (.tail _ (.head _))) (.tail _ (.tail _ (.head _))) ?_
 refine .stepS J J J J (.indexOwn J et_37 J J (.tail _ (.tail _ (.tail _ (.head _)))) j J hBl) ?_
 refine .eff J J J (.storeRow J J sz_3 J (.tail _ (.tail _ (.tail _ (.head _)))) J J J j 0 J hBd (ZnB J)) (.tail _ (.tail _ (.head _))) (.tail _ (.tail _ (.head _))) ?_
 refine .nil ?_
 refine .sr (.sA (.loadPU J ag_59 J (.head _) J J) ?_)
 refine .store J J J sz_59 J (.tail _ (.head _)) J J J (ZnB J) ?_
 refine .aN ?_
 refine .freezeCells 4 (ds := [.v (.int .i64 next), .v (.string g.name), .sl ((Yai g.name (c.deals.zip R)).map Rw.ds), .v (.int .i64 op), .v (.int .i64 (pdG g (numG op (Yai g.name (c.deals.zip R))))), .sl ((ptG g (numG op (Yai g.name (c.deals.zip R)))).map Pd.ds), .v (.int .i64 (clG g (numG op (Yai g.name (c.deals.zip R)))))]) J (.tail _ (.head _)) ?_
 refine .ret ?_
 refine ⟨⟨⟨_, J, J, Le.of_eq ?_⟩, _, J, Le.of_eq ?_⟩, ⟨Yac (.tail _ (.head _)) ?_, Yac (.tail _ (.tail _ (.head _))) ?_, trivial⟩⟩
 all_goals (first | rfl | (rw [HQ1, HQ2]; rfl) | (rw [List.map_set]; rfl))
end
end Go.Proofs.YtcfamaddnmnaeaaGreatDoor
