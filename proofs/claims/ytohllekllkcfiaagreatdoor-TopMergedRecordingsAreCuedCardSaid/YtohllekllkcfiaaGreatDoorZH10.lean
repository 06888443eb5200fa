/- Walks and laws over abstract values, merged by tools/merge.py. No statement of the seat. -/
import Derived.Test.YtohllekllkcfiaaGreatDoorZH9
set_option linter.unusedSectionVars false
set_option linter.unusedSimpArgs false
set_option linter.unusedVariables false
set_option maxHeartbeats 4000000
set_option maxRecDepth 100000
open List renaming length_map -> ZlM, getElem?_eq_getElem -> ZgE, getElem_mem -> ZgM, length_take -> ZlT, map_append -> ZmA, length_append -> ZlA, length_drop -> ZlD, mem_singleton -> ZmS, mem_map -> ZmM, getElem?_drop -> ZgO
open Nat renaming le_of_ble_eq_true -> ZnB, zero_le -> ZnZ, le_refl -> ZnR, le_trans -> ZnT
open Bool renaming and_eq_true -> ZbA
namespace Go.Proofs.YtohllekllkcfiaaGreatDoor
open Go.RowKit
namespace Ty
theorem et_91 : ElemTy Tryz.prog 91 59 1 24 (.slice none 0 0) := ⟨by kernel_rfl, by kernel_rfl, by kernel_rfl, by decide⟩
theorem sc_59 : Scal Tryz.prog 59 := .of (by kernel_rfl)
end Ty
open Ty
open Go.Lib
def ends (l : List Spn) : List Int := l.flatMap fun s => [s.lo, s.hi]
def Yda (l : List Spn) (j : Nat) : List Int := (l.take j).flatMap fun s => [s.lo, s.hi]
theorem Ygu {l : List Spn} {j : Nat} (h : j < l.length) : Yda l (j + 1) = Yda l j ++ [(l.getD j default).lo, (l.getD j default).hi] := by
 unfold Yda;rw [List.take_add_one, ZgE h, Option.toList_some, List.flatMap_append];simp [h]
theorem endTo2_all (l : List Spn) : Yda l l.length = ends l := by unfold Yda; rw [List.take_length]; rfl
theorem YdI (l : List Spn) : ∀ j, (Yda l j).length <= 2 * j
 | 0 => by simp [Yda]
 | j + 1 => by
  by_cases h : j < l.length
  ·have := YdI l j;rw [Ygu h, ZlA];simp only [List.length_cons, List.length_nil];omega
  ·have := YdI l j;have e : Yda l (j + 1) = Yda l j := by unfold Yda; rw [List.take_of_length_le (by omega), List.take_of_length_le (by omega)]
   rw [e]; omega
def pk (a b : List Spn) (k : Nat) : List Spn := if k = 0 then a else b
def preE (a b : List Spn) (k : Nat) : List Int := if k = 0 then [] else if k = 1 then ends a else ends a ++ ends b
theorem at_pk {a b : List Spn} {k : Nat} (h : k < 2) : [[D.sl (a.map Spn.ds)], [D.sl (b.map Spn.ds)]][k]? = some [D.sl ((pk a b k).map Spn.ds)] := by
 match k, h with
 | 0, _ => rfl
 | 1, _ => rfl
theorem preE_next {a b : List Spn} {k : Nat} (h : k < 2) : preE a b k ++ ends (pk a b k) = preE a b (k + 1) := by
 match k, h with
 | 0, _ => rfl
 | 1, _ => rfl
theorem YfI (l : List Spn) : (ends l).length <= 2 * l.length := by rw [<- endTo2_all]; exact YdI _ _
theorem preE_len (a b : List Spn) (k : Nat) : (preE a b k).length <= 2 * a.length + 2 * b.length := by
 have h1 := YfI a;have h2 := YfI b;unfold preE;split
 ·simp
 ·split
  ·omega
  ·rw [ZlA]; omega
def edgs (a b : List Spn) : List Int := kcomp (ends a ++ ends b)
def eA (a b : List Spn) (k : Nat) : Int := (edgs a b).getD k default
theorem at_eA {a b : List Spn} {k : Nat} (h : k < (edgs a b).length) : ((edgs a b).map intD)[k]? = some (intD (eA a b k)) := Yca h
theorem edgs_len (a b : List Spn) : (edgs a b).length <= 2 * a.length + 2 * b.length := by
 have h1 := YfI a;have h2 := YfI b;refine ZnT (kcomp_len _) ?_;rw [ZlA]; omega
def advS (l : List Spn) (i : Nat) (p : Int) : Nat := if h : i < l.length then (if (l.getD i default).hi <= p then advS l (i + 1) p else i) else i
termination_by l.length - i
theorem advS_go {l : List Spn} {i : Nat} {p : Int} (h : i < l.length) (h2 : (l.getD i default).hi <= p) : advS l i p = advS l (i + 1) p := by rw [advS, dif_pos h, if_pos h2]
theorem YbI {l : List Spn} {i : Nat} {p : Int} (h : ¬ (i < l.length /\ (l.getD i default).hi <= p)) : advS l i p = i := by
 rw [advS];split
 ·rename_i h3;rw [if_neg (fun h4 => h ⟨h3, h4⟩)]
 ·rfl
def onS (l : List Spn) (i : Nat) (p : Int) : Bool := decide (i < l.length /\ (l.getD i default).lo <= p)
def swSt (a b : List Spn) : Nat -> Nat × Nat × List Spn
 | 0 => (0, 0, [])
 | k + 1 => (advS a (swSt a b k).1 (eA a b k), advS b (swSt a b k).2.1 (eA a b k), if (onS a (advS a (swSt a b k).1 (eA a b k)) (eA a b k) || onS b (advS b (swSt a b k).2.1 (eA a b k)) (eA a b k)) = true then apdL (swSt a b k).2.2 (eA a b k) (eA a b (k + 1)) else (swSt a b k).2.2)
def Ye2 (a b : List Spn) : List Spn := (swSt a b ((edgs a b).length - 1)).2.2
theorem swSt_len (a b : List Spn) : ∀ k, (swSt a b k).2.2.length <= k
 | 0 => ZnR _
 | k + 1 => by
  have ih := swSt_len a b k;show (if _ then _ else _ : List Spn).length <= _
  split
  ·exact ZnT (apdL_len _ _ _) (Nat.succ_le_succ ih)
  ·omega
theorem advS_le {l : List Spn} {p : Int} : ∀ (n i : Nat), l.length - i <= n -> i <= l.length -> advS l i p <= l.length
 | 0, i, h, hi => by rw [YbI (by omega)]; exact hi
 | n + 1, i, h, hi => by
  by_cases h2 : i < l.length /\ (l.getD i default).hi <= p
  ·rw [advS_go h2.1 h2.2]; exact advS_le n (i + 1) (by omega) (by omega)
  ·rw [YbI h2]; exact hi
theorem swSt_ij (a b : List Spn) : ∀ k, (swSt a b k).1 <= a.length /\ (swSt a b k).2.1 <= b.length
 | 0 => ⟨ZnZ _, ZnZ _⟩
 | k + 1 => ⟨advS_le _ _ (ZnR _) (swSt_ij a b k).1, advS_le _ _ (ZnR _) (swSt_ij a b k).2⟩
theorem on_t {l : List Spn} {i : Nat} {p : Int} (h : i < l.length) : onS l i p = decide ((l.getD i default).lo <= p) := Yai ⟨fun h2 => h2.2, fun h2 => ⟨h, h2⟩⟩
theorem on_f {l : List Spn} {i : Nat} {p : Int} (h : ¬ i < l.length) : onS l i p = false := decide_eq_false fun h2 => h h2.1
theorem c_orB (x y : Bool) : Yad Tryz.prog 15 [.v (.bool x), .v (.bool y)] (.v (.bool (x || y))) := by
 refine Yab (n := 9) (ds' := [.v (.bool (x || y))]) Tryz.func15 J (by kernel_rfl) J [4] J J ?_;intro B w0 F0 fr;refine .sr (.aN ?_);refine .sr (.mm ?_);refine .split 6 J (fun g1 => ?_) (fun g1 => ?_)
 ·skip;refine .pA ?_;refine .sA (.pickT J J J) ?_;refine .aN ?_;refine .ret (rDq J ?_)
  all_goals (cases x <;> cases y <;> simp_all)
 refine .sG (.moveD J J) ?_;refine .sA (.pickF J J J) ?_;refine .aN ?_;refine .ret (rDq J ?_)
 all_goals (cases x <;> cases y <;> simp_all)
theorem c_sweep (a b : List Spn) (ha : a.length <= 10000000) (hb : b.length <= 10000000) : Yad Tryz.prog 13 [.sl (a.map Spn.ds), .sl (b.map Spn.ds), .clo (.func 15) []] (.sl ((Ye2 a b).map Spn.ds)) := by
 refine Yab (n := 125) (ds' := [.sl ((Ye2 a b).map Spn.ds)]) Tryz.func13 J (by kernel_rfl) J [6] J J ?_;intro B w0 F0 fr;have hel := edgs_len a b;have hpl := preE_len a b 2;refine .sr (.aN ?_);refine .sr (.aN ?_);refine .seq (.sr (.mm ?_));refine .sA (.buildSlice J et_91 (.cons J J J (.cons J J J .nil)) J (by decide)) ?_;refine .sA (.lenSl J et_91.ht J) ?_;refine .mN ?_;refine .block (.adopt 7 902 3 1 J J ?_);refine .loop (G := Nat) (fun q => Env.of [(22, .iv q), (20, .d (.sl [[.sl (a.map Spn.ds)], [.sl (b.map Spn.ds)]])), (21, .d (.v (.int .i64 2))), (7, .own 902), (0, .d (.sl (a.map Spn.ds))), (1, .d (.sl (b.map Spn.ds))), (2, .d (.clo (.func 15) []))]) (fun q => [(902, .row 3 1 ((preE a b q).map intD))]) (fun q => q <= 2) (fun q => 2 - q) 0 (ZnZ _) (Sub.less ⟨U, U, U, U, U, U, U, trivial⟩ (fun _ h => h)) ?_;intro q hq;refine .sr (.sA (.lss J J J) (.nil ?_));refine .seq (.cT J (fun h1 => ?_) fun h1 => ?_)
 ·have hq2 : q < 2 := by omega
  have hql := preE_len a b q;refine .skip (.seq (.block (.sr (.sA (.indexAddr J et_91 J J q J (at_pk hq2) J) ?_))));refine .sA (.load J sc_59 J) ?_;refine .aN ?_;refine .sr (.mA ?_);refine .sA (.lenSl J et_59.ht J) ?_;rw [ZlM];refine .mN ?_;refine .block (.loop (G := Nat) (fun j => Env.of [(28, .iv j), (26, .d (.sl ((pk a b q).map Spn.ds))), (27, .iv (pk a b q).length), (22, .iv q), (20, .d (.sl [[.sl (a.map Spn.ds)], [.sl (b.map Spn.ds)]])), (21, .d (.v (.int .i64 2))), (7, .own 902), (0, .d (.sl (a.map Spn.ds))), (1, .d (.sl (b.map Spn.ds))), (2, .d (.clo (.func 15) []))]) (fun j => [(902, .row 3 1 ((preE a b q ++ Yda (pk a b q) j).map intD))]) (fun j => j <= (pk a b q).length) (fun j => (pk a b q).length - j) 0 (ZnZ _) (Sub.less ⟨U, U, U, U, U, U, U, U, U, U, trivial⟩ (fun p h => by rw [show Yda (pk a b q) 0 = [] from J, List.append_nil] at h; exact h)) ?_);intro j hj;refine .sr (.sA (.lss J J J) (.nil ?_));refine .seq (.cT J (fun h2 => ?_) fun h2 => ?_)
  ·have hjl : j < (pk a b q).length := by omega
   have hpk : (pk a b q).length <= 10000000 := by unfold pk; split <;> assumption
   have hjl2 := YdI (pk a b q) j;refine .skip (.seq (.block (.sr (.sA (.indexAddr J et_59 J J j J (Yca hjl) J) ?_))));refine .sA (.loadAgg J ag_64 J J) ?_;refine .alloc 101 J J J J zt_64 J J J ?_;refine .st J J J sz_64 J (.head _) J J J (ZnB J) (.nil ?_);refine .region (.sA (.moveO J J) ?_);refine .sA (.fieldAddrP J Yd4 J) (.sA (.loadP J sc_3 J (.head _) J) (.sA (.fieldAddrP J YbK J) (.sA (.loadP J sc_3 J (.head _) J) ?_)));refine .sA (.buildSlice J et_34 (.cons J J J (.cons J J J .nil)) J (by decide)) ?_
   -- append 38
   refine .append rfl rfl rfl rfl et_34 rfl (.tail _ (.head _)) rfl (by simp [D.parts]) (by simp only [ZlM, ZlA, List.length_cons, List.length_nil]; omega) (by simp only [ZlM, ZlA, List.length_cons, List.length_nil]; omega) ?_;refine .sA (.assignO J J) (.nil ?_);refine .region (.sA (.add64 J J J) ?_);refine .mN ?_;refine ⟨j + 1, (by omega), (by dsimp only; omega), Sub.less ⟨U, U, U, U, U, U, U, U, U, U, trivial⟩ (fun p h => by dsimp only at h; rw [Ygu hjl, <- List.append_assoc, ZmA] at h; rw [ZmS.1 h]; exact (.tail _ (.head _)))⟩
  obtain rfl : j = (pk a b q).length := by omega
  rw [endTo2_all, preE_next hq2];refine .exit (.region (.sA (.add64 J J J) ?_));refine .mN ?_;refine ⟨q + 1, (by omega), (by dsimp only; omega), Sub.less ⟨U, U, U, U, U, U, U, trivial⟩ (fun _ h => h)⟩
 obtain rfl : q = 2 := by omega
 refine .exit (.sr (.sA (.moveO J J) ?_))
 -- turns 902
 refine .callX J J J (.cons U .nil) ((Ygw (preE a b 2) (by omega) 3) 902) ⟨(.head _), trivial⟩ J J (fun _ h => nomatch h) ?_;skip;refine .nil ?_;refine .sr (.sA (.moveO J J) ?_)
 -- takes 902
 refine .callX J J J (.cons U .nil) ((YeY (Ybv (preE a b 2)) (by rw [(Ybe _).length_eq]; omega) 3) 902) ⟨(.head _), trivial⟩ J J (fun _ h => nomatch h) ?_;rw [show compact (Ybv (preE a b 2)) = edgs a b from rfl];refine .aN ?_;refine .sr (.aN ?_);refine .sr (.aa (.nil ?_));refine .seq (.sr (.aN ?_));refine .block (.adopt 12 901 64 2 J J ?_);refine .loop (G := Nat) (fun k => Env.of [(15, .iv k), (13, .iv ((swSt a b k).1 : Int)), (14, .iv ((swSt a b k).2.1 : Int)), (7, .d (.sl ((edgs a b).map intD))), (12, .own 901), (0, .d (.sl (a.map Spn.ds))), (1, .d (.sl (b.map Spn.ds))), (2, .d (.clo (.func 15) []))]) (fun k => [(901, .row 64 2 (((swSt a b k).2.2).map Spn.ds))]) (fun k => k + 1 <= (edgs a b).length \/ k = 0) (fun k => (edgs a b).length - k) 0 (.inr J) (Sub.less ⟨U, U, U, U, U, U, U, U, trivial⟩ (fun _ h => h)) ?_;intro k hk;refine .seq (.sr (.mA ?_));refine .sA (.add64 J J J) ?_;refine .mA ?_;refine .sA (.lenSl J et_34.ht J) ?_;rw [ZlM];refine .sA (.lss J J J) (.nil ?_);refine .cT J (fun h3 => ?_) fun h3 => ?_
 ·have hk1 : k + 1 < (edgs a b).length := by omega
  have hsl := swSt_len a b k;refine .skip (.seq (.block (.seq (.drw 11 ?_))));refine .sA (.moveD J J) (.sA (.moveD J J) ?_);refine .sA (.indexAddr J et_34 J J k J (at_eA (by omega)) J) ?_;refine .sA (.load J sc_3 J) (.sA (.moveD J J) (.sA (.moveD J J) ?_));refine .sA (.add64 J J J) ?_;refine .sA (.indexAddr J et_34 J J (k + 1) J (at_eA hk1) J) (.sA (.load J sc_3 J) (.sA (.assignD J J) (.sA (.assignD J J) ?_)));refine .nil ?_;refine .nil ?_;refine .seqJ (True) (Env.of [(13, .iv ((advS a (swSt a b k).1 (eA a b k)) : Int)), (14, .iv ((swSt a b k).2.1 : Int)), (7, .d (.sl ((edgs a b).map intD))), (12, .own 901), (15, .iv k), (16, .iv (eA a b k)), (17, .iv (eA a b (k + 1))), (0, .d (.sl (a.map Spn.ds))), (1, .d (.sl (b.map Spn.ds))), (2, .d (.clo (.func 15) []))]) [(901, .row 64 2 (((swSt a b k).2.2).map Spn.ds))] ?_ (fun _ => ?_)
  ·skip;refine .block (.loop (G := Nat) (fun i => Env.of [(13, .iv i), (14, .iv ((swSt a b k).2.1 : Int)), (7, .d (.sl ((edgs a b).map intD))), (12, .own 901), (15, .iv k), (16, .iv (eA a b k)), (17, .iv (eA a b (k + 1))), (0, .d (.sl (a.map Spn.ds))), (1, .d (.sl (b.map Spn.ds))), (2, .d (.clo (.func 15) []))]) (fun i => [(901, .row 64 2 (((swSt a b k).2.2).map Spn.ds))]) (fun i => i <= a.length + 1 /\ advS a i (eA a b k) = (advS a (swSt a b k).1 (eA a b k))) (fun i => a.length - i) (swSt a b k).1 ⟨by have := swSt_ij a b k; omega, J⟩ (Sub.less ⟨U, U, U, U, U, U, U, U, U, U, trivial⟩ (fun _ h => h)) ?_);intro i hi;refine .seq (.sr (.mm ?_));refine .sA (.lenSl J et_59.ht J) ?_;rw [ZlM];refine .sA (.lss J J J) ?_;refine .mA ?_;refine .sT 65 J (fun g4 => ?_) fun g4 => ?_
   ·have hil : i < a.length := by omega
    refine .sG (.moveD J J) ?_;refine .sG (.moveD J J) ?_;refine .sG (.indexAddr J et_59 J J i J (Yca hil) J) ?_;refine .sG (.fieldAddr J YbK J) ?_;refine .sG (.load J sc_3 J) ?_;refine .sG (.moveD J J) ?_;refine .sG (.leq J J J) ?_;refine .sA (.pickT J J J) (.nil ?_);refine .cT J (fun h5 => ?_) fun h5 => ?_
    ·have hgo := advS_go hil h5;refine .skip (.block (.region (.mA ?_)));refine .sA (.add64 J J J) ?_;refine .aN ?_;refine ⟨i + 1, ⟨by omega, by rw [<- hgo]; exact hi.2⟩, (by dsimp only; omega), Sub.less ⟨(SLe.i64 (by omega)), U, U, U, U, U, U, U, U, U, trivial⟩ (fun _ h => h)⟩
    have hst := YbI (l := a) (i := i) (p := eA a b k) (fun hh => h5 hh.2);rw [hi.2] at hst;refine .exit ?_;refine ⟨?_, Sub.less ⟨(SLe.i64 (by rw [hst])), U, U, U, U, U, U, U, U, U, trivial⟩ (fun _ h => h)⟩;trivial
   have hst := YbI (l := a) (i := i) (p := eA a b k) (fun hh => by have := hh.1; omega);rw [hi.2] at hst;refine .pB ?_;refine .pB ?_;refine .pB ?_;refine .pA ?_;refine .sA (.pickF J J J) (.nil ?_);refine .cond J (fun h => nomatch h) (fun _ => ?_);refine .exit ?_;refine ⟨?_, Sub.less ⟨(SLe.i64 (by rw [hst])), U, U, U, U, U, U, U, U, U, trivial⟩ (fun _ h => h)⟩;trivial
  refine .seqJ (True) (Env.of [(13, .iv ((advS a (swSt a b k).1 (eA a b k)) : Int)), (14, .iv ((advS b (swSt a b k).2.1 (eA a b k)) : Int)), (7, .d (.sl ((edgs a b).map intD))), (12, .own 901), (15, .iv k), (16, .iv (eA a b k)), (17, .iv (eA a b (k + 1))), (0, .d (.sl (a.map Spn.ds))), (1, .d (.sl (b.map Spn.ds))), (2, .d (.clo (.func 15) []))]) [(901, .row 64 2 (((swSt a b k).2.2).map Spn.ds))] ?_ (fun _ => ?_)
  ·skip;refine .block (.loop (G := Nat) (fun i => Env.of [(14, .iv i), (13, .iv ((advS a (swSt a b k).1 (eA a b k)) : Int)), (7, .d (.sl ((edgs a b).map intD))), (12, .own 901), (15, .iv k), (16, .iv (eA a b k)), (17, .iv (eA a b (k + 1))), (0, .d (.sl (a.map Spn.ds))), (1, .d (.sl (b.map Spn.ds))), (2, .d (.clo (.func 15) []))]) (fun i => [(901, .row 64 2 (((swSt a b k).2.2).map Spn.ds))]) (fun i => i <= b.length + 1 /\ advS b i (eA a b k) = (advS b (swSt a b k).2.1 (eA a b k))) (fun i => b.length - i) (swSt a b k).2.1 ⟨by have := swSt_ij a b k; omega, J⟩ (Sub.less ⟨U, U, U, U, U, U, U, U, U, U, trivial⟩ (fun _ h => h)) ?_);intro i hi;refine .seq (.sr (.mm ?_));refine .sA (.lenSl J et_59.ht J) ?_;rw [ZlM];refine .sA (.lss J J J) ?_;refine .mA ?_;refine .sT 80 J (fun g6 => ?_) fun g6 => ?_
   ·have hil : i < b.length := by omega
    refine .sG (.moveD J J) ?_;refine .sG (.moveD J J) ?_;refine .sG (.indexAddr J et_59 J J i J (Yca hil) J) ?_;refine .sG (.fieldAddr J YbK J) ?_;refine .sG (.load J sc_3 J) ?_;refine .sG (.moveD J J) ?_;refine .sG (.leq J J J) ?_;refine .sA (.pickT J J J) (.nil ?_);refine .cT J (fun h7 => ?_) fun h7 => ?_
    ·have hgo := advS_go hil h7;refine .skip (.block (.region (.mA ?_)));refine .sA (.add64 J J J) ?_;refine .aN ?_;refine ⟨i + 1, ⟨by omega, by rw [<- hgo]; exact hi.2⟩, (by dsimp only; omega), Sub.less ⟨(SLe.i64 (by omega)), U, U, U, U, U, U, U, U, U, trivial⟩ (fun _ h => h)⟩
    have hst := YbI (l := b) (i := i) (p := eA a b k) (fun hh => h7 hh.2);rw [hi.2] at hst;refine .exit ?_;refine ⟨?_, Sub.less ⟨U, (SLe.i64 (by rw [hst])), U, U, U, U, U, U, U, U, trivial⟩ (fun _ h => h)⟩;trivial
   have hst := YbI (l := b) (i := i) (p := eA a b k) (fun hh => by have := hh.1; omega);rw [hi.2] at hst;refine .pB ?_;refine .pB ?_;refine .pB ?_;refine .pA ?_;refine .sA (.pickF J J J) (.nil ?_);refine .cond J (fun h => nomatch h) (fun _ => ?_);refine .exit ?_;refine ⟨?_, Sub.less ⟨U, (SLe.i64 (by rw [hst])), U, U, U, U, U, U, U, U, trivial⟩ (fun _ h => h)⟩;trivial
  refine .seqJ (True) (Env.of [(118, .d (.v (.bool (onS a (advS a (swSt a b k).1 (eA a b k)) (eA a b k) || onS b (advS b (swSt a b k).2.1 (eA a b k)) (eA a b k))))), (13, .iv ((advS a (swSt a b k).1 (eA a b k)) : Int)), (14, .iv ((advS b (swSt a b k).2.1 (eA a b k)) : Int)), (7, .d (.sl ((edgs a b).map intD))), (12, .own 901), (15, .iv k), (16, .iv (eA a b k)), (17, .iv (eA a b (k + 1))), (0, .d (.sl (a.map Spn.ds))), (1, .d (.sl (b.map Spn.ds))), (2, .d (.clo (.func 15) []))]) [(901, .row 64 2 (((swSt a b k).2.2).map Spn.ds))] ?_ (fun _ => ?_)
  ·skip;refine .drw 28 ?_;refine .sA (.moveD J J) (.sA (.moveD J J) (.sA (.moveD J J) (.sA (.lenSl J et_59.ht J) ?_)));rw [ZlM];refine .sA (.lss J J J) (.sA (.moveD J J) ?_);refine .sT 96 J (fun g8 => ?_) fun g8 => ?_
   ·have hia : (advS a (swSt a b k).1 (eA a b k)) < a.length := by omega
    refine .sG (.moveD J J) ?_;refine .sG (.moveD J J) ?_;refine .sG (.indexAddr J et_59 J J (advS a (swSt a b k).1 (eA a b k)) J (Yca hia) J) ?_;refine .sG (.fieldAddr J Yd4 J) ?_;refine .sG (.load J sc_3 J) ?_;refine .sG (.moveD J J) ?_;refine .sG (.leq J J J) ?_;rw [<- on_t hia];refine .sA (.pickT J J J) (.sA (.moveD J J) (.sA (.moveD J J) (.sA (.lenSl J et_59.ht J) ?_)));rw [ZlM];refine .sA (.lss J J J) (.sA (.moveD J J) ?_);refine .sT 109 J (fun g9 => ?_) fun g9 => ?_
    ·have hjb : (advS b (swSt a b k).2.1 (eA a b k)) < b.length := by omega
     refine .sG (.moveD J J) ?_;refine .sG (.moveD J J) ?_;refine .sG (.indexAddr J et_59 J J (advS b (swSt a b k).2.1 (eA a b k)) J (Yca hjb) J) ?_;refine .sG (.fieldAddr J Yd4 J) ?_;refine .sG (.load J sc_3 J) ?_;refine .sG (.moveD J J) ?_;refine .sG (.leq J J J) ?_;rw [<- on_t hjb];refine .sA (.pickT J J J) (.sA (.callClo J J (.cons (.rfl' J) (.cons (.rfl' J) .nil)) (c_orB _ _)) ?_);refine .nil ?_;refine .nil ?_;refine ⟨?_, Sub.less ⟨(SLe.of_eq (by first | rfl | (rw [hoa]; rfl) | (rw [hob]; rfl) | (rw [hoa, hob]; rfl))), U, U, U, U, U, U, U, U, U, U, trivial⟩ (fun _ h => h)⟩;trivial
    have hob := on_f (l := b) (i := (advS b (swSt a b k).2.1 (eA a b k))) (p := eA a b k) (by omega);refine .pB ?_;refine .pB ?_;refine .pB ?_;refine .pA ?_;refine .sA (.pickF J J J) (.sA (.callClo J J (.cons (.rfl' J) (.cons (.rfl' J) .nil)) (c_orB _ _)) ?_);refine .nil ?_;refine .nil ?_;refine ⟨?_, Sub.less ⟨(SLe.of_eq (by first | rfl | (rw [hoa]; rfl) | (rw [hob]; rfl) | (rw [hoa, hob]; rfl))), U, U, U, U, U, U, U, U, U, U, trivial⟩ (fun _ h => h)⟩;trivial
   have hoa := on_f (l := a) (i := (advS a (swSt a b k).1 (eA a b k))) (p := eA a b k) (by omega);refine .pB ?_;refine .pB ?_;refine .pB ?_;refine .pA ?_;refine .sA (.pickF J J J) (.sA (.moveD J J) (.sA (.moveD J J) (.sA (.lenSl J et_59.ht J) ?_)));rw [ZlM];refine .sA (.lss J J J) (.sA (.moveD J J) ?_);refine .sT 109 J (fun g10 => ?_) fun g10 => ?_
   ·have hjb : (advS b (swSt a b k).2.1 (eA a b k)) < b.length := by omega
    refine .sG (.moveD J J) ?_;refine .sG (.moveD J J) ?_;refine .sG (.indexAddr J et_59 J J (advS b (swSt a b k).2.1 (eA a b k)) J (Yca hjb) J) ?_;refine .sG (.fieldAddr J Yd4 J) ?_;refine .sG (.load J sc_3 J) ?_;refine .sG (.moveD J J) ?_;refine .sG (.leq J J J) ?_;rw [<- on_t hjb];refine .sA (.pickT J J J) (.sA (.callClo J J (.cons (.rfl' J) (.cons (.rfl' J) .nil)) (c_orB _ _)) ?_);refine .nil ?_;refine .nil ?_;refine ⟨?_, Sub.less ⟨(SLe.of_eq (by first | rfl | (rw [hoa]; rfl) | (rw [hob]; rfl) | (rw [hoa, hob]; rfl))), U, U, U, U, U, U, U, U, U, U, trivial⟩ (fun _ h => h)⟩;trivial
   have hob := on_f (l := b) (i := (advS b (swSt a b k).2.1 (eA a b k))) (p := eA a b k) (by omega);refine .pB ?_;refine .pB ?_;refine .pB ?_;refine .pA ?_;refine .sA (.pickF J J J) (.sA (.callClo J J (.cons (.rfl' J) (.cons (.rfl' J) .nil)) (c_orB _ _)) ?_);refine .nil ?_;refine .nil ?_;refine ⟨?_, Sub.less ⟨(SLe.of_eq (by first | rfl | (rw [hoa]; rfl) | (rw [hob]; rfl) | (rw [hoa, hob]; rfl))), U, U, U, U, U, U, U, U, U, U, trivial⟩ (fun _ h => h)⟩;trivial
  refine .cond J (fun h11 => ?_) (fun h11 => ?_)
  ·skip;have hs2 : (swSt a b (k + 1)).2.2 = apdL (swSt a b k).2.2 (eA a b k) (eA a b (k + 1)) := if_pos h11;refine .region (.sA (.moveO J J) ?_);refine .mm ?_;refine .sA (.build J bu_64 (.cons J J (.cons J J .nil)) J) ?_;refine .callXS J J J (ArgsS.cons U (ArgsS.cons U ArgsS.nil)) (c_apd (swSt a b k).2.2 (eA a b k) (eA a b (k + 1)) (by omega)) ⟨(.head _), trivial⟩ J J (fun _ _ => J) ?_;refine .sA (.assignO J J) (.nil ?_);refine .region (.mA ?_);refine .sA (.add64 J J J) ?_;refine .aN ?_;refine ⟨k + 1, (.inl (by omega)), (by dsimp only; omega), Sub.less ⟨(SLe.i64 (by omega)), U, U, U, U, U, U, U, trivial⟩ (by dsimp only; rw [hs2]; exact fun _ h => h)⟩
  have hs2 : (swSt a b (k + 1)).2.2 = (swSt a b k).2.2 := if_neg (by rw [Bool.not_eq_true]; exact h11);refine .skip (.region (.mA ?_));refine .sA (.add64 J J J) ?_;refine .aN ?_;refine ⟨k + 1, (.inl (by omega)), (by dsimp only; omega), Sub.less ⟨(SLe.i64 (by omega)), U, U, U, U, U, U, U, trivial⟩ (by dsimp only; rw [hs2]; exact fun _ h => h)⟩
 have hke : k = (edgs a b).length - 1 := by omega
 rw [show (swSt a b k).2.2 = Ye2 a b by rw [hke]; rfl];refine .exit (.sr (.sA (.moveO J J) ?_));refine .sA (.assignO J J) (.nil ?_);refine .ret ?_;refine ⟨RetD.own J (.head _) ?_, trivial⟩
 all_goals (first | rfl)
open Go.Lib
def inS (l : List Spn) (p : Int) : Prop := ∃ s ∈ l, s.lo <= p /\ p < s.hi
def Spt (l : List Spn) : Prop := (∀ s ∈ l, s.lo < s.hi) /\ l.Pairwise fun x y => x.hi < y.lo
theorem Spt.nil : Spt [] := ⟨fun _ h => absurd h List.not_mem_nil, List.Pairwise.nil⟩
theorem Ygh {p : Int} : ¬ inS [] p := fun ⟨_, h, _⟩ => absurd h List.not_mem_nil
theorem inS_cons {x : Spn} {l : List Spn} {p : Int} : inS (x :: l) p ↔ (x.lo <= p /\ p < x.hi) \/ inS l p := by
 unfold inS; simp
theorem inS_app {l r : List Spn} {p : Int} : inS (l ++ r) p ↔ inS l p \/ inS r p := by
 unfold inS;constructor
 ·rintro ⟨s, hs, h⟩
  rcases List.mem_append.1 hs with hs | hs
  ·exact .inl ⟨s, hs, h⟩
  ·exact .inr ⟨s, hs, h⟩
 ·rintro (⟨s, hs, h⟩ | ⟨s, hs, h⟩)
  ·exact ⟨s, List.mem_append_left _ hs, h⟩
  ·exact ⟨s, List.mem_append_right _ hs, h⟩
theorem inS_one {x : Spn} {p : Int} : inS [x] p ↔ x.lo <= p /\ p < x.hi := by
 unfold inS; simp
theorem sep_snoc {l : List Spn} {x : Spn} : Spt (l ++ [x]) ↔ Spt l /\ x.lo < x.hi /\ ∀ s ∈ l, s.hi < x.lo := by
 unfold Spt;rw [List.pairwise_append];constructor
 ·rintro ⟨h1, h2, _, h3⟩;exact ⟨⟨fun s hs => h1 s (List.mem_append_left _ hs), h2⟩, h1 x (List.mem_append_right _ List.mem_cons_self), fun s hs => h3 s hs x List.mem_cons_self⟩
 ·rintro ⟨⟨h1, h2⟩, h3, h4⟩;refine ⟨fun s hs => ?_, h2, List.pairwise_singleton .., fun s hs y hy => ?_⟩
  ·rcases List.mem_append.1 hs with hs | hs
   ·exact h1 s hs
   ·rw [ZmS.1 hs]; exact h3
  ·rw [ZmS.1 hy]; exact h4 s hs
theorem YcR {l : List Spn} {x : Spn} (h : Spt (x :: l)) : x.lo < x.hi /\ Spt l /\ ∀ s ∈ l, x.hi < s.lo :=
 ⟨h.1 x List.mem_cons_self, ⟨fun s hs => h.1 s (List.mem_cons_of_mem _ hs), (List.pairwise_cons.1 h.2).2⟩, (List.pairwise_cons.1 h.2).1⟩
theorem last_snoc {l : List Spn} {x : Spn} : Ygd (l ++ [x]) = x := by
 unfold Ygd;simp
theorem set_snoc {l : List Spn} {x y : Spn} : (l ++ [x]).set ((l ++ [x]).length - 1) y = l ++ [y] := by
 rw [ZlA, List.length_singleton, Nat.add_sub_cancel, List.set_append_right _ _ (ZnR _), Nat.sub_self]; rfl
theorem apd_sep {l : List Spn} {a b : Int} (h : Spt l) (hab : a < b) (hl : ∀ s ∈ l, s.lo <= a) : Spt (apdL l a b) /\ (∀ p, inS (apdL l a b) p ↔ inS l p \/ (a <= p /\ p < b)) /\ (∀ s ∈ apdL l a b, s.lo <= a) := by
 rcases List.eq_nil_or_concat l with rfl | ⟨l, x, rfl⟩
 ·unfold apdL;rw [if_neg (by simp)];refine ⟨sep_snoc.2 ⟨Spt.nil, hab, fun _ h => absurd h List.not_mem_nil⟩, fun p => ?_, fun s hs => ?_⟩
  ·rw [inS_app, inS_one]
  ·rw [List.nil_append] at hs; rw [ZmS.1 hs]; exact Int.le_refl _
 ·rw [List.concat_eq_append] at h hl ⊢;obtain ⟨h1, h2, h3⟩ := sep_snoc.1 h;have h4 := hl x (List.mem_append_right _ List.mem_cons_self);unfold apdL;rw [last_snoc, set_snoc];split
  ·rename_i hc;obtain ⟨_, hc⟩ := hc;refine ⟨sep_snoc.2 ⟨h1, by dsimp only; omega, h3⟩, fun p => ?_, fun s hs => ?_⟩
   ·rw [inS_app, inS_app, inS_one, inS_one];dsimp only;have : (x.lo <= p /\ p < max x.hi b) ↔ (x.lo <= p /\ p < x.hi) \/ (a <= p /\ p < b) := by omega
    rw [this, or_assoc]
   ·rcases List.mem_append.1 hs with hs | hs
    ·exact hl s (List.mem_append_left _ hs)
    ·rw [ZmS.1 hs]; exact h4
  ·rename_i hc
   have hc : x.hi < a := by
    refine Classical.byContradiction fun hh => hc ⟨by simp, by omega⟩
   refine ⟨sep_snoc.2 ⟨h, hab, fun s hs => ?_⟩, fun p => ?_, fun s hs => ?_⟩
   ·rcases List.mem_append.1 hs with hs | hs
    ·have := h3 s hs;dsimp only; omega
    ·rw [ZmS.1 hs]; exact hc
   ·rw [inS_app, inS_one]
   ·rcases List.mem_append.1 hs with hs | hs
    ·exact hl s hs
    ·rw [ZmS.1 hs]; exact Int.le_refl _
theorem join_sep {l : List Spn} {a b : Int} (h : Spt l) (hl : ∀ s ∈ l, s.lo <= a) : Spt (YbG l a b) /\ (∀ s ∈ YbG l a b, s.lo <= a) := by
 unfold YbG;split
 ·exact ⟨h, hl⟩
 ·have := apd_sep h (by omega : a < b) hl;exact ⟨this.1, this.2.2⟩
theorem fold_sep : ∀ (l o : List Spn), Spt o -> l.Pairwise (fun x y => x.lo <= y.lo) -> (∀ s ∈ o, ∀ x ∈ l, s.lo <= x.lo) -> Spt (l.foldl (fun o s => YbG o s.lo s.hi) o)
 | [], o, h, _, _ => h
 | x :: l, o, h, hp, ho => by
  obtain ⟨h1, h2⟩ := List.pairwise_cons.1 hp;obtain ⟨j1, j2⟩ := join_sep (b := x.hi) h (fun s hs => ho s hs x List.mem_cons_self);exact fold_sep l _ j1 h2 fun s hs y hy => Int.le_trans (j2 s hs) (h1 y hy)
theorem sp_sorted (l : List Spn) : (YaK YbN l).Pairwise fun x y => x.lo <= y.lo := by
 refine (Yfv swo_sp l).imp fun {x y} h => ?_
 rw [ltOf_sp] at h;unfold lexL ltI2 Spn.key at h;simp at h;omega
theorem un_sep (l : List Spn) : Spt (YdY l) := by
 unfold YdY unTo;rw [List.take_length];exact fold_sep _ _ Spt.nil (sp_sorted l) fun _ h => absurd h List.not_mem_nil
def Rng (A B : Int) (l : List Spn) : Prop := ∀ s ∈ l, A <= s.lo /\ s.hi <= B
theorem Rng.nil {A B : Int} : Rng A B [] := fun _ h => absurd h List.not_mem_nil
theorem Rng.app {A B : Int} {l r : List Spn} (h : Rng A B l) (h2 : Rng A B r) : Rng A B (l ++ r) := fun s hs => (List.mem_append.1 hs).elim (h s) (h2 s)
theorem apd_rng {A B : Int} {l : List Spn} {a b : Int} (h : Rng A B l) (ha : A <= a) (hb : b <= B) : Rng A B (apdL l a b) := by
 unfold apdL;split
 ·rename_i hc;intro s hs;have hm : Ygd l ∈ l := Yba (by omega);have := h _ hm
  rcases List.mem_or_eq_of_mem_set hs with hs | rfl
  ·exact h s hs
  ·dsimp only; omega
 ·exact h.app fun s hs => by rw [ZmS.1 hs]; exact ⟨ha, hb⟩
theorem YcX {A B : Int} {l : List Spn} {a b : Int} (h : Rng A B l) (ha : A <= a) (hb : b <= B) : Rng A B (YbG l a b) := by
 unfold YbG;split
 ·exact h
 ·exact apd_rng h ha hb
theorem fold_rng {A B : Int} : ∀ (l o : List Spn), Rng A B o -> Rng A B l -> Rng A B (l.foldl (fun o s => YbG o s.lo s.hi) o)
 | [], _, h, _ => h
 | x :: l, _, h, hl => fold_rng l _ (YcX h (hl x List.mem_cons_self).1 (hl x List.mem_cons_self).2) fun s hs => hl s (List.mem_cons_of_mem _ hs)
theorem un_rng {A B : Int} {l : List Spn} (h : Rng A B l) : Rng A B (YdY l) := by
 unfold YdY unTo;rw [List.take_length];exact fold_rng _ _ Rng.nil fun s hs => h s ((YaB (cf := YbN) l).mem_iff.1 hs)
theorem within_rng {l : List Clp} {A B : Int} {o : List Spn} {a b : Int} (h : Rng A B o) (ha : A <= a) (hb : b <= B) : Rng A B (YbV l o a b) := by
 unfold YbV;split
 ·split
  ·exact h
  ·exact YcX h ha hb
 ·split
  ·split
   ·exact h
   ·exact YcX h ha hb
  ·split
   ·rename_i hh;have h1 := hh.2.2.1;have h2 := hh.2.2.2;exact YcX (YcX h ha (by omega)) (by omega) hb
   ·exact YcX h ha hb
theorem spTo_rng {l : List Clp} {t : Int} (ok : ∀ c ∈ l, ClpOk c t) : ∀ k, k <= (brS l).length -> Rng (-1) 200001 (spTo l k)
 | 0, _ => Rng.nil
 | k + 1, h => by
  have ih := spTo_rng ok k (by omega);have h1 := bA_rng ok k (by omega)
  have hs : Rng (-1) 200001 (st1 l (spTo l k) k) := by
   unfold st1;split
   ·exact YcX ih (by omega) (by omega)
   ·exact ih
  show Rng _ _ (st2 l (spTo l k) k)
  unfold st2;split
  ·rename_i hh;have h2 := bA_rng ok (k + 1) hh.1;exact within_rng hs (by omega) (by omega)
  ·exact hs
theorem spans_rng {l : List Clp} {t : Int} (ok : ∀ c ∈ l, ClpOk c t) : Rng (-1) 200001 (Ye3 l) := spTo_rng ok _ (ZnR _)
theorem sep_len {B : Int} : ∀ {l : List Spn} {A : Int}, Spt l -> Rng A B l -> A <= B -> (l.length : Int) <= B - A
 | [], A, _, _, h => by simp; omega
 | x :: l, A, h, hr, _ => by
  obtain ⟨h1, h2, h3⟩ := YcR h;have hx := hr x List.mem_cons_self;have ih := sep_len (B := B) (A := x.hi) h2 (fun s hs => ⟨by have := h3 s hs; omega, (hr s (List.mem_cons_of_mem _ hs)).2⟩) hx.2;rw [List.length_cons];omega
theorem sep_lo {x : Spn} {l : List Spn} {p : Int} (h : Spt (x :: l)) (hp : inS (x :: l) p) : x.lo <= p := by
 obtain ⟨h1, _, h3⟩ := YcR h
 rcases inS_cons.1 hp with hp | ⟨s, hs, hp⟩
 ·exact hp.1
 ·have := h3 s hs; omega
theorem Yfw {x : Spn} {l : List Spn} {p : Int} (h : Spt (x :: l)) (hp : inS l p) : x.hi < p := by
 obtain ⟨_, _, h3⟩ := YcR h;obtain ⟨s, hs, hp⟩ := hp;have := h3 s hs; omega
theorem sep_ext : ∀ {a b : List Spn}, Spt a -> Spt b -> (∀ p, inS a p ↔ inS b p) -> a = b
 | [], [], _, _, _ => rfl
 | [], y :: b, _, hb, h => absurd ((h y.lo).2 (inS_cons.2 (.inl ⟨Int.le_refl _, (YcR hb).1⟩))) Ygh
 | x :: a, [], ha, _, h => absurd ((h x.lo).1 (inS_cons.2 (.inl ⟨Int.le_refl _, (YcR ha).1⟩))) Ygh
 | x :: a, y :: b, ha, hb, h => by
  obtain ⟨a1, a2, a3⟩ := YcR ha;obtain ⟨b1, b2, b3⟩ := YcR hb;have l1 := sep_lo hb ((h x.lo).1 (inS_cons.2 (.inl ⟨Int.le_refl _, a1⟩)));have l2 := sep_lo ha ((h y.lo).2 (inS_cons.2 (.inl ⟨Int.le_refl _, b1⟩)))
  have n1 : ¬ inS (x :: a) x.hi := fun hh => by
   rcases inS_cons.1 hh with hh | hh
   ·omega
   ·have := Yfw ha hh; omega
  have n2 : ¬ inS (y :: b) y.hi := fun hh => by
   rcases inS_cons.1 hh with hh | hh
   ·omega
   ·have := Yfw hb hh; omega
  have h1 : ¬ x.hi < y.hi := fun hh => n1 ((h x.hi).2 (inS_cons.2 (.inl ⟨by omega, hh⟩)))
  have h2 : ¬ y.hi < x.hi := fun hh => n2 ((h y.hi).1 (inS_cons.2 (.inl ⟨by omega, hh⟩)))
  have e : x = y := by
   obtain ⟨x1, x2⟩ := x;obtain ⟨y1, y2⟩ := y;dsimp only at l1 l2 h1 h2;rw [show x1 = y1 by omega, show x2 = y2 by omega]
  subst e;rw [sep_ext a2 b2 fun p => ⟨fun hp => ?_, fun hp => ?_⟩]
  ·rcases inS_cons.1 ((h p).1 (inS_cons.2 (.inr hp))) with q | q
   ·have := Yfw ha hp; omega
   ·exact q
  ·rcases inS_cons.1 ((h p).2 (inS_cons.2 (.inr hp))) with q | q
   ·have := Yfw hb hp; omega
   ·exact q
theorem sep_at {l : List Spn} (h : Spt l) {s : Spn} (hs : s ∈ l) : inS l s.lo /\ ¬ inS l (s.lo - 1) := by
 refine ⟨⟨s, hs, Int.le_refl _, h.1 s hs⟩, fun ⟨t, ht, h1, h2⟩ => ?_⟩;obtain ⟨i, hi, rfl⟩ := List.mem_iff_getElem.1 hs;obtain ⟨j, hj, rfl⟩ := List.mem_iff_getElem.1 ht;have hp := List.pairwise_iff_getElem.1 h.2
 rcases Nat.lt_trichotomy i j with q | rfl | q
 ·have := hp i j hi hj q;have := h.1 _ hs;omega
 ·omega
 ·have := hp j i hj hi q;omega
theorem begin_in {l : List Spn} {p : Int} (h : inS l p) (hn : ¬ inS l (p - 1)) : ∃ s ∈ l, s.lo = p := by
 obtain ⟨s, hs, h1, h2⟩ := h;refine ⟨s, hs, Classical.byContradiction fun hh => hn ⟨s, hs, by omega, by omega⟩⟩
theorem sep_nd {l : List Spn} (h : Spt l) : (l.map Spn.lo).Nodup := by
 refine List.pairwise_map.2 (List.pairwise_iff_getElem.2 fun i j hi hj hij e => ?_);have := List.pairwise_iff_getElem.1 h.2 i j hi hj hij;have := h.1 _ (ZgM hi);omega
theorem ends_lo {l : List Spn} {s : Spn} (h : s ∈ l) : s.lo ∈ ends l /\ s.hi ∈ ends l := by
 unfold ends;exact ⟨List.mem_flatMap.2 ⟨s, h, by simp⟩, List.mem_flatMap.2 ⟨s, h, by simp⟩⟩
theorem Yc2 {a b : List Spn} {s : Spn} (h : s ∈ a \/ s ∈ b) : s.lo ∈ edgs a b /\ s.hi ∈ edgs a b := by
 unfold edgs;rw [Ydm, Ydm, List.mem_append, List.mem_append]
 rcases h with h | h
 ·exact ⟨.inl (ends_lo h).1, .inl (ends_lo h).2⟩
 ·exact ⟨.inr (ends_lo h).1, .inr (ends_lo h).2⟩
theorem eA_get {a b : List Spn} {k : Nat} (h : k < (edgs a b).length) : eA a b k = (edgs a b)[k] := by
 unfold eA;simp [h]
theorem eA_lt {a b : List Spn} {i j : Nat} (hij : i < j) (hj : j < (edgs a b).length) : eA a b i < eA a b j := by
 rw [eA_get hj, eA_get (by omega)];exact List.pairwise_iff_getElem.1 (Yev _) i j _ _ hij
theorem eA_of {a b : List Spn} {x : Int} (h : x ∈ edgs a b) : ∃ k, k < (edgs a b).length /\ x = eA a b k := by
 obtain ⟨k, hk, e⟩ := List.mem_iff_getElem.1 h;exact ⟨k, hk, by rw [eA_get hk, e]⟩
theorem eA_gap {a b : List Spn} {k : Nat} {x : Int} (h : x ∈ edgs a b) (hk : k + 1 < (edgs a b).length) : x <= eA a b k \/ eA a b (k + 1) <= x := by
 obtain ⟨j, hj, rfl⟩ := eA_of h
 rcases Nat.lt_trichotomy j (k + 1) with q | rfl | q
 ·refine .inl ?_
  rcases Nat.lt_or_ge j k with q2 | q2
  ·exact Int.le_of_lt (eA_lt q2 (by omega))
  ·rw [show j = k by omega]; exact Int.le_refl _
 ·exact .inr (Int.le_refl _)
 ·exact .inr (Int.le_of_lt (eA_lt q hj))
theorem adv_spec {l : List Spn} {p : Int} : ∀ (n i : Nat), l.length - i <= n -> (∀ j, j < i -> j < l.length -> (l.getD j default).hi <= p) -> (∀ j, j < advS l i p -> j < l.length -> (l.getD j default).hi <= p) /\ (advS l i p < l.length -> p < (l.getD (advS l i p) default).hi)
 | 0, i, h, hi => by
  rw [YbI (by omega)]
  exact ⟨hi, fun hh => by omega⟩
 | n + 1, i, h, hi => by
  by_cases h2 : i < l.length /\ (l.getD i default).hi <= p
  ·rw [advS_go h2.1 h2.2];refine adv_spec n (i + 1) (by omega) fun j hj hl => ?_
   rcases Nat.lt_or_ge j i with q | q
   ·exact hi j q hl
   ·rw [show j = i by omega]; exact h2.2
  ·rw [YbI h2]
   exact ⟨hi, fun hh => by
    refine Classical.byContradiction fun hn => h2 ⟨hh, by omega⟩⟩
theorem on_in {l : List Spn} {i : Nat} {p : Int} (h : Spt l) (h1 : ∀ j, j < i -> j < l.length -> (l.getD j default).hi <= p) (h2 : i < l.length -> p < (l.getD i default).hi) : onS l i p = true ↔ inS l p := by
 unfold onS;rw [decide_eq_true_iff];constructor
 ·rintro ⟨q1, q2⟩;exact ⟨_, Yba q1, q2, h2 q1⟩
 ·rintro ⟨s, hs, q1, q2⟩;obtain ⟨j, hj, rfl⟩ := List.mem_iff_getElem.1 hs;have e : l.getD j default = l[j] := by simp [hj]
  rcases Nat.lt_trichotomy j i with q | rfl | q
  ·have := h1 j q hj;rw [e] at this;omega
  ·rw [e]; exact ⟨hj, q1⟩
  ·have hi : i < l.length := by omega
   have e2 : l.getD i default = l[i] := by simp [hi]
   have := List.pairwise_iff_getElem.1 h.2 i j hi hj q;have := h.1 _ (ZgM hi);rw [e2];exact ⟨hi, by omega⟩
structure SwI (a b : List Spn) (k : Nat) : Prop where
 ia : ∀ j, j < (swSt a b k).1 -> j < a.length -> ∀ q, q < (edgs a b).length -> k <= q -> (a.getD j default).hi <= eA a b q
 ib : ∀ j, j < (swSt a b k).2.1 -> j < b.length -> ∀ q, q < (edgs a b).length -> k <= q -> (b.getD j default).hi <= eA a b q
 sep : Spt (swSt a b k).2.2
 lo : ∀ s ∈ (swSt a b k).2.2, ∀ q, q < (edgs a b).length -> k <= q -> s.lo <= eA a b q
 mem : ∀ p, inS (swSt a b k).2.2 p ↔ (eA a b 0 <= p /\ p < eA a b k) /\ (inS a p \/ inS b p)
theorem eA_le {a b : List Spn} {i j : Nat} (hij : i <= j) (hj : j < (edgs a b).length) : eA a b i <= eA a b j := by
 rcases Nat.lt_or_ge i j with q | q
 ·exact Int.le_of_lt (eA_lt q hj)
 ·rw [show i = j by omega]; exact Int.le_refl _
theorem in_piece {a b l : List Spn} {k : Nat} {p : Int} (hl : ∀ s ∈ l, s ∈ a \/ s ∈ b) (hk : k + 1 < (edgs a b).length) (h1 : eA a b k <= p) (h2 : p < eA a b (k + 1)) : inS l p ↔ inS l (eA a b k) := by
 constructor
 ·rintro ⟨s, hs, q1, q2⟩;have e1 := eA_gap (Yc2 (hl s hs)).1 hk;have e2 := eA_gap (Yc2 (hl s hs)).2 hk;exact ⟨s, hs, by omega, by omega⟩
 ·rintro ⟨s, hs, q1, q2⟩;have e1 := eA_gap (Yc2 (hl s hs)).1 hk;have e2 := eA_gap (Yc2 (hl s hs)).2 hk;exact ⟨s, hs, by omega, by omega⟩
theorem sw_inv {a b : List Spn} (ha : Spt a) (hb : Spt b) : ∀ k, k < (edgs a b).length -> SwI a b k
 | 0, _ => ⟨fun j hj => absurd hj (Nat.not_lt_zero _), fun j hj => absurd hj (Nat.not_lt_zero _), Spt.nil, fun s hs => absurd hs List.not_mem_nil, fun p => ⟨fun h => absurd h Ygh, fun h => by omega⟩⟩
 | k + 1, hk => by
  have ih := sw_inv ha hb k (by omega);obtain ⟨x1, x2⟩ := adv_spec (l := a) (p := eA a b k) _ _ (ZnR _) fun j hj hl => ih.ia j hj hl k (by omega) (ZnR _)
  obtain ⟨y1, y2⟩ := adv_spec (l := b) (p := eA a b k) _ _ (ZnR _) fun j hj hl => ih.ib j hj hl k (by omega) (ZnR _)
  have hlt : eA a b k < eA a b (k + 1) := eA_lt (Nat.lt_succ_self k) hk;have oa := on_in ha x1 x2;have ob := on_in hb y1 y2;have hor : (onS a (advS a (swSt a b k).1 (eA a b k)) (eA a b k) || onS b (advS b (swSt a b k).2.1 (eA a b k)) (eA a b k)) = true ↔ (inS a (eA a b k) \/ inS b (eA a b k)) := by rw [Bool.or_eq_true, oa, ob]
  have A := fun (p : Int) (h1 : eA a b k <= p) (h2 : p < eA a b (k + 1)) => in_piece (l := a) (fun s hs => .inl hs) hk h1 h2
  have B := fun (p : Int) (h1 : eA a b k <= p) (h2 : p < eA a b (k + 1)) => in_piece (l := b) (fun s hs => .inr hs) hk h1 h2
  have h0 : eA a b 0 <= eA a b k := eA_le (ZnZ _) (by omega);have e : swSt a b (k + 1) = (advS a (swSt a b k).1 (eA a b k), advS b (swSt a b k).2.1 (eA a b k), if (onS a (advS a (swSt a b k).1 (eA a b k)) (eA a b k) || onS b (advS b (swSt a b k).2.1 (eA a b k)) (eA a b k)) = true then apdL (swSt a b k).2.2 (eA a b k) (eA a b (k + 1)) else (swSt a b k).2.2) := rfl;have f1 : ∀ j, j < advS a (swSt a b k).1 (eA a b k) -> j < a.length -> ∀ q, q < (edgs a b).length -> k + 1 <= q -> (a.getD j default).hi <= eA a b q := fun j hj hl q hq hkq => Int.le_trans (x1 j hj hl) (eA_le (by omega) hq)
  have f2 : ∀ j, j < advS b (swSt a b k).2.1 (eA a b k) -> j < b.length -> ∀ q, q < (edgs a b).length -> k + 1 <= q -> (b.getD j default).hi <= eA a b q := fun j hj hl q hq hkq => Int.le_trans (y1 j hj hl) (eA_le (by omega) hq)
  by_cases hc : (onS a (advS a (swSt a b k).1 (eA a b k)) (eA a b k) || onS b (advS b (swSt a b k).2.1 (eA a b k)) (eA a b k)) = true
  ·have hin := hor.1 hc;rw [if_pos hc] at e;obtain ⟨z1, z2, z3⟩ := apd_sep ih.sep hlt fun s hs => ih.lo s hs k (by omega) (ZnR _)
   refine ⟨by rw [e]; exact f1, by rw [e]; exact f2, by rw [e]; exact z1, by rw [e]; exact fun s hs q hq hkq => Int.le_trans (z3 s hs) (eA_le (by omega) hq), by
    rw [e];intro p;rw [show inS (apdL (swSt a b k).2.2 (eA a b k) (eA a b (k + 1))) p ↔ _ from z2 p, ih.mem p];constructor
    ·rintro (⟨q1, q2⟩ | ⟨q1, q2⟩)
     ·exact ⟨⟨q1.1, by omega⟩, q2⟩
     ·refine ⟨⟨by omega, q2⟩, ?_⟩;rw [A p q1 q2, B p q1 q2]; exact hin
    ·rintro ⟨q1, q2⟩
     rcases (show p < eA a b k \/ eA a b k <= p by omega) with q | q
     ·exact .inl ⟨⟨q1.1, q⟩, q2⟩
     ·exact .inr ⟨q, q1.2⟩⟩
  ·have hin := fun hh => hc (hor.2 hh)
   rw [if_neg hc] at e
   refine ⟨by rw [e]; exact f1, by rw [e]; exact f2, by rw [e]; exact ih.sep, by rw [e]; exact fun s hs q hq hkq => ih.lo s hs q hq (by omega), by
    rw [e];intro p;rw [ih.mem p];constructor
    ·rintro ⟨q1, q2⟩;exact ⟨⟨q1.1, by omega⟩, q2⟩
    ·rintro ⟨q1, q2⟩
     rcases (show p < eA a b k \/ eA a b k <= p by omega) with q | q
     ·exact ⟨⟨q1.1, q⟩, q2⟩
     ·exfalso;rw [A p q q1.2, B p q q1.2] at q2
      exact hin q2⟩
theorem sweep_sep {a b : List Spn} (ha : Spt a) (hb : Spt b) : Spt (Ye2 a b) /\ ∀ p, inS (Ye2 a b) p ↔ inS a p \/ inS b p := by
 by_cases hn : (edgs a b).length = 0
 ·have h0 : ∀ s : Spn, ¬ (s ∈ a \/ s ∈ b) := fun s hs => by
   have := (Yc2 hs).1;rw [List.eq_nil_of_length_eq_zero hn] at this;exact absurd this List.not_mem_nil
  unfold Ye2;rw [hn];refine ⟨Spt.nil, fun p => ⟨fun h => absurd h Ygh, ?_⟩⟩;rintro (⟨s, hs, _⟩ | ⟨s, hs, _⟩)
  ·exact absurd (.inl hs) (h0 s)
  ·exact absurd (.inr hs) (h0 s)
 ·have hi := sw_inv ha hb ((edgs a b).length - 1) (by omega);refine ⟨hi.sep, fun p => (hi.mem p).trans ⟨fun h => h.2, fun h => ⟨?_, h⟩⟩⟩
  have key : ∀ s : Spn, s ∈ a \/ s ∈ b -> s.lo <= p -> p < s.hi -> eA a b 0 <= p /\ p < eA a b ((edgs a b).length - 1) := fun s hs q1 q2 => by
   obtain ⟨j, hj, e1⟩ := eA_of (Yc2 hs).1;obtain ⟨m, hm, e2⟩ := eA_of (Yc2 hs).2;have w1 := eA_le (a := a) (b := b) (ZnZ j) hj;have w2 := eA_le (a := a) (b := b) (show m <= (edgs a b).length - 1 by omega) (by omega);omega
  rcases h with ⟨s, hs, q1, q2⟩ | ⟨s, hs, q1, q2⟩
  ·exact key s (.inl hs) q1 q2
  ·exact key s (.inr hs) q1 q2
theorem sweep_rng {A B : Int} {a b : List Spn} (ha : Spt a) (hb : Spt b) (h1 : Rng A B a) (h2 : Rng A B b) : Rng A B (Ye2 a b) := fun s hs => by
 obtain ⟨z1, z2⟩ := sweep_sep ha hb;have hlt := z1.1 s hs;have p1 := (z2 s.lo).1 ⟨s, hs, Int.le_refl _, hlt⟩;have p2 := (z2 (s.hi - 1)).1 ⟨s, hs, by omega, by omega⟩
 have low : ∀ p, inS a p \/ inS b p -> A <= p /\ p + 1 <= B := fun p hp => by
  rcases hp with ⟨x, hx, q1, q2⟩ | ⟨x, hx, q1, q2⟩
  ·have := h1 x hx; omega
  ·have := h2 x hx; omega
 have := low _ p1;have := low _ p2;omega
section
variable {c : Ctl} {l : List Chg} {k : Nat}
end
theorem zC_ok : CtlOk zC := ⟨fun t h => (nomatch h), fun t h => (nomatch h)⟩
theorem applyV_in {c : Ctl} {x : Chg} (hc : CtlOk c) (hx : XIn x) : CtlOk (YaV c x).1 /\ XIn (YaV c x).2.1 := by
 by_cases h : (YaV c x).2.2 = 0
 ·obtain ⟨k1, k2, k3, k4⟩ := apply_ok h;rw [k4];exact ⟨(out_in (cIn hc k1) hx).ok, back_in (cIn hc k1) hx⟩
 ·by_cases h1 : chkF c = 0
  ·by_cases h2 : chgF x = 0
   ·rw [applyV_0 h1 h2] at h ⊢
    by_cases h3 : chkF (outC c x) = 0
    ·rw [app_0 h3] at h; exact absurd rfl h
    ·rw [app_f h3]; exact ⟨zC_ok, zX_in⟩
   ·rw [applyV_x h1 h2]; exact ⟨zC_ok, zX_in⟩
  ·rw [applyV_c h1]; exact ⟨zC_ok, zX_in⟩
def sw {α : Type} (l : List α) (i j : Nat) : List α := match l[i]?, l[j]? with
 | some x, some y => (l.set i y).set j x
 | _, _ => l
structure Dsp where
 id : Int
 mv : Bool
def Dsp.ds (x : Dsp) : List D := [.v (.int .i64 x.id), .v (.bool x.mv)]
section
variable {β : Type} [DecidableEq β]
variable {o p q : GL (Option β)} {ids : List Int} {n : Nat}
end
def renN (a b n : Int) : Int := if n = a then b else n
def renF (t : Thg) (a b : Int) : Thg := ⟨t.id, t.kind, t.title, t.code, t.since, renN a b t.parent, t.parts.map (renN a b)⟩
def mrgP (g k : Thg) : Int := if k.parent = 0 \/ k.parent = g.id then (if g.parent = k.id then 0 else g.parent) else renN g.id k.id k.parent
def mrgF (g k : Thg) : Thg := ⟨k.id, k.kind, k.title, if k.code = ⟨#[]⟩ then g.code else k.code, if g.since < k.since then g.since else k.since, mrgP g k, if k.parts.length = 0 then g.parts.map (renN g.id k.id) else k.parts.map (renN g.id k.id)⟩
def inhF (k g : Thg) : Thg := ⟨k.id, k.kind, k.title, if k.code = ⟨#[]⟩ then g.code else k.code, if g.since < k.since then g.since else k.since, if k.parent = 0 \/ k.parent = g.id then (if g.parent = k.id then 0 else g.parent) else k.parent, if k.parts.length = 0 then g.parts else k.parts⟩
theorem ren_id {a b : Int} {l : List Int} (h : ¬ a ∈ l) : l.map (renN a b) = l := by
 have : l.map (renN a b) = l.map id := List.map_congr_left fun n hn => (if_neg (fun he : n = a => h (by rw [<- he]; exact hn)) : renN a b n = n)
 rw [this, List.map_id]
theorem mrg_inh {g k : Thg} (h1 : ¬ g.id ∈ k.parts) (h2 : ¬ g.id ∈ g.parts) : mrgF g k = inhF k g := by
 have hp : mrgP g k = if k.parent = 0 \/ k.parent = g.id then (if g.parent = k.id then 0 else g.parent) else k.parent := by
  unfold mrgP
  by_cases h : k.parent = 0 \/ k.parent = g.id
  ·rw [if_pos h, if_pos h]
  ·rw [if_neg h, if_neg h]; exact if_neg fun he => h (.inr he)
 unfold mrgF inhF;rw [ren_id h1, ren_id h2, hp]
theorem part_kind {c : Ctl} (h : chkF c = 0) {t : Thg} (ht : t ∈ c.things) {n : Int} (hn : n ∈ t.parts) : Yae c.things n = true /\ (getT c.things n).kind = 2 /\ ¬ t.kind <= 2 := by
 obtain ⟨k, hk, rfl⟩ := List.mem_iff_getElem.1 ht;obtain ⟨j, hj, rfl⟩ := List.mem_iff_getElem.1 hn;have hc := Yb8 h;have hl := hc.lk k hk
 have h0 : parF c.things c.things[k] = 0 := Classical.byContradiction fun hh => by
  unfold Ybz at hl; rw [if_pos hh] at hl; exact hh hl
 have h1 : ffst (ptF c.things c.things[k]) c.things[k].parts.length = 0 := Classical.byContradiction fun hh => by
  unfold Ybz at hl; rw [if_neg (by omega), if_pos hh] at hl; exact hh hl
 have h2 := Ya5 _ h1 j hj
 have h3 : Yae c.things c.things[k].parts[j] = true := by
  cases hb : Yae c.things c.things[k].parts[j] with
  | true => rfl
  | false => rw [pt_9 hj hb] at h2; omega
 have h4 : (getT c.things c.things[k].parts[j]).kind = 2 := Classical.byContradiction fun hh => by
  rw [pt_6 hj h3 hh] at h2; omega
 refine ⟨h3, h4, fun hh => ?_⟩;have h5 := hc.th k hk;unfold thgF at h5;split at h5
 ·omega
 ·split at h5
  ·omega
  ·split at h5
   ·rename_i hx; exact hx.2 h5
   ·split at h5
    ·omega
    ·rename_i h6;split at h5
     ·omega
     ·rename_i h7;exact h7 (.inr (.inr ⟨hh, by omega⟩))
def mrgT (c : Ctl) (a b : Int) (t : Thg) : Thg := if t.id = b then mrgF (getT c.things a) (getT c.things b) else renF t a b
def mrgB (c : Ctl) (a b : Int) (t : Thg) : Bool := !decide (t.id = a) && !decide (t = mrgT c a b t)
def mrgL (c : Ctl) (a b : Int) (n : Nat) : List Thg := ((c.things.take n).filter (mrgB c a b)).map (mrgT c a b)
def mrgX (c : Ctl) (a b : Int) : Chg := ⟨mrgL c a b c.things.length, [a], [⟨a, b⟩], []⟩
def refT (c : Ctl) (a b : Int) (t : Thg) : Thg := if t.id = b then inhF t (getT c.things a) else renF t a b
def nA (a : Int) (t : Thg) : Bool := !decide (t.id = a)
def refL (c : Ctl) (a b : Int) (n : Nat) : List Thg := ((c.things.take n).filter (nA a)).map (refT c a b)
def refC (c : Ctl) (a b : Int) : Ctl := ⟨refL c a b c.things.length, putF Mvd.src c.moved ⟨a, b⟩⟩
def mrgO (c : Ctl) (a b : Int) : Int :=
 if Yae c.things a = false \/ Yae c.things b = false then 9
 else if a = b then 7
 else if (getT c.things a).kind ≠ (getT c.things b).kind then 6
 else if (getT c.things a).code ≠ ⟨#[]⟩ /\ (getT c.things b).code ≠ ⟨#[]⟩ then 12 else 0
structure Mrg (c : Ctl) (a b : Int) : Prop where
 ok : chkF c = 0
 ta : Yae c.things a = true
 tb : Yae c.things b = true
 ne : a ≠ b
 kind : (getT c.things a).kind = (getT c.things b).kind
section
variable {c : Ctl} {a b : Int}
theorem Mrg.same (h : Mrg c a b) : ∀ t ∈ c.things, mrgT c a b t = refT c a b t := fun t ht => by
 unfold mrgT refT
 by_cases hb : t.id = b
 ·rw [if_pos hb, if_pos hb];have hr := (Yb8 h.ok).ris;have e1 : getT c.things b = t := by rw [<- hb]; exact (hr.get ht).1
  obtain ⟨ga, gm⟩ := YeP h.ta;rw [e1];refine mrg_inh (fun hn => ?_) fun hn => ?_
  ·obtain ⟨_, k2, k3⟩ := part_kind h.ok ht hn;rw [ga, h.kind, e1] at k2;omega
  ·obtain ⟨_, k2, k3⟩ := part_kind h.ok gm hn;rw [ga] at k2;omega
 ·rw [if_neg hb, if_neg hb]
theorem YcS (t : Thg) : (refT c a b t).id = t.id := by
 unfold refT
 by_cases h : t.id = b
 ·rw [if_pos h]; rfl
 ·rw [if_neg h]; rfl
theorem put_eq (h : Mrg c a b) : (btwP (idxL c.things) (idxL (refC c a b).things)).map (·.2) = mrgL c a b c.things.length := by
 have hr := (Yb8 h.ok).ris
 have key : ∀ l : List Thg, (∀ t ∈ l, t ∈ c.things) -> ((idxL ((l.filter (nA a)).map (refT c a b))).filter (newB (idxL c.things))).map (·.2) = (l.filter (mrgB c a b)).map (mrgT c a b) := by
  intro l
  induction l with
  | nil => intro _; rfl
  | cons t l ih =>
   intro hl;have ih := ih fun u hu => hl u (List.mem_cons_of_mem _ hu)
   have ht := hl t List.mem_cons_self;have hs := h.same t ht
   by_cases ha : t.id = a
   ·have e1 : nA a t = false := by unfold nA; rw [decide_eq_true ha]; rfl
    have e2 : mrgB c a b t = false := by unfold mrgB; rw [decide_eq_true ha]; rfl
    rw [List.filter_cons_of_neg (by rw [e1]; decide), List.filter_cons_of_neg (by rw [e2]; decide)];exact ih
   ·have e1 : nA a t = true := by unfold nA; rw [decide_eq_false ha]; rfl
    rw [List.filter_cons_of_pos e1, List.map_cons];show ((((refT c a b t).id, refT c a b t) :: idxL ((l.filter (nA a)).map (refT c a b))).filter (newB (idxL c.things))).map (·.2) = _
    have hf : Yaa (idxL c.things) (refT c a b t).id = some t := by
     rw [YcS];have := (hr.get ht).1;have h2 := (hr.get ht).2;unfold getT at this; unfold Yae at h2
     cases hq : Yds c.things t.id with
     | none => rw [hq] at h2; cases h2
     | some u => rw [hq] at this; exact (show Yaa (idxL c.things) t.id = some u from hq).trans (congrArg some this)
    by_cases he : t = mrgT c a b t
    ·have e2 : mrgB c a b t = false := by unfold mrgB; rw [decide_eq_true he]; simp
     have e3 : newB (idxL c.things) ((refT c a b t).id, refT c a b t) = false := by
      unfold newB;rw [hf, <- hs, <- he]; simp
     rw [List.filter_cons_of_neg (by rw [e3]; decide), List.filter_cons_of_neg (by rw [e2]; decide)];exact ih
    ·have e2 : mrgB c a b t = true := by unfold mrgB; rw [decide_eq_false ha, decide_eq_false he]; rfl
     have e3 : newB (idxL c.things) ((refT c a b t).id, refT c a b t) = true := by
      unfold newB;rw [hf, <- hs];exact decide_eq_true fun hh => he (Option.some.inj hh)
     rw [List.filter_cons_of_pos e3, List.filter_cons_of_pos e2, List.map_cons, List.map_cons, ih, hs]
 have := key c.things fun t ht => ht
 unfold mrgL btwP;rw [List.take_length, <- this];show _ = ((idxL ((c.things.filter (nA a)).map (refT c a b))).filter (newB (idxL c.things))).map (·.2)
 unfold refC refL;rw [List.take_length]
theorem drop_eq (h : Mrg c a b) : btwG (idxL c.things) (idxL (refC c a b).things) = [a] := by
 have hr := (Yb8 h.ok).ris
 have hu : UpL (btwG (idxL c.things) (idxL (refC c a b).things)) := by
  have h1 : RiK ((idxL c.things).filter (goneB (idxL (refC c a b).things))) := (rikT hr).sublist List.filter_sublist;unfold UpL btwG;rw [List.pairwise_map]; exact h1
 refine up_ext hu (List.pairwise_singleton ..) fun k => ?_
 unfold btwG;rw [ZmS, ZmM]
 have hfind : ∀ n, Yaa (idxL (refC c a b).things) n = none ↔ ∀ t ∈ c.things, t.id ≠ a -> t.id ≠ n := fun n => by
  show Yds (refC c a b).things n = none ↔ _
  rw [findT_none];unfold refC refL;rw [List.take_length];constructor
  ·intro hh t ht hta;have := hh (refT c a b t) (ZmM.2 ⟨t, List.mem_filter.2 ⟨ht, by unfold nA; simp [hta]⟩, rfl⟩);rwa [YcS] at this
  ·intro hh u hu;obtain ⟨t, ht, rfl⟩ := ZmM.1 hu;obtain ⟨h1, h2⟩ := List.mem_filter.1 ht;rw [YcS];exact hh t h1 (by unfold nA at h2; simpa using h2)
 constructor
 ·rintro ⟨p, hp, rfl⟩;obtain ⟨h1, h2⟩ := List.mem_filter.1 hp;obtain ⟨t, ht, rfl⟩ := ZmM.1 h1;have h3 := (hfind t.id).1 (dcT h2);exact Classical.byContradiction fun hne => h3 t ht hne J
 ·rintro rfl;obtain ⟨g1, g2⟩ := YeP h.ta;refine ⟨(k, getT c.things k), List.mem_filter.2 ⟨ZmM.2 ⟨_, g2, by rw [g1]⟩, decide_eq_true ((hfind k).2 fun t ht hta => hta)⟩, J⟩
theorem no_moved (h : chkF c = 0) (ha : Yae c.things a = true) : Yaa (mvL c.moved) a = none := findM_none.2 fun m hm he => by
 obtain ⟨k, hk, rfl⟩ := List.mem_iff_getElem.1 hm
 have h1 : mvdF c = 0 := by
  unfold chkF at h;split at h
  ·omega
  ·split at h
   ·rename_i h2; exact absurd h h2
   ·split at h
    ·rename_i h2; exact absurd h h2
    ·exact h
 have h2 : ffst (mvF c) c.moved.length = 0 := by
  unfold mvdF at h1;split at h1
  ·rename_i h2; exact absurd h1 h2
  ·rename_i h2; omega
 have h3 := Ya5 _ h2 k hk;unfold mvF at h3;rw [dif_pos hk] at h3;split at h3
 ·omega
 ·split at h3
  ·omega
  ·split at h3
   ·omega
   ·rename_i h4; exact h4 (by rw [he]; exact ha)
theorem back_eq (h : Mrg c a b) : btwG (mvL c.moved) (mvL (refC c a b).moved) = [] := by
 have rM : RisBy Mvd.src c.moved := risM_by.1 (rikM (Yb8 h.ok).rism);unfold btwG;rw [List.map_eq_nil_iff, List.filter_eq_nil_iff];intro p hp hg;have h1 := dcT hg;have h2 : Yaa (mvL c.moved) p.1 = some p.2 := (Yci (rikM (Yb8 h.ok).rism).nk).1 hp;have h3 := Ycl (refC c a b).moved p.1;rw [h1] at h3;have h4 : Yb6 Mvd.src (putF Mvd.src c.moved ⟨a, b⟩) p.1 = none := Option.map_eq_none_iff.1 h3;rw [Yf2 rM] at h4;have h5 := Ycl c.moved p.1;rw [h2] at h5;split at h4
 ·cases h4
 ·rw [show Yb6 (·.src) c.moved p.1 = none from h4] at h5; cases h5
theorem add_eq (h : Mrg c a b) : (btwP (mvL c.moved) (mvL (refC c a b).moved)).map mvO = [⟨a, b⟩] := by
 have rM : RisBy Mvd.src c.moved := risM_by.1 (rikM (Yb8 h.ok).rism);have rN : RiK (mvL (refC c a b).moved) := risM_by.2 (putF_ris rM)
 have e : btwP (mvL c.moved) (mvL (refC c a b).moved) = [(a, b)] := by
  refine rik_ext (rN.sublist List.filter_sublist) (List.pairwise_singleton ..) fun k => ?_
  unfold btwP;rw [Ygq rN.nk]
  have hk : Yaa (mvL (refC c a b).moved) k = if a = k then some b else Yaa (mvL c.moved) k := by
   have h3 := Ycl (refC c a b).moved k;have h5 := Ycl c.moved k;rw [<- h3, <- h5];show (Yb6 Mvd.src (putF Mvd.src c.moved ⟨a, b⟩) k).map (·.dst) = _
   rw [Yf2 rM]
   by_cases ha : a = k
   ·rw [if_pos ha, if_pos ha]; rfl
   ·rw [if_neg ha, if_neg ha]
  rw [hk, Yah, Ybb];dsimp only
  by_cases ha : a = k
  ·subst ha;rw [if_pos rfl, if_pos rfl];dsimp only;unfold newB;rw [if_pos (by rw [no_moved h.ok h.ta]; simp)]
  ·rw [if_neg ha, if_neg ha]
   cases hf : Yaa (mvL c.moved) k with
   | none => rfl
   | some v =>
    dsimp only;unfold newB;rw [if_neg (by dsimp only; rw [hf]; simp)]
 rw [e]; rfl
theorem mrg_same (h : Mrg c a b) : btwX c (refC c a b) = mrgX c a b := by
 unfold btwX mrgX;rw [put_eq h, drop_eq h, add_eq h, back_eq h]
end
def Yc0 (c : Ctl) (id : Int) : Int := if chkF c ≠ 0 then chkF c else if (ledC c id).isSome = true then 0 else 9
def YbA (c : Ctl) (id : Int) : Int := if chkF c ≠ 0 then 0 else (ledC c id).getD 0
theorem find_1 {c : Ctl} (id : Int) (h : chkF c ≠ 0) : Yc0 c id = chkF c /\ YbA c id = 0 := ⟨if_pos h, if_pos h⟩
theorem find_2 {c : Ctl} {id : Int} (h : ¬ chkF c ≠ 0) (h2 : (ledC c id).isSome = false) : Yc0 c id = 9 /\ YbA c id = 0 := by
 unfold Yc0 YbA;rw [if_neg h, if_neg h, if_neg (by rw [h2]; decide)]
 cases hq : ledC c id with
 | none => exact ⟨rfl, rfl⟩
 | some _ => rw [hq] at h2; cases h2
theorem find_3 {c : Ctl} {id : Int} (h : ¬ chkF c ≠ 0) (h2 : (ledC c id).isSome = true) : Yc0 c id = 0 /\ YbA c id = (ledC c id).getD 0 := by
 unfold Yc0 YbA;rw [if_neg h, if_neg h, if_pos h2];exact ⟨J, J⟩
theorem c_pFind (c : Ctl) (id : Int) (hc : CtlOk c) (hi : i64 id) : ACallT Tryz.prog MaxT 30 [.agg c.ds, .v (.int .i64 id)] (.tup [.v (.int .i64 (YbA c id)), .v (.int .i64 (Yc0 c id))]) := by
 refine Ycr (n := 42) (ds' := [.v (.int .i64 (YbA c id)), .v (.int .i64 (Yc0 c id))]) Tryz.func30 J (by kernel_rfl) J [4, 5] J J ?_;intro B w0 F0 hT;refine .sr (.sA (.box J J J) ?_);refine .aa (.nil ?_);refine .seq (.sr (.sA (.loadAgg J YbB J J) ?_))
 -- wants the world
 refine .callT J J J hT Yam J (.cons (.rfl' J) .nil) (c_pChk c hc) ?_;refine .aN ?_;refine .sr (.mA ?_);refine .sA (.neq J J J) (.nil ?_);refine .cT J (fun h1 => ?_) fun h1 => ?_
 ·obtain ⟨E1, E2⟩ := find_1 id h1;rw [E1, E2];refine .sr (.ma ?_);refine .aN ?_;refine .ret ?_;refine ⟨RetD.eq J ?_, RetD.eq J ?_, trivial⟩
  all_goals (rfl)
 have hz := h1;have HC := Yb8 (c := c) (by omega);have hl := HC.lim;have hl1 := hl.1;have hl2 := hl.2;have hr := HC.ris;refine .skip (.sr (.makeMap 91 J J J J J ?_));refine .sA (.assignO J J) (.nil ?_);refine .seq (.sr (.fl Yd7 Yei ?_));refine .sA (.lenSl J et_23.ht J) ?_;refine .mN ?_;refine .block (.loop (G := Nat) (fun k => Env.of [(21, .iv k), (19, .d (.sl (c.moved.map Mvd.ds))), (20, .iv (c.moved.map Mvd.ds).length), (7, .own 91), (2, .d (.fp c.ds)), (1, .d (.v (.int .i64 id)))]) (fun k => [(91, .map (toM (toL (c.moved.take k))))]) (fun k => k <= c.moved.length) (fun k => c.moved.length - k) 0 (ZnZ _) (Sub.less ⟨U, U, U, U, U, U, trivial⟩ (Yf9 J)) ?_);intro k hk;refine .sr (.sA (.lss J J J) (.nil ?_));refine .seq (.cT J (fun h2 => ?_) fun h2 => ?_)
 ·rw [ZlM] at h2;have hlt : k < c.moved.length := by omega
  have hbk := hc.moved _ (ZgM hlt);refine .skip (.seq (.block (.sr (.sA (.indexAddr J et_23 J J k J (YaU hlt) J) ?_))));refine .sA (.loadAgg J ag_74 J J) ?_;refine .alloc 102 J J J J zt_74 J J J ?_;refine .st J J J sz_74 J (.head _) J J J (ZnB J) ?_;refine .freezeCells 9 (ds := c.moved[k].ds) J (.head _) (.nil ?_);refine .region (.sA (.moveO J J) ?_);refine .fl Yb4 sc_3 ?_;refine .fl Ygn sc_3 ?_;refine .eff J J (.mapUpdateX (key := kI c.moved[k].src) J J mt_to YaC J (.head _) J (DExact.v _) J (Ya3 hbk.1) (Yfu fun p hp => (toL_ok (fun x hx => hc.moved x (List.mem_of_mem_take hx)) p hp).1) (put_to hlt)) (.nil ?_);refine .region (.sA (.add64 J J J) ?_);refine .mN ?_;refine ⟨k + 1, (by omega), (by dsimp only; omega), Sub.less ⟨U, U, U, U, U, U, trivial⟩ (Yf9 rfl)⟩
 rw [ZlM] at h2;obtain rfl : k = c.moved.length := by omega
 rw [List.take_length];rw [YeD HC.rism];refine .exit (.seq (.freezeMap 7 J (.head _) ?_));refine .region (.sA (.loadAgg J YbB J J) ?_);refine .sA (.call J (.cons (.rfl' J) .nil) (c_idxOf c hl hc hr)) ?_;refine .mm ?_;refine .sA (.call J (.cons (.rfl' J) (.cons (.rfl' J) (.cons (.rfl' J) .nil))) (c_found _ _ _ hc.things hr (by rw [<- YeD HC.rism]; exact toL_ok hc.moved) (by rw [<- YeD HC.rism]; exact toL_nk _) hi (by rw [mvL_len]; exact hl2))) ?_;refine .mA ?_;refine .sA (.extract J J J) (.sA (.extract J J J) ?_);refine .aa (.nil ?_);refine .seq (.sr (.mA ?_));refine .sA (.not J J) (.nil ?_);refine .cond J (fun h3 => ?_) (fun h3 => ?_)
 ·replace h3 := Yaw h3;rw [Ygb hr HC.rism, Ygc] at h3;obtain ⟨E1, E2⟩ := find_2 hz h3;rw [E1, E2];refine .sr (.aa (.nil ?_));refine .ret ?_;refine ⟨RetD.eq J ?_, RetD.eq J ?_, trivial⟩
  all_goals (rfl)
 replace h3 := Yax h3;rw [Ygb hr HC.rism, Ygc] at h3;have hth := h3;obtain ⟨E1, E2⟩ := find_3 hz h3;rw [E1, E2];rw [Ygb hr HC.rism, Ygc];refine .skip (.sr (.ma ?_));refine .aN ?_;refine .ret ?_;refine ⟨RetD.eq J ?_, RetD.eq J ?_, trivial⟩
 all_goals (rfl)
def mrgV (c : Ctl) (a b : Int) : Chg × Int := if chkF c = 0 then (if mrgO c a b = 0 then (if (YaV c (mrgX c a b)).2.2 = 0 then (mrgX c a b, 0) else (zX, (YaV c (mrgX c a b)).2.2)) else (zX, mrgO c a b)) else (zX, chkF c)
section
variable {c : Ctl} {a b : Int}
theorem mrgV_c (h : chkF c ≠ 0) : mrgV c a b = (zX, chkF c) := if_neg h
theorem mrgV_o {n : Int} (h : chkF c = 0) (h2 : mrgO c a b = n) (hn : n ≠ 0) : mrgV c a b = (zX, n) := by unfold mrgV; rw [if_pos h, if_neg (by rw [h2]; exact hn), h2]
theorem mrgV_f (h : chkF c = 0) (h2 : mrgO c a b = 0) (h3 : (YaV c (mrgX c a b)).2.2 ≠ 0) : mrgV c a b = (zX, (YaV c (mrgX c a b)).2.2) := by unfold mrgV; rw [if_pos h, if_pos h2, if_neg h3]
theorem mrgV_0 (h : chkF c = 0) (h2 : mrgO c a b = 0) (h3 : (YaV c (mrgX c a b)).2.2 = 0) : mrgV c a b = (mrgX c a b, 0) := by unfold mrgV; rw [if_pos h, if_pos h2, if_pos h3]
theorem mrgO_9 (h : Yae c.things a = false \/ Yae c.things b = false) : mrgO c a b = 9 := if_pos h
theorem mrgO_7 (h : ¬ (Yae c.things a = false \/ Yae c.things b = false)) (h2 : a = b) : mrgO c a b = 7 := by unfold mrgO; rw [if_neg h, if_pos h2]
theorem mrgO_6 (h : ¬ (Yae c.things a = false \/ Yae c.things b = false)) (h2 : ¬ a = b) (h3 : (getT c.things a).kind ≠ (getT c.things b).kind) : mrgO c a b = 6 := by unfold mrgO; rw [if_neg h, if_neg h2, if_pos h3]
theorem mrgO_12 (h : ¬ (Yae c.things a = false \/ Yae c.things b = false)) (h2 : ¬ a = b) (h3 : ¬ (getT c.things a).kind ≠ (getT c.things b).kind) (h4 : (getT c.things a).code ≠ ⟨#[]⟩ /\ (getT c.things b).code ≠ ⟨#[]⟩) : mrgO c a b = 12 := by unfold mrgO; rw [if_neg h, if_neg h2, if_neg h3, if_pos h4]
theorem mrgO_0 (h : ¬ (Yae c.things a = false \/ Yae c.things b = false)) (h2 : ¬ a = b) (h3 : ¬ (getT c.things a).kind ≠ (getT c.things b).kind) (h4 : ¬ ((getT c.things a).code ≠ ⟨#[]⟩ /\ (getT c.things b).code ≠ ⟨#[]⟩)) : mrgO c a b = 0 := by unfold mrgO; rw [if_neg h, if_neg h2, if_neg h3, if_neg h4]
theorem mrg_of (h : chkF c = 0) (h2 : mrgO c a b = 0) : Mrg c a b := by
 unfold mrgO at h2;split at h2
 ·omega
 ·rename_i k1;split at h2
  ·omega
  ·rename_i k2;split at h2
   ·omega
   ·rename_i k3;have t1 : ∀ {x : Bool}, ¬ x = false -> x = true := fun {x} hx => by cases x <;> simp_all
    exact ⟨h, t1 fun hh => k1 (.inl hh), t1 fun hh => k1 (.inr hh), k2, Classical.not_not.1 k3⟩
end
section
variable {c : Ctl} {id fresh : Int} {title : ByteArray} {us : List Int} {n : Nat}
end
namespace Ty
theorem fv_72_6 : fieldB Tryz.prog 72 6 6 = true := by kernel_rfl
theorem sz_9 : ∀ w, (sizeOf 9).run Tryz.prog w = .ok 1 w := SizeT.of (by kernel_rfl)
end Ty
def thgS (t : Thg) : List S := [.d (.v (.int .i64 t.id)), .d (.v (.int .i64 t.kind)), .d (.v (.string t.title)), .d (.v (.string t.code)), .d (.v (.int .i64 t.since)), .d (.v (.int .i64 t.parent)), .own 71]
theorem hag_thg : AggT Tryz.prog 72 7 := .of (by kernel_rfl)
theorem hsz_thg : ∀ w, (sizeOf 72).run Tryz.prog w = .ok 7 w := SizeT.of (by kernel_rfl)
theorem in3 {σ : Obs} {a b c : Nat × Ob} (h1 : a ∈ σ) (h2 : b ∈ σ) (h3 : c ∈ σ) : ∀ p ∈ [a, b, c], p ∈ σ := fun p hp => by
 simp only [List.mem_cons, List.not_mem_nil, or_false] at hp
 rcases hp with rfl | rfl | rfl <;> assumption
section
variable {a b : Int} {l : List Int} {k : Nat}
def rnTo (a b : Int) (l : List Int) (k : Nat) : List Int := (l.take k).map (renN a b) ++ l.drop k
theorem rnTo_0 : rnTo a b l 0 = l := rfl
theorem Yek : (rnTo a b l k).length = l.length := by unfold rnTo; rw [ZlA, ZlM, ZlT, ZlD]; omega
theorem rnTo_all : rnTo a b l l.length = l.map (renN a b) := by unfold rnTo; rw [List.take_length, List.drop_length, List.append_nil]
theorem rnTo_get (h : k < l.length) : (rnTo a b l k)[k]? = some l[k] := by
 unfold rnTo;rw [List.getElem?_append_right (by rw [ZlM, ZlT]; omega), ZlM, ZlT, ZgO, Nat.min_eq_left (by omega), Nat.sub_self, Nat.add_zero, ZgE h]
theorem rn_at (h : k < l.length) : ((rnTo a b l k).map intD)[k]? = some (intD l[k]) := by rw [List.getElem?_map, rnTo_get h]; rfl
theorem rnTo_next (h : k < l.length) : rnTo a b l (k + 1) = (rnTo a b l k).set k (renN a b l[k]) := by
 unfold rnTo;rw [List.set_append_right k (renN a b l[k]) (by rw [ZlM, ZlT]; omega), ZlM, ZlT, Nat.min_eq_left (by omega), Nat.sub_self, List.drop_eq_getElem_cons h, List.set_cons_zero, List.take_add_one, ZgE h, Option.toList_some, ZmA, List.append_assoc];rfl
theorem rnTo_hit (h : k < l.length) (he : l[k] = a) : rnTo a b l (k + 1) = (rnTo a b l k).set k b := by rw [rnTo_next h, show renN a b l[k] = b from if_pos he]
theorem rnTo_no (h : k < l.length) (he : ¬ l[k] = a) : rnTo a b l (k + 1) = rnTo a b l k := by
 rw [rnTo_next h, show renN a b l[k] = l[k] from if_neg he];apply List.ext_getElem?;intro i;rw [List.getElem?_set]
 by_cases hi : k = i
 ·subst hi; rw [if_pos rfl, rnTo_get h, if_pos (by rw [Yek]; exact h)]
 ·rw [if_neg hi]
theorem rn_set {x : Int} : ((rnTo a b l k).set k x).map intD = ((rnTo a b l k).map intD).set k (intD x) := List.map_set
end
theorem c_ownX (t : Thg) (hl : t.parts.length <= 1048576) : Yfh Tryz.prog 47 [.d (.agg t.ds)] [] [(100, .val (thgS t)), (71, .row 3 1 (t.parts.map intD))] (fun i => Nat.blt i 102) (.own 100) := by
 refine xval_of (n := 8) (b := 2) (t := 72) (size := 7) (vid := 100) (ss' := thgS t) Tryz.func47 J (by kernel_rfl) J J hag_thg J J J ?_;intro B w0 F0 fr ρ0;refine .sr (.boxOwn 11 J J J J J J J ?_);refine .alloc 12 J J J J Ycs J J J (.nil ?_);refine .sr (.sA (.fieldAddrP J Ya8 J) ?_);refine .sA (.loadP J Ybt J (.tail _ (.head _)) J) ?_;refine .callO 71 J J J J (.cons (.rfl' J) .nil) (c_clInt t.parts hl) J ?_;refine .sA (.fieldAddrP J Ya8 J) ?_;refine .storeS J J J sz_34 J (.tail _ (.tail _ (.head _))) J (.head _) (ZnB J) (.nil ?_);refine .sr (.loadVal 13 J J J J hag_thg J (.tail _ (.tail _ (.head _))) (ZnR 7) J ?_);refine .eff J J (.storeVal (ss' := thgS t) J J hsz_thg J (.tail _ (.tail _ (.head _))) J (.head _) J (ZnR 7)) (.nil ?_);refine .ret ?_;refine ⟨⟨12, thgS t, rfl, .tail _ (.tail _ (.head _)), rfl, rfl, rfl⟩, AllIn.of fun p hp => by obtain rfl := ZmS.1 hp; exact .tail _ (.head _)⟩
theorem c_ren (t : Thg) (a b : Int) (hl : t.parts.length <= 1048576) : Yad Tryz.prog 20 [.agg t.ds, .v (.int .i64 a), .v (.int .i64 b)] (.agg (renF t a b).ds) := by
 refine Yap (n := 35) (ds' := [.agg (renF t a b).ds]) Tryz.func20 J (by kernel_rfl) J [.cell 6 72] J J ?_;intro B w0 F0 fr;refine .sr (.boxOwn 301 J J J J J J J ?_);refine .alloc 302 J J J J Ycs J J J (.nil ?_);refine .sr (.sA (.loadPU J Ybh J (.tail _ (.head _)) J J) ?_);refine .callXS J J J (ArgsS.cons U ArgsS.nil) (c_ownX t hl) trivial J J (fun _ _ => J) ?_;refine .eff J J (.storeVal (ss' := thgS t) J J hsz_thg J (.tail _ (.tail _ (.tail _ (.head _)))) J (.head _) J (ZnR 7)) (.nil ?_);refine .seq (.sr (.sA (.fieldAddrP J Ya0 J) ?_));refine .sA (.loadP J sc_3 J (.tail _ (.tail _ (.tail _ (.head _)))) J) ?_;refine .mA ?_;refine .sA (.eql J J J) (.nil ?_);refine .cT J (fun h1 => ?_) fun h1 => ?_
 ·have HP : renN a b t.parent = b := if_pos h1;refine .region (.mA ?_);refine .sA (.fieldAddrP J Ya0 J) ?_;refine .st J J J sz_3 J (.tail _ (.tail _ (.tail _ (.head _)))) J J J (ZnB J) (.nil ?_);refine .seq (.sr (.sA (.fieldAddrP J Ya8 J) ?_));refine .sA (.loadP J Ybt J (.tail _ (.tail _ (.tail _ (.head _)))) J) (.sA (.lenOwn J et_34.ht J (.tail _ (.head _))) ?_);refine .mN ?_;refine .block (.loop (G := Nat) (fun k => Env.of [(20, .iv k), (18, .own 71), (19, .iv (t.parts.map intD).length), (1, .d (.v (.int .i64 a))), (2, .d (.v (.int .i64 b))), (3, .ptr 301 0), (6, .ptr 302 0)]) (fun k => [(71, .row 3 1 ((rnTo a b t.parts k).map intD)), (301, .cells [.d (.v (.int .i64 t.id)), .d (.v (.int .i64 t.kind)), .d (.v (.string t.title)), .d (.v (.string t.code)), .d (.v (.int .i64 t.since)), .iv (renN a b t.parent), .own 71]), (302, .cells [.d (.v (.int .i64 0)), .d (.v (.int .i64 0)), .d (.v (.string ⟨#[]⟩)), .d (.v (.string ⟨#[]⟩)), .d (.v (.int .i64 0)), .d (.v (.int .i64 0)), .d (.v (.slice none 0 0))])]) (fun k => k <= t.parts.length) (fun k => t.parts.length - k) 0 (ZnZ _) (Sub.less ⟨U, U, U, U, U, U, U, trivial⟩ (by rw [HP, rnTo_0]; exact in3 (.tail _ (.head _)) (.tail _ (.tail _ (.tail _ (.head _)))) (.tail _ (.tail _ (.head _))))) ?_);intro k hk;refine .sr (.sA (.lss J J J) (.nil ?_));refine .seq (.cT J (fun h2 => ?_) fun h2 => ?_)
  ·rw [ZlM] at h2;have hlt : k < t.parts.length := by omega
   refine .skip (.seq (.block (.sr (.mA ?_))));refine .sA (.indexOwn J et_34 J J (.head _) k (by omega) (by rw [ZlM, Yek]; omega)) ?_;refine .sA (.loadRow J sc_3 J (.head _) k 0 J (rn_at hlt) J) ?_;refine .aa (.nil ?_);refine .sr (.mm ?_);refine .sA (.eql J J J) (.nil ?_);refine .cT J (fun h3 => ?_) fun h3 => ?_
   ·have HB := rnTo_hit (b := b) hlt h3;refine .region (.sA (.fieldAddrP J Ya8 J) ?_);refine .sA (.loadP J Ybt J (.tail _ (.head _)) J) ?_;refine .mm ?_;refine .sA (.indexOwn J et_34 J J (.head _) k (by omega) (by rw [ZlM, Yek]; omega)) ?_;refine .stR J J J sz_3 J (.head _) J J J k 0 J (rn_at hlt) (ZnB J) (.nil ?_);refine .region (.sA (.add64 J J J) ?_);refine .mN ?_;refine ⟨k + 1, (by omega), (by dsimp only; omega), Sub.less ⟨U, U, U, U, U, U, U, trivial⟩ (YaX (by dsimp only; rw [HB]; first | done | rfl | (rw [rn_set]; rfl)))⟩
   have HB := rnTo_no (b := b) hlt h3;refine .skip (.region (.sA (.add64 J J J) ?_));refine .mN ?_;refine ⟨k + 1, (by omega), (by dsimp only; omega), Sub.less ⟨U, U, U, U, U, U, U, trivial⟩ (YaX (by dsimp only; rw [HB]; first | done | rfl | (rw [rn_set]; rfl)))⟩
  rw [ZlM] at h2;obtain rfl : k = t.parts.length := by omega
  rw [rnTo_all];refine .exit (.seq (.freezeIn 301 6 J (.head _) (.head _) ?_));refine .region (.sA (.loadPU J Ybh J (.head _) J J) ?_);refine .st J J J Ycc J (.tail _ (.head _)) J J J (ZnB J) (.nil ?_);refine .ret ?_;refine ⟨RetR.agg J (.tail _ (.head _)) Ybh J (.c5 (.c5 (.c5 (.c5 (.c5 (.c5 (.c5 .nil))))))), trivial⟩
  all_goals (rfl)
 have HP : renN a b t.parent = t.parent := if_neg h1;refine .skip (.seq (.sr (.sA (.fieldAddrP J Ya8 J) ?_)));refine .sA (.loadP J Ybt J (.tail _ (.tail _ (.tail _ (.head _)))) J) (.sA (.lenOwn J et_34.ht J (.tail _ (.head _))) ?_);refine .mN ?_;refine .block (.loop (G := Nat) (fun k => Env.of [(20, .iv k), (18, .own 71), (19, .iv (t.parts.map intD).length), (1, .d (.v (.int .i64 a))), (2, .d (.v (.int .i64 b))), (3, .ptr 301 0), (6, .ptr 302 0)]) (fun k => [(71, .row 3 1 ((rnTo a b t.parts k).map intD)), (301, .cells [.d (.v (.int .i64 t.id)), .d (.v (.int .i64 t.kind)), .d (.v (.string t.title)), .d (.v (.string t.code)), .d (.v (.int .i64 t.since)), .iv (renN a b t.parent), .own 71]), (302, .cells [.d (.v (.int .i64 0)), .d (.v (.int .i64 0)), .d (.v (.string ⟨#[]⟩)), .d (.v (.string ⟨#[]⟩)), .d (.v (.int .i64 0)), .d (.v (.int .i64 0)), .d (.v (.slice none 0 0))])]) (fun k => k <= t.parts.length) (fun k => t.parts.length - k) 0 (ZnZ _) (Sub.less ⟨U, U, U, U, U, U, U, trivial⟩ (by rw [HP, rnTo_0]; exact in3 (.tail _ (.head _)) (.tail _ (.tail _ (.tail _ (.head _)))) (.tail _ (.tail _ (.head _))))) ?_);intro k hk;refine .sr (.sA (.lss J J J) (.nil ?_));refine .seq (.cT J (fun h4 => ?_) fun h4 => ?_)
 ·rw [ZlM] at h4;have hlt : k < t.parts.length := by omega
  refine .skip (.seq (.block (.sr (.mA ?_))));refine .sA (.indexOwn J et_34 J J (.head _) k (by omega) (by rw [ZlM, Yek]; omega)) ?_;refine .sA (.loadRow J sc_3 J (.head _) k 0 J (rn_at hlt) J) ?_;refine .aa (.nil ?_);refine .sr (.mm ?_);refine .sA (.eql J J J) (.nil ?_);refine .cT J (fun h5 => ?_) fun h5 => ?_
  ·have HB := rnTo_hit (b := b) hlt h5;refine .region (.sA (.fieldAddrP J Ya8 J) ?_);refine .sA (.loadP J Ybt J (.tail _ (.head _)) J) ?_;refine .mm ?_;refine .sA (.indexOwn J et_34 J J (.head _) k (by omega) (by rw [ZlM, Yek]; omega)) ?_;refine .stR J J J sz_3 J (.head _) J J J k 0 J (rn_at hlt) (ZnB J) (.nil ?_);refine .region (.sA (.add64 J J J) ?_);refine .mN ?_;refine ⟨k + 1, (by omega), (by dsimp only; omega), Sub.less ⟨U, U, U, U, U, U, U, trivial⟩ (YaX (by dsimp only; rw [HB]; first | done | rfl | (rw [rn_set]; rfl)))⟩
  have HB := rnTo_no (b := b) hlt h5;refine .skip (.region (.sA (.add64 J J J) ?_));refine .mN ?_;refine ⟨k + 1, (by omega), (by dsimp only; omega), Sub.less ⟨U, U, U, U, U, U, U, trivial⟩ (YaX (by dsimp only; rw [HB]; first | done | rfl | (rw [rn_set]; rfl)))⟩
 rw [ZlM] at h4;obtain rfl : k = t.parts.length := by omega
 rw [rnTo_all];refine .exit (.seq (.freezeIn 301 6 J (.head _) (.head _) ?_));refine .region (.sA (.loadPU J Ybh J (.head _) J J) ?_);refine .st J J J Ycc J (.tail _ (.head _)) J J J (ZnB J) (.nil ?_);refine .ret ?_;refine ⟨RetR.agg J (.tail _ (.head _)) Ybh J (.c5 (.c5 (.c5 (.c5 (.c5 (.c5 (.c5 .nil))))))), trivial⟩
 all_goals (rfl)
theorem ifmin (x y : Int) : min x y = if y < x then y else x := by split <;> omega
def mrgC (g k : Thg) : ByteArray := if k.code = ⟨#[]⟩ then g.code else k.code
def mrgR (g k : Thg) : List Int := if k.parts.length = 0 then g.parts.map (renN g.id k.id) else k.parts.map (renN g.id k.id)
theorem c_merged (g k : Thg) (hg : g.parts.length <= 1048576) (hk : k.parts.length <= 1048576) : Yad Tryz.prog 21 [.agg g.ds, .agg k.ds] (.agg (mrgF g k).ds) := by
 refine Yap (n := 56) (ds' := [.agg (mrgF g k).ds]) Tryz.func21 J (by kernel_rfl) J [.cell 4 72] J J ?_;intro B w0 F0 fr;refine .sr (.sA (.box J J J) ?_);refine .sA (.box J J J) ?_;refine .alloc 301 J J J J Ycs J J J (.nil ?_);refine .sr (.sA (.loadAgg J Ybh J J) ?_);refine .fl YaW sc_3 ?_;refine .fl YaW sc_3 ?_;refine .sA (.call J (.cons (.rfl' J) (.cons (.rfl' J) (.cons (.rfl' J) .nil))) (c_ren _ _ _ (by assumption))) ?_;refine .alloc 302 J J J J Ycs J J J ?_;refine .st J J J Ycc J (.head _) J J J (ZnB J) (.nil ?_);refine .seqJ (True) (Env.of [(2, .d (.fp g.ds)), (3, .d (.fp k.ds)), (4, .ptr 301 0), (5, .ptr 302 0)]) [(302, .cells [.d (.v (.int .i64 k.id)), .d (.v (.int .i64 k.kind)), .d (.v (.string k.title)), .d (.v (.string k.code)), .d (.v (.int .i64 k.since)), .iv (mrgP g k), .d (.sl ((k.parts.map (renN g.id k.id)).map intD))]), (301, .cells [.d (.v (.int .i64 0)), .d (.v (.int .i64 0)), .d (.v (.string ⟨#[]⟩)), .d (.v (.string ⟨#[]⟩)), .d (.v (.int .i64 0)), .d (.v (.int .i64 0)), .d (.v (.slice none 0 0))])] ?_ (fun _ => ?_)
 ·skip;refine .sr (.fl Ya0 sc_3 ?_);refine .sA (.eql J J J) ?_;refine .mA ?_;refine .sT 15 J (fun g1 => ?_) fun g1 => ?_
  ·have HO : k.parent = 0 \/ k.parent = g.id := .inl g1;refine .pB ?_;refine .pB ?_;refine .pA ?_;refine .sA (.pickT J J J) (.nil ?_);refine .cond J (fun _ => ?_) (fun h => nomatch h);refine .sr (.fl Ya0 sc_3 ?_);refine .sA (.fieldAddrP J Ya0 J) ?_;refine .st J J J sz_3 J (.head _) J J J (ZnB J) (.nil ?_);refine .sr (.fl Ya0 sc_3 ?_);refine .fl YaW sc_3 ?_;refine .sA (.eql J J J) (.nil ?_);refine .cT J (fun h2 => ?_) fun h2 => ?_
   ·have HJ : mrgP g k = 0 := by unfold mrgP; rw [if_pos HO, if_pos h2]
    refine .region (.sA (.fieldAddrP J Ya0 J) ?_);refine .st J J J sz_3 J (.head _) J J J (ZnB J) (.nil ?_);refine ⟨?_, Sub.less ⟨U, U, U, U, trivial⟩ (YaX (by rw [HJ]; first | done | rfl))⟩;trivial
   have HJ : mrgP g k = g.parent := by unfold mrgP; rw [if_pos HO, if_neg h2]
   refine .skip ?_;refine ⟨?_, Sub.less ⟨U, U, U, U, trivial⟩ (YaX (by rw [HJ]; first | done | rfl))⟩;trivial
  have hn0 := g1;refine .sG (.fieldAddr J Ya0 J) ?_;refine .sG (.load J sc_3 J) ?_;refine .sG (.fieldAddr J YaW J) ?_;refine .sG (.load J sc_3 J) ?_;refine .sG (.eql J J J) ?_;refine .sA (.pickF J J J) (.nil ?_);refine .cT J (fun h3 => ?_) fun h3 => ?_
  ·have HO : k.parent = 0 \/ k.parent = g.id := .inr h3;refine .sr (.fl Ya0 sc_3 ?_);refine .sA (.fieldAddrP J Ya0 J) ?_;refine .st J J J sz_3 J (.head _) J J J (ZnB J) (.nil ?_);refine .sr (.fl Ya0 sc_3 ?_);refine .fl YaW sc_3 ?_;refine .sA (.eql J J J) (.nil ?_);refine .cT J (fun h4 => ?_) fun h4 => ?_
   ·have HJ : mrgP g k = 0 := by unfold mrgP; rw [if_pos HO, if_pos h4]
    refine .region (.sA (.fieldAddrP J Ya0 J) ?_);refine .st J J J sz_3 J (.head _) J J J (ZnB J) (.nil ?_);refine ⟨?_, Sub.less ⟨U, U, U, U, trivial⟩ (YaX (by rw [HJ]; first | done | rfl))⟩;trivial
   have HJ : mrgP g k = g.parent := by unfold mrgP; rw [if_pos HO, if_neg h4]
   refine .skip ?_;refine ⟨?_, Sub.less ⟨U, U, U, U, trivial⟩ (YaX (by rw [HJ]; first | done | rfl))⟩;trivial
  have HJ : mrgP g k = renN g.id k.id k.parent := if_neg (fun hh => hh.elim hn0 h3);refine .skip ?_;refine ⟨?_, Sub.less ⟨U, U, U, U, trivial⟩ (YaX (by rw [HJ]; first | done | rfl))⟩;trivial
 refine .seqJ (True) (Env.of [(2, .d (.fp g.ds)), (3, .d (.fp k.ds)), (4, .ptr 301 0), (5, .ptr 302 0)]) [(302, .cells [.d (.v (.int .i64 k.id)), .d (.v (.int .i64 k.kind)), .d (.v (.string k.title)), .d (.v (.string (mrgC g k))), .d (.v (.int .i64 k.since)), .iv (mrgP g k), .d (.sl ((k.parts.map (renN g.id k.id)).map intD))]), (301, .cells [.d (.v (.int .i64 0)), .d (.v (.int .i64 0)), .d (.v (.string ⟨#[]⟩)), .d (.v (.string ⟨#[]⟩)), .d (.v (.int .i64 0)), .d (.v (.int .i64 0)), .d (.v (.slice none 0 0))])] ?_ (fun _ => ?_)
 ·skip;refine .sr (.sA (.fieldAddrP J Yb5 J) ?_);refine .sA (.loadP J sc_9 J (.head _) J) ?_;refine .sA (.seql J J J) (.nil ?_);refine .cT J (fun h5 => ?_) fun h5 => ?_
  ·have HJ : mrgC g k = g.code := if_pos h5;refine .region (.fl Yb5 sc_9 ?_);refine .sA (.fieldAddrP J Yb5 J) ?_;refine .st J J J sz_9 J (.head _) J J J (ZnB J) (.nil ?_);refine ⟨?_, Sub.less ⟨U, U, U, U, trivial⟩ (YaX (by rw [HJ]; first | done | rfl))⟩;trivial
  have HJ : mrgC g k = k.code := if_neg h5;refine .skip ?_;refine ⟨?_, Sub.less ⟨U, U, U, U, trivial⟩ (YaX (by rw [HJ]; first | done | rfl))⟩;trivial
 refine .seqJ (True) (Env.of [(2, .d (.fp g.ds)), (3, .d (.fp k.ds)), (4, .ptr 301 0), (5, .ptr 302 0)]) [(302, .cells [.d (.v (.int .i64 k.id)), .d (.v (.int .i64 k.kind)), .d (.v (.string k.title)), .d (.v (.string (mrgC g k))), .d (.v (.int .i64 k.since)), .iv (mrgP g k), .d (.sl ((mrgR g k).map intD))]), (301, .cells [.d (.v (.int .i64 0)), .d (.v (.int .i64 0)), .d (.v (.string ⟨#[]⟩)), .d (.v (.string ⟨#[]⟩)), .d (.v (.int .i64 0)), .d (.v (.int .i64 0)), .d (.v (.slice none 0 0))])] ?_ (fun _ => ?_)
 ·skip;refine .sr (.sA (.fieldAddrP J Ya8 J) ?_);refine .sA (.loadP J Ybt J (.head _) J) (.sA (.lenSl J et_34.ht J) ?_);refine .sA (.eql J J J) (.nil ?_);refine .cT J (fun h6 => ?_) fun h6 => ?_
  ·rw [ZlM, ZlM] at h6;have HJ : mrgR g k = g.parts.map (renN g.id k.id) := if_pos (by omega);refine .region (.sA (.loadAgg J Ybh J J) ?_);refine .fl YaW sc_3 ?_;refine .fl YaW sc_3 ?_;refine .sA (.call J (.cons (.rfl' J) (.cons (.rfl' J) (.cons (.rfl' J) .nil))) (c_ren _ _ _ (by assumption))) ?_;refine .sA (.field J fv_72_6 J J) (.sA (.fieldAddrP J Ya8 J) ?_);refine .st J J J sz_34 J (.head _) J J J (ZnB J) (.nil ?_);refine ⟨?_, Sub.less ⟨U, U, U, U, trivial⟩ (YaX (by rw [HJ]; first | done | rfl))⟩;trivial
  rw [ZlM, ZlM] at h6;have HJ : mrgR g k = k.parts.map (renN g.id k.id) := if_neg (by omega);refine .skip ?_;refine ⟨?_, Sub.less ⟨U, U, U, U, trivial⟩ (YaX (by rw [HJ]; first | done | rfl))⟩;trivial
 refine .sr (.sA (.fieldAddrP J Yd3 J) ?_);refine .sA (.loadP J sc_3 J (.head _) J) ?_;refine .fl Yd3 sc_3 ?_;refine .sA (.min J J J) ?_;rw [ifmin];refine .sA (.fieldAddrP J Yd3 J) ?_;refine .st J J J sz_3 J (.head _) J J J (ZnB J) (.nil ?_);refine .sr (.sA (.loadPU J Ybh J (.head _) J J) ?_);refine .st J J J Ycc J (.tail _ (.head _)) J J J (ZnB J) (.nil ?_);refine .ret ?_;refine ⟨RetR.agg J (.tail _ (.head _)) Ybh J (.c5 (.c5 (.c5 (.c5 (.c5 (.c5 (.c5 .nil))))))), trivial⟩
 all_goals (rfl)
def sN (l : List Thg) (x : Thg) : Nat -> Int
 | 0 => x.id
 | j + 1 => upN l x.parent j
theorem CatOk.get {c : Ctl} (hc : CatOk c) {id : Int} (h : Yae c.things id = true) : thgF (getT c.things id) = 0 := by
 obtain ⟨k, hk, he⟩ := List.mem_iff_getElem.1 (YeP h).2;rw [<- he]; exact hc.th k hk
theorem CatOk.parts {c : Ctl} (hc : CatOk c) (id : Int) : (getT c.things id).parts.length <= 50 := by
 cases h : Yae c.things id with
 | true => exact YfW (hc.get h)
 | false => rw [getT_no h]; decide
theorem out_btw {c D : Ctl} (hc : chkF c = 0) (hD : RiK (idxL D.things)) (hM : RiK (mvL D.moved)) : outC c (btwX c D) = D := by
 have dT := diff_dif (nkT hc).nk hD.nk;have dM := diff_dif (nkM hc).nk hM.nk;refine ctl_ext ?_ ?_
 ·rw [out_things]
  have h1 : idxL ((btwP (idxL c.things) (idxL D.things)).map (·.2)) = btwP (idxL c.things) (idxL D.things) := by
   rw [<- dT.btwP hD];refine idxL_vals fun p hp => ?_
   rw [dT.btwP hD] at hp;obtain ⟨t, _, rfl⟩ := ZmM.1 (List.mem_filter.1 hp).1;rfl
  show stepG (idxL c.things) (idxL ((btwP (idxL c.things) (idxL D.things)).map (·.2))) (btwG (idxL c.things) (idxL D.things)) = _
  rw [h1, <- dT.btwP hD, <- dT.btwG (nkT hc)];exact dT.step (nkT hc).nk hD
 ·rw [out_moved]
  have h1 : mvL ((btwP (mvL c.moved) (mvL D.moved)).map mvO) = btwP (mvL c.moved) (mvL D.moved) := by
   rw [<- dM.btwP hM]; exact mvL_vals _
  show stepG (mvL c.moved) (mvL ((btwP (mvL c.moved) (mvL D.moved)).map mvO)) (btwG (mvL c.moved) (mvL D.moved)) = _
  rw [h1, <- dM.btwP hM, <- dM.btwG (nkM hc)];exact dM.step (nkM hc).nk hM
section
variable {c : Ctl} {a b : Int}
theorem ref_riT (h : chkF c = 0) : RiK (idxL (refC c a b).things) := by
 have h1 : RiK ((idxL c.things).filter fun p => nA a p.2) := (rikT (Yb8 h).ris).sublist List.filter_sublist;unfold refC refL;rw [List.take_length];unfold RiK at h1 ⊢;unfold idxL at h1 ⊢;rw [List.filter_map, List.pairwise_map] at h1;rw [List.map_map, List.pairwise_map];refine List.Pairwise.imp (fun {x y} hxy => ?_) h1;show (refT c a b x).id < (refT c a b y).id
 rw [YcS, YcS]; exact hxy
theorem ref_riM (h : chkF c = 0) : RiK (mvL (refC c a b).moved) := risM_by.2 (putF_ris (risM_by.1 (rikM (Yb8 h).rism)))
theorem mrg_out (h : Mrg c a b) : outC c (mrgX c a b) = refC c a b := by
 rw [<- mrg_same h]; exact out_btw h.ok (ref_riT h.ok) (ref_riM h.ok)
theorem mrg_app (h : (mrgV c a b).2 = 0) : Mrg c a b /\ (mrgV c a b).1 = mrgX c a b /\ (YaV c (mrgX c a b)).2.2 = 0 /\ (YaV c (mrgX c a b)).1 = refC c a b /\ chkF (refC c a b) = 0 := by
 by_cases h1 : chkF c = 0
 ·by_cases h2 : mrgO c a b = 0
  ·by_cases h3 : (YaV c (mrgX c a b)).2.2 = 0
   ·have hm := mrg_of h1 h2;obtain ⟨_, _, k3, k4⟩ := apply_ok h3;rw [mrg_out hm] at k3 k4;exact ⟨hm, by rw [mrgV_0 h1 h2 h3], h3, by rw [k4], k3⟩
   ·rw [mrgV_f h1 h2 h3] at h; exact absurd h h3
  ·rw [mrgV_o h1 rfl h2] at h; exact absurd h h2
 ·rw [mrgV_c h1] at h; exact absurd h h1
theorem ref_get (hk : chkF (refC c a b) = 0) {t : Thg} (ht : t ∈ c.things) (hn : t.id ≠ a) : getT (refC c a b).things t.id = refT c a b t /\ Yae (refC c a b).things t.id = true := by
 have h1 : refT c a b t ∈ (refC c a b).things := by
  unfold refC refL;rw [List.take_length];exact ZmM.2 ⟨t, List.mem_filter.2 ⟨ht, by unfold nA; simp [hn]⟩, rfl⟩
 have h2 := (Yb8 hk).ris.get h1;rw [YcS] at h2; exact h2
theorem ref_no : Yae (refC c a b).things a = false := by
 rw [thereB_no, findT_none];unfold refC refL;intro t ht;obtain ⟨u, hu, rfl⟩ := ZmM.1 ht;rw [YcS];have := (List.mem_filter.1 hu).2;unfold nA at this;simpa using this
end
section
variable {c : Ctl} {a b : Int} {k : Nat}
theorem mrgL_y (h : k < c.things.length) (hb : mrgB c a b c.things[k] = true) : mrgL c a b (k + 1) = mrgL c a b k ++ [mrgT c a b c.things[k]] := by
 unfold mrgL;rw [List.take_add_one, ZgE h, Option.toList_some, List.filter_append, List.filter_cons_of_pos hb, ZmA]; rfl
theorem mrgL_n (h : k < c.things.length) (hb : mrgB c a b c.things[k] = false) : mrgL c a b (k + 1) = mrgL c a b k := by
 unfold mrgL;rw [List.take_add_one, ZgE h, Option.toList_some, List.filter_append, List.filter_cons_of_neg (by rw [hb]; decide)]; simp
theorem mrgL_len (c : Ctl) (a b : Int) (k : Nat) : (mrgL c a b k).length <= c.things.length := by
 unfold mrgL;rw [ZlM];exact ZnT (List.length_filter_le _ _) (by rw [ZlT]; omega)
theorem mrgB_y {t : Thg} (h1 : t.id ≠ a) (h2 : t ≠ mrgT c a b t) : mrgB c a b t = true := by unfold mrgB; rw [decide_eq_false h1, decide_eq_false h2]; rfl
theorem mrgB_a {t : Thg} (h1 : t.id = a) : mrgB c a b t = false := by unfold mrgB; rw [decide_eq_true h1]; rfl
theorem mrgB_n {t : Thg} (h2 : t = mrgT c a b t) : mrgB c a b t = false := by unfold mrgB; rw [decide_eq_true h2]; cases decide (t.id = a) <;> rfl
theorem Yf0 {n : Int} (hb : i64 b) (hn : i64 n) : i64 (renN a b n) := by unfold renN; split <;> assumption
theorem renF_ok {t : Thg} (hb : i64 b) (h : ThgOk t) : ThgOk (renF t a b) := ⟨h.id, h.kind, h.title, h.code, h.since, Yf0 hb h.parent, fun n hn => by
 obtain ⟨m, hm, rfl⟩ := ZmM.1 hn
 exact Yf0 hb (h.parts m hm)⟩
theorem mrgF_ok {g k : Thg} (hg : ThgOk g) (hk : ThgOk k) : ThgOk (mrgF g k) := by
 refine ⟨hk.id, hk.kind, hk.title, ?_, ?_, ?_, ?_⟩
 ·show (if k.code = ⟨#[]⟩ then g.code else k.code).size <= _
  split
  ·exact hg.code
  ·exact hk.code
 ·show i64 (if g.since < k.since then g.since else k.since)
  split
  ·exact hg.since
  ·exact hk.since
 ·show i64 (mrgP g k)
  unfold mrgP;split
  ·split
   ·exact i64_0
   ·exact hg.parent
  ·exact Yf0 hk.id hk.parent
 ·show ∀ n ∈ (if k.parts.length = 0 then g.parts.map (renN g.id k.id) else k.parts.map (renN g.id k.id)), i64 n
  intro n hn;split at hn
  ·obtain ⟨m, hm, rfl⟩ := ZmM.1 hn;exact Yf0 hk.id (hg.parts m hm)
  ·obtain ⟨m, hm, rfl⟩ := ZmM.1 hn;exact Yf0 hk.id (hk.parts m hm)
theorem mrgF_parts {g k : Thg} {n : Nat} (hg : g.parts.length <= n) (hk : k.parts.length <= n) : (mrgF g k).parts.length <= n := by
 show (if k.parts.length = 0 then g.parts.map (renN g.id k.id) else k.parts.map (renN g.id k.id)).length <= n
 split <;> (rw [ZlM]; assumption)
theorem mrgX_in (hc : CtlOk c) (h : chkF c = 0) (ha : i64 a) (hb : i64 b) : XIn (mrgX c a b) := by
 have hp := (Yb8 h).parts
 have hx : ∀ t ∈ (mrgX c a b).put, ∃ u ∈ c.things, t = mrgT c a b u := fun t ht => by
  obtain ⟨u, hu, rfl⟩ := ZmM.1 (show t ∈ mrgL c a b c.things.length from ht);exact ⟨u, List.mem_of_mem_take (List.mem_filter.1 hu).1, J⟩
 refine ⟨⟨fun t ht => ?_, fun n hn => ?_, fun m hm => ?_, fun n hn => ?_⟩, fun t ht => ?_⟩
 ·obtain ⟨u, hu, rfl⟩ := hx t ht;unfold mrgT;split
  ·exact mrgF_ok (Ygj hc.things a) (Ygj hc.things b)
  ·exact renF_ok hb (hc.things u hu)
 ·obtain rfl := ZmS.1 (show n ∈ [a] from hn); exact ha
 ·obtain rfl := ZmS.1 (show m ∈ [(⟨a, b⟩ : Mvd)] from hm); exact ⟨ha, hb⟩
 ·exact absurd (show n ∈ ([] : List Int) from hn) List.not_mem_nil
 ·obtain ⟨u, hu, rfl⟩ := hx t ht;unfold mrgT;split
  ·exact ZnT (mrgF_parts (hp a) (hp b)) (by decide)
  ·show (u.parts.map (renN a b)).length <= 1048576
   rw [ZlM];have := hp u.id;rw [((Yb8 h).ris.get hu).1] at this;exact ZnT this (by decide)
end
theorem obs_t {x : Nat × Ob} {σ σ' : Obs} (h : σ = σ') : ∀ p ∈ σ', p ∈ x :: σ := h ▸ fun _ h => .tail _ h
theorem c_pMerge (c : Ctl) (a b : Int) (hc : CtlOk c) (ha : i64 a) (hb : i64 b) : ACallT Tryz.prog MaxT 5 [.agg c.ds, .v (.int .i64 a), .v (.int .i64 b)] (.tup [.agg (mrgV c a b).1.ds, .v (.int .i64 (mrgV c a b).2)]) := by
 refine YcP (n := 125) (ds' := [.agg (mrgV c a b).1.ds, .v (.int .i64 (mrgV c a b).2)]) Tryz.func5 J (by kernel_rfl) J [.cell 6 36, .tmp 7] J J ?_;intro B w0 F0 hT;refine .sr (.sA (.box J J J) ?_);refine .alloc 301 J J J J YfP J J J ?_;refine .aN ?_;refine .seq (.sr (.sA (.loadAgg J YbB J J) ?_))
 -- wants the world
 refine .callT J J J hT Yam J (.cons (.rfl' J) .nil) (c_pChk c hc) ?_;refine .aN ?_;refine .sr (.mA ?_);refine .sA (.neq J J J) (.nil ?_);refine .cT J (fun h1 => ?_) fun h1 => ?_
 ·rw [mrgV_c (by first | exact h1 | omega)];refine .sr (.sA (.build J Ygx .nil J) ?_);refine .mA ?_;refine .st J J J Ycy J (.head _) J J J (ZnB J) ?_;refine .aN ?_;refine .ret ?_;refine ⟨RetR.agg J (.head _) Yce J (.c5 (.c5 (.c5 (.c5 .nil)))), RetD.eq J ?_, trivial⟩
  all_goals (rfl)
 have k0 : chkF c = 0 := (by first | exact h1 | omega);have HC := Yb8 k0;have hl := HC.lim;have hl1 := hl.1;have hl2 := hl.2;have hr := HC.ris;have hpa : (getT c.things a).parts.length <= 1048576 := ZnT (HC.parts a) (by decide);have hpb : (getT c.things b).parts.length <= 1048576 := ZnT (HC.parts b) (by decide);refine .skip (.sr (.sA (.loadAgg J YbB J J) ?_));refine .sA (.call J (.cons (.rfl' J) .nil) (c_idxOf c hl hc hr)) ?_;refine .aN ?_;refine .sr (.mm ?_);refine .sA (.lookupOkF (key := kI a) J Yer YaC YeZ Ye0 J J (DExact.v _) (Ya3 ha) (Ybp hc.things) _ (Yb3 hr.nk _)) ?_;refine .mA ?_;refine .sA (.extract J J J) (.sA (.extract J J J) ?_);refine .alloc 102 J J J J Ycs J J J ?_;refine .st J J J Ycc J (.head _) J J J (ZnB J) ?_;refine .freezeCells 10 (ds := (getT c.things a).ds) J (.head _) ?_;refine .aN ?_;refine .sr (.mm ?_);refine .sA (.lookupOkF (key := kI b) J Yer YaC YeZ Ye0 J J (DExact.v _) (Ya3 hb) (Ybp hc.things) _ (Yb3 hr.nk _)) ?_;refine .mA ?_;refine .sA (.extract J J J) (.sA (.extract J J J) ?_);refine .alloc 103 J J J J Ycs J J J ?_;refine .st J J J Ycc J (.head _) J J J (ZnB J) ?_;refine .freezeCells 12 (ds := (getT c.things b).ds) J (.head _) ?_;refine .aN ?_;refine .seqJ (mrgO c a b = 0) (Env.of [(1, .d (.v (.int .i64 a))), (2, .d (.v (.int .i64 b))), (3, .d (.fp c.ds)), (6, .ptr 301 0), (10, .d (.fp (getT c.things a).ds)), (12, .d (.fp (getT c.things b).ds))]) [(301, .cells [.d (.v (.slice none 0 0)), .d (.v (.slice none 0 0)), .d (.v (.slice none 0 0)), .d (.v (.slice none 0 0))])] ?_ (fun ho => ?_)
 ·skip;refine .block (.sr (.mA ?_));refine .sA (.not J J) ?_;refine .mA ?_;refine .split 44 J (fun g2 => ?_) (fun g2 => ?_)
  ·replace g2 := Yaw g2;rw [mrgV_o k0 (mrgO_9 (.inl g2)) (by decide)];refine .pB ?_;refine .sA (.pickT J J J) ?_;refine .aN ?_;refine .cond J (fun _ => ?_) (fun h => nomatch h);refine .sr (.sA (.build J Ygx .nil J) ?_);refine .st J J J Ycy J (.head _) J J J (ZnB J) ?_;refine .aN ?_;refine .ret ?_;refine ⟨RetR.agg J (.head _) Yce J (.c5 (.c5 (.c5 (.c5 .nil)))), RetD.eq J ?_, trivial⟩
   all_goals (rfl)
  replace g2 := Yax g2;have ta := g2;refine .sG (.moveD J J) ?_;refine .sG (.not J J) ?_;refine .sA (.pickF J J J) ?_;refine .aN ?_;refine .cond J (fun h3 => ?_) (fun h3 => ?_)
  ·replace h3 := Yaw h3;rw [mrgV_o k0 (mrgO_9 (.inr h3)) (by decide)];refine .sr (.sA (.build J Ygx .nil J) ?_);refine .st J J J Ycy J (.head _) J J J (ZnB J) ?_;refine .aN ?_;refine .ret ?_;refine ⟨RetR.agg J (.head _) Yce J (.c5 (.c5 (.c5 (.c5 .nil)))), RetD.eq J ?_, trivial⟩
   all_goals (rfl)
  replace h3 := Yax h3;have tb := h3;have h1 : ¬ (Yae c.things a = false \/ Yae c.things b = false) := by rw [ta, tb]; simp
  refine .sr (.mm ?_);refine .sA (.eql J J J) ?_;refine .aN ?_;refine .cT J (fun h4 => ?_) fun h4 => ?_
  ·rw [mrgV_o k0 (mrgO_7 h1 h4) (by decide)];refine .sr (.sA (.build J Ygx .nil J) ?_);refine .st J J J Ycy J (.head _) J J J (ZnB J) ?_;refine .aN ?_;refine .ret ?_;refine ⟨RetR.agg J (.head _) Yce J (.c5 (.c5 (.c5 (.c5 .nil)))), RetD.eq J ?_, trivial⟩
   all_goals (rfl)
  have h2 := h4;refine .sr (.fl Ya4 sc_3 ?_);refine .fl Ya4 sc_3 ?_;refine .sA (.neq J J J) ?_;refine .aN ?_;refine .cT J (fun h5 => ?_) fun h5 => ?_
  ·rw [mrgV_o k0 (mrgO_6 h1 h2 h5) (by decide)];refine .sr (.sA (.build J Ygx .nil J) ?_);refine .st J J J Ycy J (.head _) J J J (ZnB J) ?_;refine .aN ?_;refine .ret ?_;refine ⟨RetR.agg J (.head _) Yce J (.c5 (.c5 (.c5 (.c5 .nil)))), RetD.eq J ?_, trivial⟩
   all_goals (rfl)
  have h3 : ¬ ((getT c.things a).kind ≠ (getT c.things b).kind) := fun hh => hh (by first | exact h5 | exact Decidable.not_not.1 h5 | omega)
  refine .sr (.fl Yb5 sc_9 ?_);refine .sA (.sneq J J J) ?_;refine .mA ?_;refine .sT 65 J (fun g6 => ?_) fun g6 => ?_
  ·have h4 := g6;refine .sG (.fieldAddr J Yb5 J) ?_;refine .sG (.load J sc_9 J) ?_;refine .sG (.sneq J J J) ?_;refine .sA (.pickT J J J) ?_;refine .aN ?_;refine .cT J (fun h7 => ?_) fun h7 => ?_
   ·rw [mrgV_o k0 (mrgO_12 h1 h2 h3 ⟨h4, h7⟩) (by decide)];refine .sr (.sA (.build J Ygx .nil J) ?_);refine .st J J J Ycy J (.head _) J J J (ZnB J) ?_;refine .aN ?_;refine .ret ?_;refine ⟨RetR.agg J (.head _) Yce J (.c5 (.c5 (.c5 (.c5 .nil)))), RetD.eq J ?_, trivial⟩
    all_goals (rfl)
   have ho : mrgO c a b = 0 := mrgO_0 h1 h2 h3 (fun hh => by first | exact h7 hh.2 | exact hh.2 h7 | exact absurd h7 hh.2);refine .skip ?_;refine ⟨?_, Sub.less ⟨U, U, U, U, U, U, trivial⟩ (fun _ h => h)⟩;exact ho
  have ho : mrgO c a b = 0 := mrgO_0 h1 h2 h3 (fun hh => by first | exact g6 hh.1 | exact hh.1 g6 | exact absurd g6 hh.1);refine .pB ?_;refine .pA ?_;refine .sA (.pickF J J J) ?_;refine .aN ?_;refine .cond J (fun h => nomatch h) (fun _ => ?_);refine .skip ?_;refine ⟨?_, Sub.less ⟨U, U, U, U, U, U, trivial⟩ (fun _ h => h)⟩;exact ho
 have hM : Mrg c a b := mrg_of k0 ho;refine .sr (.mA ?_);refine .sA (.buildSlice J et_34 (.cons J J J .nil) J (by decide)) ?_;refine .mm ?_;refine .sA (.build J bu_74 (.cons J J (.cons J J .nil)) J) ?_;refine .sA (.buildSlice J et_23 (.cons J J J .nil) J (by decide)) ?_;refine .sA (.build J Ygx (.cons J J (.cons J J .nil)) J) ?_;refine .alloc 303 J J J J YfP J J J ?_;refine .st J J J Ycy J (.head _) J J J (ZnB J) (.nil ?_);refine .seq (.seq (.adoptCell 201 72 7 303 0 (.head _) J J ?_));refine .adoptCell 202 3 1 303 3 (.tail _ (.head _)) J J ?_;refine .freezeIn 303 3 J (.tail _ (.head _)) (.head _) ?_;refine .weaken (e' := Env.of [(1, .d (.v (.int .i64 a))), (2, .d (.v (.int .i64 b))), (3, .d (.fp c.ds)), (6, .ptr 301 0), (10, .d (.fp (getT c.things a).ds)), (12, .d (.fp (getT c.things b).ds)), (14, .ptr 303 0)]) (σ' := [(201, .row 72 7 ((mrgL c a b 0).map Thg.ds)), (303, .cells [.own 201, .d (.sl ([a].map intD)), .d (.sl ([(⟨a, b⟩ : Mvd)].map Mvd.ds)), .d (.sl [])]), (301, .cells [.d (.v (.slice none 0 0)), .d (.v (.slice none 0 0)), .d (.v (.slice none 0 0)), .d (.v (.slice none 0 0))])]) (Sub.less ⟨U, U, U, U, U, U, U, trivial⟩ (fun p h => h)) ?_;refine .region (.fl Ydr YdK ?_);refine .sA (.lenSl J et_22.ht J) ?_;refine .mN ?_;refine .block (.loop (G := Nat) (fun k => Env.of [(81, .iv k), (79, .d (.sl (c.things.map Thg.ds))), (80, .iv (c.things.map Thg.ds).length), (1, .d (.v (.int .i64 a))), (2, .d (.v (.int .i64 b))), (3, .d (.fp c.ds)), (6, .ptr 301 0), (10, .d (.fp (getT c.things a).ds)), (12, .d (.fp (getT c.things b).ds)), (14, .ptr 303 0)]) (fun k => [(201, .row 72 7 ((mrgL c a b k).map Thg.ds)), (303, .cells [.own 201, .d (.sl ([a].map intD)), .d (.sl ([(⟨a, b⟩ : Mvd)].map Mvd.ds)), .d (.sl [])]), (301, .cells [.d (.v (.slice none 0 0)), .d (.v (.slice none 0 0)), .d (.v (.slice none 0 0)), .d (.v (.slice none 0 0))])]) (fun k => k <= c.things.length) (fun k => c.things.length - k) 0 (ZnZ _) (Sub.less ⟨U, U, U, U, U, U, U, U, U, U, trivial⟩ (YaX J)) ?_);intro k hk;refine .sr (.sA (.lss J J J) (.nil ?_));refine .seq (.cT J (fun h8 => ?_) fun h8 => ?_)
 ·rw [ZlM] at h8;have hlt : k < c.things.length := by omega
  have hq := mrgL_len c a b k;have hpk : c.things[k].parts.length <= 1048576 := by have := HC.parts c.things[k].id; rw [(hr.get (ZgM hlt)).1] at this; exact ZnT this (by decide)
  refine .skip (.seq (.block (.sr (.sA (.indexAddr J et_22 J J k J (YaU hlt) J) ?_))));refine .sA (.loadAgg J Ybh J J) ?_;refine .alloc 105 J J J J Ycs J J J ?_;refine .st J J J Ycc J (.head _) J J J (ZnB J) ?_;refine .freezeCells 16 (ds := c.things[k].ds) J (.head _) (.nil ?_);refine .sr (.sA (.loadAgg J Ybh J J) ?_);refine .mm ?_;refine .sA (.call J (.cons (.rfl' J) (.cons (.rfl' J) (.cons (.rfl' J) .nil))) (c_ren c.things[k] a b hpk)) ?_;refine .alloc 305 J J J J Ycs J J J ?_;refine .st J J J Ycc J (.head _) J J J (ZnB J) (.nil ?_);refine .seqJ (True) (Env.of [(81, .iv k), (79, .d (.sl (c.things.map Thg.ds))), (80, .iv (c.things.map Thg.ds).length), (1, .d (.v (.int .i64 a))), (2, .d (.v (.int .i64 b))), (3, .d (.fp c.ds)), (6, .ptr 301 0), (10, .d (.fp (getT c.things a).ds)), (12, .d (.fp (getT c.things b).ds)), (14, .ptr 303 0), (16, .d (.fp c.things[k].ds)), (17, .ptr 305 0)]) [(305, .cells ((mrgT c a b c.things[k]).ds.map S.d)), (201, .row 72 7 ((mrgL c a b k).map Thg.ds)), (303, .cells [.own 201, .d (.sl ([a].map intD)), .d (.sl ([(⟨a, b⟩ : Mvd)].map Mvd.ds)), .d (.sl [])]), (301, .cells [.d (.v (.slice none 0 0)), .d (.v (.slice none 0 0)), .d (.v (.slice none 0 0)), .d (.v (.slice none 0 0))])] ?_ (fun _ => ?_)
  ·skip;refine .sr (.fl YaW sc_3 ?_);refine .mA ?_;refine .sA (.eql J J J) (.nil ?_);refine .cT J (fun h9 => ?_) fun h9 => ?_
   ·have HJ : mrgT c a b c.things[k] = mrgF (getT c.things a) (getT c.things b) := if_pos h9;refine .region (.sA (.loadAgg J Ybh J J) ?_);refine .sA (.loadAgg J Ybh J J) (.sA (.call J (.cons (.rfl' J) (.cons (.rfl' J) .nil)) (c_merged _ _ hpa hpb)) ?_);refine .st J J J Ycc J (.head _) J J J (ZnB J) (.nil ?_);refine ⟨?_, Sub.less ⟨U, U, U, U, U, U, U, U, U, U, U, U, trivial⟩ (YaX (by rw [HJ]; first | done | rfl))⟩;trivial
   have HJ : mrgT c a b c.things[k] = renF c.things[k] a b := if_neg h9;refine .skip ?_;refine ⟨?_, Sub.less ⟨U, U, U, U, U, U, U, U, U, U, U, U, trivial⟩ (YaX (by rw [HJ]; first | done | rfl))⟩;trivial
  refine .sr (.fl YaW sc_3 ?_);refine .mA ?_;refine .sA (.neq J J J) ?_;refine .mA ?_;refine .sT 100 J (fun g10 => ?_) fun g10 => ?_
  ·have h5 := g10;refine .sG (.loadAgg J Ybh J J) ?_;refine .sG (.loadPU J Ybh J (.head _) J J) ?_;refine .sG (.call J (.cons (.rfl' J) (.cons (.rfl' J) .nil)) (c_equal _ _)) ?_;refine .sG (.not J J) ?_;refine .sA (.pickT J J J) (.nil ?_);refine .cond J (fun h11 => ?_) (fun h11 => ?_)
   ·replace h11 := Yaw h11;have HB := mrgL_y hlt (mrgB_y h5 (by first | exact h11 | exact dcF h11));refine .region (.sA (.fieldAddrP J Ycw J) ?_);refine .sA (.loadP J YdK J (.tail _ (.tail _ (.head _))) J) (.sA (.loadPU J Ybh J (.head _) J J) ?_);refine .sA (.buildSlice J et_22 (.cons J J J .nil) J (by decide)) ?_
    -- append 110
    refine .append rfl rfl rfl rfl et_22 rfl (.tail _ (.head _)) rfl (fun y hy => by obtain rfl := ZmS.1 hy; rfl) (by simp; omega) (by simp; omega) ?_;refine .sA (.fieldAddrP J Ycw J) ?_;refine .storeS J J J sz_22 J (.tail _ (.tail _ (.head _))) J (.tail _ (.head _)) (ZnB J) (.nil ?_);refine .region (.sA (.add64 J J J) ?_);refine .mN ?_;refine ⟨k + 1, (by omega), (by dsimp only; omega), Sub.less ⟨U, U, U, U, U, U, U, U, U, U, trivial⟩ (obs_t (by dsimp only; rw [HB]; first | done | rfl | (rw [ZmA]; rfl)))⟩
   replace h11 := Yax h11;have HB := mrgL_n (a := a) (b := b) hlt (mrgB_n (by first | exact h11 | exact dcT h11 | exact Decidable.not_not.1 h11));refine .skip (.region (.sA (.add64 J J J) ?_));refine .mN ?_;refine ⟨k + 1, (by omega), (by dsimp only; omega), Sub.less ⟨U, U, U, U, U, U, U, U, U, U, trivial⟩ (obs_t (by dsimp only; rw [HB]; first | done | rfl | (rw [ZmA]; rfl)))⟩
  have HB := mrgL_n (a := a) (b := b) hlt (mrgB_a (by first | exact g10 | exact Decidable.not_not.1 g10));refine .pB ?_;refine .pB ?_;refine .sA (.pickF J J J) (.nil ?_);refine .cond J (fun h => nomatch h) (fun _ => ?_);refine .skip (.region (.sA (.add64 J J J) ?_));refine .mN ?_;refine ⟨k + 1, (by omega), (by dsimp only; omega), Sub.less ⟨U, U, U, U, U, U, U, U, U, U, trivial⟩ (obs_t (by dsimp only; rw [HB]; first | done | rfl | (rw [ZmA]; rfl)))⟩
 rw [ZlM] at h8;obtain rfl : k = c.things.length := by omega
 refine .exit (.seq (.seq (.freezeIn 303 0 J (.head _) (.head _) ?_)));refine .region (.sA (.loadAgg J YbB J J) ?_);refine .sA (.loadPU J Yce J (.head _) J J) ?_
 -- wants the world
 refine .callT J J J hT Yam J (.cons (.rfl' J) (.cons (.rfl' J) .nil)) (c_pApply c (mrgX c a b) hc (mrgX_in hc k0 ha hb)) ?_;refine .mA ?_;refine .sA (.extract J J J) (.sA (.extract J J J) (.sA (.extract J J J) ?_));refine .alloc 107 J J J J zt_25 J J J ?_;refine .alloc 108 J J J J YfP J J J ?_;refine .st J J J sz_25 J (.tail _ (.head _)) J J J (ZnB J) ?_;refine .freezeCells 18 (ds := (YaV c (mrgX c a b)).1.ds) J (.tail _ (.head _)) ?_;refine .st J J J Ycy J (.head _) J J J (ZnB J) ?_;refine .freezeCells 19 (ds := (YaV c (mrgX c a b)).2.1.ds) J (.head _) ?_;refine .aN ?_;refine .sr (.mA ?_);refine .sA (.neq J J J) (.nil ?_);refine .cT J (fun h12 => ?_) fun h12 => ?_
 ·rw [mrgV_f k0 ho (by first | exact h12 | omega)];refine .sr (.sA (.build J Ygx .nil J) ?_);refine .mA ?_;refine .st J J J Ycy J (.tail _ (.head _)) J J J (ZnB J) ?_;refine .aN ?_;refine .ret ?_;refine ⟨RetR.agg J (.tail _ (.head _)) Yce J (.c5 (.c5 (.c5 (.c5 .nil)))), RetD.eq J ?_, trivial⟩
  all_goals (rfl)
 rw [mrgV_0 k0 ho (by first | exact h12 | omega)];refine .skip (.sr (.sA (.loadPU J Yce J (.head _) J J) ?_));refine .st J J J Ycy J (.tail _ (.head _)) J J J (ZnB J) ?_;refine .aN ?_;refine .ret ?_;refine ⟨RetR.agg J (.tail _ (.head _)) Yce J (.c5 (.c5 (.c5 (.c5 .nil)))), RetD.eq J ?_, trivial⟩
 all_goals (rfl)
theorem ref_ok {c : Ctl} {a b : Int} (h : Mrg c a b) (hc : CtlOk c) (ha : i64 a) (hb : i64 b) : CtlOk (refC c a b) := by
 have h1 : (YaV c (mrgX c a b)).1 = (YaV c (mrgX c a b)).1 := rfl;have h2 := (applyV_in hc (mrgX_in hc h.ok ha hb)).1;refine ⟨fun t ht => ?_, fun m hm => ?_⟩
 ·obtain ⟨u, hu, rfl⟩ := ZmM.1 (show t ∈ refL c a b c.things.length from ht);have hu := List.mem_of_mem_take (List.mem_filter.1 hu).1;rw [<- h.same u hu];unfold mrgT;split
  ·exact mrgF_ok (Ygj hc.things a) (Ygj hc.things b)
  ·exact renF_ok hb (hc.things u hu)
 ·rcases putF_mem (f := Mvd.src) (show m ∈ putF Mvd.src c.moved ⟨a, b⟩ from hm) with rfl | h3
  ·exact ⟨ha, hb⟩
  ·exact hc.moved m h3
namespace Ty
theorem ag_85 : AggT Tryz.prog 85 3 := .of (by kernel_rfl)
theorem et_26 : ElemTy Tryz.prog 26 85 3 40 (.agg #[(.string ⟨#[]⟩), (.int .i64 0), (.string ⟨#[]⟩)]) := ⟨by kernel_rfl, by kernel_rfl, by kernel_rfl, by decide⟩
theorem Ygm : Yac Tryz.prog 85 0 = some 0 := by kernel_rfl
theorem fo_85_1 : Yac Tryz.prog 85 1 = some 1 := by kernel_rfl
theorem fo_85_2 : Yac Tryz.prog 85 2 = some 2 := by kernel_rfl
theorem sz_85 : ∀ w, (sizeOf 85).run Tryz.prog w = .ok 3 w := SizeT.of (by kernel_rfl)
theorem zt_3 : (Tryz.prog.info? 3).bind (·.zero) = some (.int .i64 0) := by kernel_rfl
theorem zt_85 : (Tryz.prog.info? 85).bind (·.zero) = some (.agg #[(.string ⟨#[]⟩), (.int .i64 0), (.string ⟨#[]⟩)]) := by kernel_rfl
end Ty
open Go.Lib
structure Src where
 media : ByteArray
 recd : Int
 thing : ByteArray
deriving DecidableEq
instance : Inhabited Src := ⟨⟨⟨#[]⟩, 0, ⟨#[]⟩⟩⟩
def Src.ds (s : Src) : List D := [.v (.string s.media), .v (.int .i64 s.recd), .v (.string s.thing)]
structure SrcS (s : Src) : Prop where
 media : s.media.size <= 9223372036854775807
 recd : i64 s.recd
 thing : s.thing.size <= 9223372036854775807
def sAt (l : List Src) (i : Nat) : Src := l.getD i default
theorem sAt_mem {l : List Src} {i : Nat} (h : i < l.length) : sAt l i ∈ l := Yba h
theorem at_s {l : List Src} {i : Nat} (h : i < l.length) : (l.map Src.ds)[i]? = some (sAt l i).ds := Yca h
def kndL (l : List Thg) : List (Int × Int) := l.map fun t => (t.id, t.kind)
def kndM (l : List Thg) : List (Value × D) := encG kI (fun p => .v (.int .i64 p.2)) (kndL l)
def Yge (l : List Thg) (id : Int) : Int := (Yaa (kndL l) id).getD 0
theorem RisT.nkK {l : List Thg} (h : RisT l) : NkG (kndL l) := by
 have := h.nk;unfold NkG idxL at this;unfold NkG kndL;rw [List.pairwise_map] at this ⊢;exact this
theorem knd_keys {l : List Thg} (h : ∀ x ∈ l, ThgOk x) : ∀ p ∈ kndM l, ∃ q, keyOf Tryz.prog 3 p.1 = some q := fun p hp => by
 unfold kndM encG kndL at hp;rw [List.map_map] at hp;obtain ⟨t, ht, rfl⟩ := ZmM.1 hp;exact Ya3 (h t ht).id
theorem put_knd {l : List Thg} (h : RisT l) {k : Nat} (hk : k < l.length) : MPut (kndM (l.take k)) (kI l[k].id) (.v (.int .i64 l[k].kind)) (kndM (l.take (k + 1))) := by
 have h1 := YgH (kv := kI) (dv := fun p : Int × Int => D.v (.int .i64 p.2)) Yb2 (h.take k).nkK l[k].id l[k].kind
 have h2 : putG (kndL (l.take k)) l[k].id l[k].kind = kndL (l.take (k + 1)) := by
  have hno : ¬ hasG (kndL (l.take k)) l[k].id = true := fun hh => by
   obtain ⟨p, hp, he⟩ := hasG_iff.1 hh;unfold kndL at hp;obtain ⟨t, ht, rfl⟩ := ZmM.1 hp;obtain ⟨j, hj, rfl⟩ := List.mem_iff_getElem.1 ht;rw [ZlT] at hj;rw [List.getElem_take] at he;have := h.up j k (by omega) hk (by omega);dsimp only at he;omega
  unfold putG;rw [if_neg hno];unfold kndL;rw [List.take_add_one, ZgE hk, Option.toList_some, ZmA];rfl
 rw [h2] at h1;exact h1
theorem get_knd {l : List Thg} (h : RisT l) (id : Int) : MGet (kndM l) (kI id) (.v (.int .i64 0)) (.v (.int .i64 (Yge l id))) :=
 mgetG (kv := kI) (dv := fun p : Int × Int => D.v (.int .i64 p.2)) Yb2 h.nkK id _ _ (by unfold Yge; cases Yaa (kndL l) id <;> rfl)
def kB (s : ByteArray) : Value := .string s
theorem kB_inj {a b : ByteArray} (h : kB a = kB b) : a = b := by unfold kB at h; injection h
def srcF (c : Ctl) (l : List Src) (i : Nat) : Int :=
 if Ya9 (sAt l i).media.data.toList = false then 5
 else if 0 < i /\ sle (sAt l i).media (sAt l (i - 1)).media = true then 8
 else if Yc0 c (sAt l i).recd ≠ 0 then Yc0 c (sAt l i).recd
 else if Yge c.things (YbA c (sAt l i).recd) ≠ 2 then 6
 else if Ya9 (sAt l i).thing.data.toList = false then 5 else 0
def recF (c : Ctl) (l : List Src) : Int := if chkF c ≠ 0 then chkF c else if 100 < l.length then 2 else ffst (srcF c l) l.length
def recL (c : Ctl) (l : List Src) : List (ByteArray × Int) := l.foldl (fun L s => putG L s.media (YbA c s.recd)) []
def recM (L : List (ByteArray × Int)) : List (Value × D) := encG kB (fun p => .v (.int .i64 p.2)) L
def YcC (c : Ctl) (l : List Src) (i : Nat) : List (ByteArray × Int) := recL c (l.take i)
theorem Ybw {c : Ctl} {l : List Src} {i : Nat} (h : i < l.length) : YcC c l (i + 1) = putG (YcC c l i) (sAt l i).media (YbA c (sAt l i).recd) := by
 unfold YcC recL sAt;rw [List.take_add_one, ZgE h, Option.toList_some, List.foldl_append];simp [h]
theorem Yem (c : Ctl) (l : List Src) : ∀ i, NkG (YcC c l i)
 | 0 => by unfold YcC recL NkG; simp
 | i + 1 => by
  by_cases h : i < l.length
  ·rw [Ybw h]; exact Ydj (Yem c l i) _ _
  ·have e : YcC c l (i + 1) = YcC c l i := by unfold YcC; rw [List.take_of_length_le (by omega), List.take_of_length_le (by omega)]
   rw [e]; exact Yem c l i
def recD (c : Ctl) (l : List Src) : D := if recF c l = 0 then .fm (recM (recL c l)) else .v (.map none)
theorem Yct {c : Ctl} {l : List Src} {n : Int} (h : recF c l = n) (hn : n ≠ 0) : recD c l = .v (.map none) := if_neg (by rw [h]; exact hn)
theorem led_in {c : Ctl} : ∀ {n : Nat} {id x : Int}, led c n id = some x -> Yae c.things x = true
 | 0, _, _, h => by simp [led] at h
 | n + 1, id, x, h => by
  rw [led] at h
  by_cases h1 : Yae c.things id = true
  ·rw [if_pos h1] at h; rw [<- Option.some.inj h]; exact h1
  ·rw [if_neg h1] at h;split at h
   ·exact led_in h
   ·cases h
theorem Ygr {c : Ctl} (hc : CtlOk c) (id : Int) : i64 (YbA c id) := by
 unfold YbA;split
 ·unfold i64; decide
 ·cases h : ledC c id with
  | none => unfold i64; decide
  | some x =>
   obtain ⟨t, ht, rfl⟩ := thereB_iff.1 (led_in h);exact (hc.things t ht).id
theorem YeN : Maps.Keyed Tryz.prog 9 := Maps.string_keyed Tryz.underlying9
theorem kB_ok {s : ByteArray} (h : s.size <= maxLen) : ∃ l, keyOf Tryz.prog 9 (kB s) = some l := ⟨.string s.data.toList, by simp [keyOf, mapKey, kB, Tryz.underlying9, h]⟩
theorem nm_len {s : ByteArray} (h : Ya9 s.data.toList = true) : s.size <= maxLen := by
 unfold Ya9 at h;simp only [ZbA, decide_eq_true_eq] at h;have := h.1.1.2;rw [Lib.size_eq];unfold maxLen; omega
theorem putG_in {κ β : Type} [DecidableEq κ] {L : List (κ × β)} {k : κ} {v : β} {p : κ × β} (h : p ∈ putG L k v) : p.1 = k \/ p ∈ L := by
 unfold putG at h;split at h
 ·obtain ⟨q, hq, rfl⟩ := ZmM.1 h;split
  ·exact .inl J
  ·exact .inr hq
 ·rcases List.mem_append.1 h with h | h
  ·exact .inr h
  ·rw [ZmS.1 h]; exact .inl rfl
theorem Yfy {c : Ctl} {l : List Src} : ∀ {i : Nat}, i <= l.length -> ffst (srcF c l) i = 0 -> ∀ p ∈ YcC c l i, p.1.size <= maxLen
 | 0, _, _, p, hp => by simp [YcC, recL] at hp
 | i + 1, hi, h, p, hp => by
  have ha := Ya5 _ h;rw [Ybw (by omega)] at hp
  rcases putG_in hp with e | hp
  ·rw [e];have h1 := ha i (Nat.lt_succ_self i);unfold srcF at h1
   by_cases hn : Ya9 (sAt l i).media.data.toList = false
   ·rw [if_pos hn] at h1; exact absurd h1 (by decide)
   ·exact nm_len (by simpa using hn)
  ·refine Yfy (by omega) ?_ p hp
   by_cases h2 : ffst (srcF c l) i = 0
   ·exact h2
   ·unfold ffst at h; rw [if_neg h2] at h; exact h
theorem Yel {L : List (ByteArray × Int)} (hL : ∀ p ∈ L, p.1.size <= maxLen) : ∀ p ∈ recM L, ∃ q, keyOf Tryz.prog 9 p.1 = some q := fun p hp => by
 unfold recM encG at hp;obtain ⟨t, ht, rfl⟩ := ZmM.1 hp;exact kB_ok (hL t ht)
theorem mt_rec : Tryz.prog.underlying 49 = some (.map 9 3) := by kernel_rfl
theorem mt_knd : Tryz.prog.underlying 83 = some (.map 3 3) := by kernel_rfl
theorem c_recs (c : Ctl) (l : List Src) (hc : CtlOk c) (hl : ∀ s ∈ l, SrcS s) : ACallT Tryz.prog MaxT 11 [.agg c.ds, .sl (l.map Src.ds)] (.tup [recD c l, .v (.int .i64 (recF c l))]) := by
 refine Ycr (n := 86) (ds' := [recD c l, .v (.int .i64 (recF c l))]) Tryz.func11 J (by kernel_rfl) J [4, 5] J J ?_;intro B w0 F0 hT;refine .sr (.sA (.box J J J) ?_);refine .aa (.nil ?_);refine .seq (.sr (.sA (.loadAgg J YbB J J) ?_))
 -- wants the world
 refine .callT J J J hT Yam J (.cons (.rfl' J) .nil) (c_pChk c hc) ?_;refine .aN ?_;refine .sr (.mA ?_);refine .sA (.neq J J J) (.nil ?_);refine .cT J (fun h1 => ?_) fun h1 => ?_
 ·have hrf : recF c l = chkF c := if_pos h1;rw [Yct hrf (by first | decide | assumption), hrf];refine .sr (.ma ?_);refine .aN ?_;refine .ret ?_;refine ⟨RetD.eq J ?_, RetD.eq J ?_, trivial⟩
  all_goals (first | rfl)
 have hc0 : chkF c = 0 := by simpa using h1
 have HC := Yb8 (c := c) hc0;have hlc := HC.lim.1;have hr := HC.ris;refine .skip (.seq (.sr (.mA ?_)));refine .sA (.lenSl J et_26.ht J) ?_;rw [ZlM];refine .sA (.gtr J J J) (.nil ?_);refine .cT J (fun h2 => ?_) fun h2 => ?_
 ·have hrf : recF c l = 2 := (if_neg (by rw [hc0]; decide)).trans (if_pos (by omega));rw [Yct hrf (by first | decide | assumption), hrf];refine .sr (.aa (.nil ?_));refine .ret ?_;refine ⟨RetD.eq J ?_, RetD.eq J ?_, trivial⟩
  all_goals (first | rfl)
 have hre : recF c l = ffst (srcF c l) l.length := (if_neg (by rw [hc0]; decide)).trans (if_neg (by omega));refine .skip (.sr (.makeMap 93 J J J J J ?_));refine .sA (.assignO J J) (.nil ?_);refine .seq (.sr (.fl Ydr YdK ?_));refine .sA (.lenSl J et_22.ht J) ?_;rw [ZlM];refine .mN ?_;refine .block (.loop (G := Nat) (fun k => Env.of [(27, .iv k), (25, .d (.sl (c.things.map Thg.ds))), (26, .iv c.things.length), (7, .own 93), (2, .d (.fp c.ds)), (1, .d (.sl (l.map Src.ds)))]) (fun k => [(93, .map (kndM (c.things.take k)))]) (fun k => k <= c.things.length) (fun k => c.things.length - k) 0 (ZnZ _) (Sub.less ⟨U, U, U, U, U, U, trivial⟩ (Yf9 J)) ?_);intro k hk;refine .sr (.sA (.lss J J J) (.nil ?_));refine .seq (.cT J (fun h3 => ?_) fun h3 => ?_)
 ·have hlt : k < c.things.length := by omega
  refine .skip (.seq (.block (.sr (.sA (.indexAddr J et_22 J J k J (YaU hlt) J) ?_))));refine .sA (.loadAgg J Ybh J J) ?_;refine .alloc 102 J J J J Ycs J J J ?_;refine .st J J J Ycc J (.head _) J J J (ZnB J) (.nil ?_);refine .region (.sA (.moveO J J) ?_);refine .sA (.fieldAddrP J YaW J) (.sA (.loadP J sc_3 J (.head _) J) (.sA (.fieldAddrP J Ya4 J) (.sA (.loadP J sc_3 J (.head _) J) ?_)));refine .eff J J (.mapUpdateX (key := kI c.things[k].id) J J mt_knd YaC J (.tail _ (.head _)) J (DExact.v _) J (Ya3 (hc.things _ (ZgM hlt)).id) (knd_keys fun x hx => hc.things x (List.mem_of_mem_take hx)) (put_knd hr hlt)) (.nil ?_);refine .region (.sA (.add64 J J J) ?_);refine .mN ?_;refine ⟨k + 1, (by omega), (by dsimp only; omega), Sub.less ⟨U, U, U, U, U, U, trivial⟩ (fun p h => by rw [ZmS.1 h]; exact (.tail _ (.head _)))⟩
 obtain rfl : k = c.things.length := by omega
 rw [List.take_length];refine .exit (.sr (.makeMap 94 J J J J J ?_));refine .sA (.assignO J J) (.nil ?_);refine .seq (.sr (.mA ?_));refine .sA (.lenSl J et_26.ht J) ?_;rw [ZlM];refine .mN ?_;refine .block (.loop (G := Nat) (fun i => Env.of [(40, .iv i), (38, .d (.sl (l.map Src.ds))), (39, .iv l.length), (7, .own 93), (10, .own 94), (2, .d (.fp c.ds)), (1, .d (.sl (l.map Src.ds)))]) (fun i => [(94, .map (recM (YcC c l i))), (93, .map (kndM c.things))]) (fun i => i <= l.length /\ ffst (srcF c l) i = 0) (fun i => l.length - i) 0 ⟨ZnZ _, rfl⟩ (Sub.less ⟨U, U, U, U, U, U, U, trivial⟩ (fun p h => by rcases List.mem_cons.1 h with rfl | h; exact (.head _); rw [ZmS.1 h]; exact (.tail _ (.head _)))) ?_);intro i hi;refine .sr (.sA (.lss J J J) (.nil ?_));refine .seq (.cT J (fun h4 => ?_) fun h4 => ?_)
 ·have hlt : i < l.length := by omega
  have hss := hl _ (sAt_mem hlt);refine .skip (.seq (.block (.sr (.mA ?_))));refine .sA (.indexAddr J et_26 J J i J (at_s hlt) J) (.sA (.loadAgg J ag_85 J J) ?_);refine .alloc 104 J J J J zt_85 J J J ?_;refine .aA ?_;refine .st J J J sz_85 J (.head _) J J J (ZnB J) (.nil ?_);refine .seq (.sr (.sA (.fieldAddrP J Ygm J) ?_));refine .sA (.loadP J sc_9 J (.head _) J) (.sA (.call J (.cons (.rfl' J) .nil) (c_pName _ hss.media)) ?_);refine .sA (.not J J) (.nil ?_);refine .cond J (fun h5 => ?_) (fun h5 => ?_)
  ·replace h5 := Yaw h5;have hs1 : srcF c l i = 5 := if_pos h5;have hrf : recF c l = 5 := hre.trans ((Yau hi.2 (by rw [hs1]; first | decide | assumption) _ hlt).trans hs1);rw [Yct hrf (by first | decide | assumption), hrf];refine .sr (.aa (.nil ?_));refine .ret ?_;refine ⟨RetD.eq J ?_, RetD.eq J ?_, trivial⟩
   all_goals (first | rfl)
  replace h5 := Yax h5;have n1 : ¬ Ya9 (sAt l i).media.data.toList = false := by rw [h5]; decide
  refine .skip (.seq (.seq (.drw 13 ?_)));refine .sA (.moveD J J) (.sA (.gtr J J J) (.sA (.moveD J J) ?_));refine .sT 51 J (fun g6 => ?_) fun g6 => ?_
  ·refine .sG (.fieldAddrP J Ygm J) ?_;refine .sG (.loadP J sc_9 J (.head _) J) ?_;refine .sG (.moveD J J) ?_;refine .sG (.moveD J J) ?_;refine .sG (.sub64 J J J) ?_;refine .sG (.indexAddr J et_26 J J (i - 1) (by omega) (at_s (by omega)) J) ?_;refine .sG (.fieldAddr J Ygm J) ?_;refine .sG (.load J sc_9 J) ?_;refine .sG (.sleq J J J) ?_;refine .sA (.pickT J J J) ?_;refine .nil ?_;refine .nil ?_;refine .cond J (fun h7 => ?_) (fun h7 => ?_)
   ·skip;have hs1 : srcF c l i = 8 := (if_neg n1).trans (if_pos ⟨by omega, h7⟩);have hrf : recF c l = 8 := hre.trans ((Yau hi.2 (by rw [hs1]; first | decide | assumption) _ hlt).trans hs1);rw [Yct hrf (by first | decide | assumption), hrf];refine .sr (.aa (.nil ?_));refine .ret ?_;refine ⟨RetD.eq J ?_, RetD.eq J ?_, trivial⟩
    all_goals (first | rfl)
   have n2 : ¬ (0 < i /\ sle (sAt l i).media (sAt l (i - 1)).media = true) := fun hh => by have h5 := hh.2; unfold sle at h5; rw [h7] at h5; cases h5
   refine .skip (.sr (.sA (.loadAgg J YbB J J) ?_));refine .sA (.fieldAddrP J fo_85_1 J) (.sA (.loadP J sc_3 J (.head _) J) ?_)
   -- wants the world
   refine .callT J J J hT Yam J (.cons (.rfl' J) (.cons (.rfl' J) .nil)) (c_pFind c (sAt l i).recd hc hss.recd) ?_;refine .mA ?_;refine .sA (.extract J J J) (.sA (.extract J J J) ?_);refine .aa (.nil ?_);refine .seq (.sr (.mA ?_));refine .sA (.neq J J J) (.nil ?_);refine .cT J (fun h8 => ?_) fun h8 => ?_
   ·have hs1 : srcF c l i = Yc0 c (sAt l i).recd := (if_neg n1).trans ((if_neg n2).trans (if_pos h8));have hrf : recF c l = Yc0 c (sAt l i).recd := hre.trans ((Yau hi.2 (by rw [hs1]; first | decide | assumption) _ hlt).trans hs1);rw [Yct hrf (by first | decide | assumption), hrf];refine .sr (.ma ?_);refine .aN ?_;refine .ret ?_;refine ⟨RetD.eq J ?_, RetD.eq J ?_, trivial⟩
    all_goals (first | rfl)
   have n3 : ¬ Yc0 c (sAt l i).recd ≠ 0 := h8;refine .skip (.seq (.sr (.sA (.moveO J J) ?_)));refine .mA ?_;refine .sA (.lookupX (key := kI (YbA c (sAt l i).recd)) J mt_knd YaC zt_3 (fun _ _ => .v _) J (.tail _ (.tail _ (.head _))) J (DExact.v _) (Ya3 (Ygr hc _)) (knd_keys hc.things) (get_knd hr _)) ?_;refine .sA (.neq J J J) (.nil ?_);refine .cT J (fun h9 => ?_) fun h9 => ?_
   ·have hs1 : srcF c l i = 6 := (if_neg n1).trans ((if_neg n2).trans ((if_neg n3).trans (if_pos h9)));have hrf : recF c l = 6 := hre.trans ((Yau hi.2 (by rw [hs1]; first | decide | assumption) _ hlt).trans hs1);rw [Yct hrf (by first | decide | assumption), hrf];refine .sr (.aa (.nil ?_));refine .ret ?_;refine ⟨RetD.eq J ?_, RetD.eq J ?_, trivial⟩
    all_goals (first | rfl)
   have n4 : ¬ Yge c.things (YbA c (sAt l i).recd) ≠ 2 := h9;refine .skip (.seq (.sr (.sA (.fieldAddrP J fo_85_2 J) ?_)));refine .sA (.loadP J sc_9 J (.head _) J) (.sA (.call J (.cons (.rfl' J) .nil) (c_pName _ hss.thing)) ?_);refine .sA (.not J J) (.nil ?_);refine .cond J (fun h10 => ?_) (fun h10 => ?_)
   ·replace h10 := Yaw h10;have hs1 : srcF c l i = 5 := (if_neg n1).trans ((if_neg n2).trans ((if_neg n3).trans ((if_neg n4).trans (if_pos h10))));have hrf : recF c l = 5 := hre.trans ((Yau hi.2 (by rw [hs1]; first | decide | assumption) _ hlt).trans hs1);rw [Yct hrf (by first | decide | assumption), hrf];refine .sr (.aa (.nil ?_));refine .ret ?_;refine ⟨RetD.eq J ?_, RetD.eq J ?_, trivial⟩
    all_goals (first | rfl)
   replace h10 := Yax h10;have n5 : ¬ Ya9 (sAt l i).thing.data.toList = false := by rw [h10]; decide
   have hs0 : srcF c l i = 0 := (if_neg n1).trans ((if_neg n2).trans ((if_neg n3).trans ((if_neg n4).trans (if_neg n5))));refine .skip (.region (.sA (.moveO J J) ?_));refine .sA (.fieldAddrP J Ygm J) (.sA (.loadP J sc_9 J (.head _) J) ?_);refine .mA ?_;refine .eff rfl rfl (.mapUpdateX (key := kB (sAt l i).media) rfl rfl mt_rec YeN rfl (.tail _ (.head _)) rfl (DExact.v _) rfl (kB_ok (nm_len (by simpa using n1))) (Yel (Yfy (by omega) hi.2)) (YgH kB_inj (Yem c l i) _ _)) (.nil ?_);refine .region (.sA (.add64 J J J) ?_);refine .mN ?_;refine ⟨i + 1, ⟨by omega, YaL hi.2 hs0⟩, (by dsimp only; omega), Sub.less ⟨U, U, U, U, U, U, U, trivial⟩ (fun p h => by dsimp only at h; rw [Ybw hlt] at h; rcases List.mem_cons.1 h with rfl | h; exact (.tail _ (.head _)); rw [ZmS.1 h]; exact (.tail _ (.tail _ (.head _))))⟩
  have n2 : ¬ (0 < i /\ sle (sAt l i).media (sAt l (i - 1)).media = true) := by omega
  refine .pB ?_;refine .pB ?_;refine .pB ?_;refine .pB ?_;refine .pA ?_;refine .sA (.pickF J J J) ?_;refine .nil ?_;refine .nil ?_;refine .cond J (fun h => nomatch h) (fun _ => ?_);refine .skip (.sr (.sA (.loadAgg J YbB J J) ?_));refine .sA (.fieldAddrP J fo_85_1 J) (.sA (.loadP J sc_3 J (.head _) J) ?_)
  -- wants the world
  refine .callT J J J hT Yam J (.cons (.rfl' J) (.cons (.rfl' J) .nil)) (c_pFind c (sAt l i).recd hc hss.recd) ?_;refine .mA ?_;refine .sA (.extract J J J) (.sA (.extract J J J) ?_);refine .aa (.nil ?_);refine .seq (.sr (.mA ?_));refine .sA (.neq J J J) (.nil ?_);refine .cT J (fun h11 => ?_) fun h11 => ?_
  ·have hs1 : srcF c l i = Yc0 c (sAt l i).recd := (if_neg n1).trans ((if_neg n2).trans (if_pos h11));have hrf : recF c l = Yc0 c (sAt l i).recd := hre.trans ((Yau hi.2 (by rw [hs1]; first | decide | assumption) _ hlt).trans hs1);rw [Yct hrf (by first | decide | assumption), hrf];refine .sr (.ma ?_);refine .aN ?_;refine .ret ?_;refine ⟨RetD.eq J ?_, RetD.eq J ?_, trivial⟩
   all_goals (first | rfl)
  have n3 : ¬ Yc0 c (sAt l i).recd ≠ 0 := h11;refine .skip (.seq (.sr (.sA (.moveO J J) ?_)));refine .mA ?_;refine .sA (.lookupX (key := kI (YbA c (sAt l i).recd)) J mt_knd YaC zt_3 (fun _ _ => .v _) J (.tail _ (.tail _ (.head _))) J (DExact.v _) (Ya3 (Ygr hc _)) (knd_keys hc.things) (get_knd hr _)) ?_;refine .sA (.neq J J J) (.nil ?_);refine .cT J (fun h12 => ?_) fun h12 => ?_
  ·have hs1 : srcF c l i = 6 := (if_neg n1).trans ((if_neg n2).trans ((if_neg n3).trans (if_pos h12)));have hrf : recF c l = 6 := hre.trans ((Yau hi.2 (by rw [hs1]; first | decide | assumption) _ hlt).trans hs1);rw [Yct hrf (by first | decide | assumption), hrf];refine .sr (.aa (.nil ?_));refine .ret ?_;refine ⟨RetD.eq J ?_, RetD.eq J ?_, trivial⟩
   all_goals (first | rfl)
  have n4 : ¬ Yge c.things (YbA c (sAt l i).recd) ≠ 2 := h12;refine .skip (.seq (.sr (.sA (.fieldAddrP J fo_85_2 J) ?_)));refine .sA (.loadP J sc_9 J (.head _) J) (.sA (.call J (.cons (.rfl' J) .nil) (c_pName _ hss.thing)) ?_);refine .sA (.not J J) (.nil ?_);refine .cond J (fun h13 => ?_) (fun h13 => ?_)
  ·replace h13 := Yaw h13;have hs1 : srcF c l i = 5 := (if_neg n1).trans ((if_neg n2).trans ((if_neg n3).trans ((if_neg n4).trans (if_pos h13))));have hrf : recF c l = 5 := hre.trans ((Yau hi.2 (by rw [hs1]; first | decide | assumption) _ hlt).trans hs1);rw [Yct hrf (by first | decide | assumption), hrf];refine .sr (.aa (.nil ?_));refine .ret ?_;refine ⟨RetD.eq J ?_, RetD.eq J ?_, trivial⟩
   all_goals (first | rfl)
  replace h13 := Yax h13;have n5 : ¬ Ya9 (sAt l i).thing.data.toList = false := by rw [h13]; decide
  have hs0 : srcF c l i = 0 := (if_neg n1).trans ((if_neg n2).trans ((if_neg n3).trans ((if_neg n4).trans (if_neg n5))));refine .skip (.region (.sA (.moveO J J) ?_));refine .sA (.fieldAddrP J Ygm J) (.sA (.loadP J sc_9 J (.head _) J) ?_);refine .mA ?_;refine .eff rfl rfl (.mapUpdateX (key := kB (sAt l i).media) rfl rfl mt_rec YeN rfl (.tail _ (.head _)) rfl (DExact.v _) rfl (kB_ok (nm_len (by simpa using n1))) (Yel (Yfy (by omega) hi.2)) (YgH kB_inj (Yem c l i) _ _)) (.nil ?_);refine .region (.sA (.add64 J J J) ?_);refine .mN ?_;refine ⟨i + 1, ⟨by omega, YaL hi.2 hs0⟩, (by dsimp only; omega), Sub.less ⟨U, U, U, U, U, U, U, trivial⟩ (fun p h => by dsimp only at h; rw [Ybw hlt] at h; rcases List.mem_cons.1 h with rfl | h; exact (.tail _ (.head _)); rw [ZmS.1 h]; exact (.tail _ (.tail _ (.head _))))⟩
 obtain rfl : i = l.length := by omega
 have hr0 : recF c l = 0 := hre.trans hi.2;rw [show recD c l = .fm (recM (recL c l)) from if_pos hr0, hr0, show YcC c l l.length = recL c l by unfold YcC; rw [List.take_length]];refine .exit (.seq (.freezeMap 10 J (.head _) ?_));refine .region (.ma ?_);refine .aN ?_;refine .ret ?_;refine ⟨RetD.eq J ?_, RetD.eq J ?_, trivial⟩
 all_goals (first | rfl)
end Go.Proofs.YtohllekllkcfiaaGreatDoor
