/- Walks and laws over abstract values, merged by tools/merge.py. No statement of the seat. -/
import Derived.Laws.MathBits
import Derived.WalkKit
import Derived.Ground.NamesProg
import Derived.Shelf.Bits.Mul64
import Derived.Shelf.Small.Bits
import Derived.Test.YtohllekllkcfiaaGreatDoorProg
import Derived.Test.YtohllekllkcfiaaGreatDoorZH4
set_option linter.unusedSimpArgs false
set_option linter.unusedVariables false
set_option maxHeartbeats 4000000
set_option maxRecDepth 100000
open List renaming length_map -> ZlM, getElem?_eq_getElem -> ZgE, getElem_mem -> ZgM, length_take -> ZlT, getElem_map -> ZgP, map_append -> ZmA, mem_singleton -> ZmS, mem_map -> ZmM
open Nat renaming le_of_ble_eq_true -> ZnB, zero_le -> ZnZ, le_refl -> ZnR, le_trans -> ZnT
open Bool renaming and_eq_true -> ZbA
namespace Go.Proofs.YtohllekllkcfiaaGreatDoor
section
open Go.RowKit
namespace Ty
theorem fv_72_5 : fieldB Tryz.prog 72 5 5 = true := by kernel_rfl
theorem mt_69 : Tryz.prog.underlying 69 = some (.map 3 72) := by kernel_rfl
end Ty
open Ty
theorem upN_ok {l : List Thg} (h : ∀ x ∈ l, ThgOk x) {a : Int} (ha : i64 a) : ∀ k, i64 (upN l a k)
 | 0 => ha
 | k + 1 => (Ygj h (upN l a k)).parent
theorem SLe.i64 {n m : Int} (h : n = m) : SLe (.d (.v (.int .i64 n))) (.d (.v (.int .i64 m))) := SLe.of_eq (by rw [h])
theorem lk_p {l : List Thg} {i : Nat} {n : Int} (hi : i < l.length) (h : Ybz l l[i] = n) (hn : n ≠ 0) : lkF l i = n := by unfold lkF; rw [dif_pos hi, if_pos (by rw [h]; exact hn), h]
theorem lk_7 {l : List Thg} {i : Nat} (hi : i < l.length) (h : Ybz l l[i] = 0) (hc : ¬ l[i].code = ⟨#[]⟩) (ht : twB l i l[i] = true) : lkF l i = 7 := by unfold lkF; rw [dif_pos hi, if_neg (by rw [h]; decide), if_pos ⟨hc, ht⟩]
theorem lk_0 {l : List Thg} {i : Nat} (hi : i < l.length) (h : Ybz l l[i] = 0) (ht : ¬ (¬ l[i].code = ⟨#[]⟩ /\ twB l i l[i] = true)) : lkF l i = 0 := by unfold lkF; rw [dif_pos hi, if_neg (by rw [h]; decide), if_neg ht]
theorem c_pLink (l : List Thg) (t : Thg) (hl : ∀ x ∈ l, ThgOk x) (hn : RisT l) (ht : ThgOk t) (hll : l.length <= 300) (hp : t.parts.length <= 50) : Yad Tryz.prog 45 [.fm (idxM l), .agg t.ds] (.v (.int .i64 (Ybz l t))) := by
 refine Yab (n := 66) (ds' := [.v (.int .i64 (Ybz l t))]) Tryz.func45 J (by kernel_rfl) J [4] J J ?_;intro B w0 F0 fr;refine .sr (.sA (.box J J J) ?_);refine .aN ?_;refine .seqJ (parF l t = 0) (Env.of [(0, .d (.fm (idxM l))), (3, .d (.fp t.ds))]) [] ?_ (fun hP0 => ?_)
 ·skip;refine .sr (.fl Ya0 sc_3 ?_);refine .sA (.neq J J J) (.nil ?_);refine .cT J (fun h1 => ?_) fun h1 => ?_
  ·have hpn : ¬ t.parent = 0 := h1;refine .sr (.mA ?_);refine .fl Ya0 sc_3 ?_;refine .sA (.lookupOkF (key := kI t.parent) J Yer YaC YeZ Ye0 J J (DExact.v _) (Ya3 ht.parent) (Ybp hl) _ (Yb3 hn.nk _)) ?_;refine .mA ?_;refine .sA (.extract J J J) (.sA (.extract J J J) ?_);refine .alloc 101 J J J J Ycs J J J ?_;refine .st J J J Ycc J (.head _) J J J (ZnB J) ?_;refine .freezeCells 5 (ds := (getT l t.parent).ds) J (.head _) ?_;refine .aN ?_;refine .sr (.aN ?_);refine .seq (.sr (.fl Ya4 sc_3 ?_));refine .sA (.eql J J J) (.nil ?_);refine .cT J (fun h2 => ?_) fun h2 => ?_
   ·have hw : wantK t = 3 := if_pos h2;refine .region (.aN ?_);refine .seq (.sr (.mA ?_));refine .sA (.not J J) (.nil ?_);refine .cond J (fun h3 => ?_) (fun h3 => ?_)
    ·replace h3 := Yaw h3;have HR : Ybz l t = 9 := link_p (par_9 hpn h3) (by decide);refine .sr (.aN ?_);refine .ret (rDq J ?_)
     all_goals (rw [HR])
    replace h3 := Yax h3;have hth := h3;refine .skip (.sr (.fl Ya4 sc_3 ?_));refine .mA ?_;refine .sA (.neq J J J) (.nil ?_);refine .cT J (fun h4 => ?_) fun h4 => ?_
    ·have HR : Ybz l t = 6 := link_p (par_6 hpn hth (by rw [hw]; exact h4)) (by decide);refine .sr (.aN ?_);refine .ret (rDq J ?_)
     all_goals (rw [HR])
    have hP0 := par_ok hpn hth (by rw [hw]; omega);refine .skip ?_;refine ⟨?_, Sub.less ⟨U, U, trivial⟩ (fun _ h => h)⟩;exact hP0
   have hw : wantK t = 1 := if_neg h2;refine .skip (.seq (.sr (.mA ?_)));refine .sA (.not J J) (.nil ?_);refine .cond J (fun h5 => ?_) (fun h5 => ?_)
   ·replace h5 := Yaw h5;have HR : Ybz l t = 9 := link_p (par_9 hpn h5) (by decide);refine .sr (.aN ?_);refine .ret (rDq J ?_)
    all_goals (rw [HR])
   replace h5 := Yax h5;have hth := h5;refine .skip (.sr (.fl Ya4 sc_3 ?_));refine .mA ?_;refine .sA (.neq J J J) (.nil ?_);refine .cT J (fun h6 => ?_) fun h6 => ?_
   ·have HR : Ybz l t = 6 := link_p (par_6 hpn hth (by rw [hw]; exact h6)) (by decide);refine .sr (.aN ?_);refine .ret (rDq J ?_)
    all_goals (rw [HR])
   have hP0 := par_ok hpn hth (by rw [hw]; omega);refine .skip ?_;refine ⟨?_, Sub.less ⟨U, U, trivial⟩ (fun _ h => h)⟩;exact hP0
  have hP0 : parF l t = 0 := par_0 (by omega);refine .skip ?_;refine ⟨?_, Sub.less ⟨U, U, trivial⟩ (fun _ h => h)⟩;exact hP0
 refine .seq (.sr (.fl Ya8 Ybt ?_));refine .sA (.lenSl J et_34.ht J) ?_;refine .mN ?_;refine .block (.loop (G := Nat) (fun k => Env.of [(35, .iv k), (33, .d (.sl (t.parts.map intD))), (34, .iv (t.parts.map intD).length), (0, .d (.fm (idxM l))), (3, .d (.fp t.ds))]) (fun k => []) (fun k => k <= t.parts.length /\ ffst (ptF l t) k = 0) (fun k => t.parts.length - k) 0 ⟨ZnZ _, J⟩ (Sub.less ⟨U, U, U, U, U, trivial⟩ (fun _ h => h)) ?_);intro k hk;refine .sr (.sA (.lss J J J) (.nil ?_));refine .seq (.cT J (fun h7 => ?_) fun h7 => ?_)
 ·rw [ZlM] at h7;have hlt : k < t.parts.length := by omega
  have hbk := ht.parts _ (ZgM hlt);refine .skip (.seq (.block (.sr (.sA (.indexAddr J et_34 J J k J (YaU hlt) J) ?_))));refine .sA (.load J sc_3 J) ?_;refine .aN ?_;refine .sr (.mm ?_);refine .sA (.lookupOkF (key := kI t.parts[k]) J Yer YaC YeZ Ye0 J J (DExact.v _) (Ya3 hbk) (Ybp hl) _ (Yb3 hn.nk _)) ?_;refine .mA ?_;refine .sA (.extract J J J) (.sA (.extract J J J) ?_);refine .alloc 102 J J J J Ycs J J J ?_;refine .st J J J Ycc J (.head _) J J J (ZnB J) ?_;refine .freezeCells 10 (ds := (getT l t.parts[k]).ds) J (.head _) ?_;refine .aN ?_;refine .seq (.sr (.mA ?_));refine .sA (.not J J) (.nil ?_);refine .cond J (fun h8 => ?_) (fun h8 => ?_)
  ·replace h8 := Yaw h8;have HR : Ybz l t = 9 := link_q hP0 hlt hk.2 (pt_9 hlt h8) (by decide);refine .sr (.aN ?_);refine .ret (rDq J ?_)
   all_goals (rw [HR])
  replace h8 := Yax h8;have hth2 := h8;refine .skip (.sr (.fl Ya4 sc_3 ?_));refine .sA (.neq J J J) (.nil ?_);refine .cT J (fun h9 => ?_) fun h9 => ?_
  ·have HR : Ybz l t = 6 := link_q hP0 hlt hk.2 (pt_6 hlt hth2 h9) (by decide);refine .sr (.aN ?_);refine .ret (rDq J ?_)
   all_goals (rw [HR])
  have hPK := pt_ok hlt hth2 (by omega);refine .skip (.region (.sA (.add64 J J J) ?_));refine .mN ?_;refine ⟨k + 1, ⟨by omega, YaL hk.2 hPK⟩, (by dsimp only; omega), Sub.less ⟨U, U, U, U, U, trivial⟩ (fun _ h => h)⟩
 rw [ZlM] at h7;obtain rfl : k = t.parts.length := by omega
 have HL := link_l hP0 hk.2;refine .exit (.sr (.sA (.fieldAddr J Ya0 J) ?_));refine .sA (.load J sc_3 J) ?_;refine .aN ?_;refine .seq (.sr (.mA ?_));refine .sA (.lenF J mt_69 J) ?_;rw [idx_len];refine .mN ?_;refine .block (.loop (G := Nat) (fun j => Env.of [(55, .iv j), (54, .iv l.length), (12, .iv (upN l t.parent j)), (0, .d (.fm (idxM l))), (3, .d (.fp t.ds))]) (fun j => []) (fun j => j <= l.length /\ ∀ i, i < j -> upN l t.parent i ≠ t.id) (fun j => l.length - j) 0 ⟨ZnZ _, fun i hi => by omega⟩ (Sub.less ⟨U, U, U, U, U, trivial⟩ (fun _ h => h)) ?_);intro j hj;refine .sr (.sA (.lss J J J) (.nil ?_));refine .seq (.cT J (fun h10 => ?_) fun h10 => ?_)
 ·have hlt2 : j < l.length := by omega
  refine .skip (.seq (.block (.seq (.sr (.mA ?_)))));refine .fl YaW sc_3 ?_;refine .sA (.eql J J J) (.nil ?_);refine .cT J (fun h11 => ?_) fun h11 => ?_
  ·have HR : Ybz l t = 14 := by rw [HL, if_pos (loop_yes hlt2 h11)]
   refine .sr (.aN ?_);refine .ret (rDq J ?_)
   all_goals (rw [HR])
  have HN := up_next hj.2 h11;refine .skip (.region (.mm ?_));refine .sA (.lookupF (key := kI (upN l t.parent j)) J Yer YaC YeZ Ye0 J J (DExact.v _) (Ya3 (upN_ok hl ht.parent j)) (Ybp hl) (get_idx hn.nk _)) (.sA (.field J fv_72_5 J J) ?_);refine .aN ?_;refine .region (.sA (.add64 J J J) ?_);refine .mN ?_;refine ⟨j + 1, ⟨by omega, HN⟩, (by dsimp only; omega), Sub.less ⟨U, U, U, U, U, trivial⟩ (fun _ h => h)⟩
 have HR : Ybz l t = 0 := by rw [HL, if_neg (by rw [loop_no (fun i hi => hj.2 i (by omega))]; decide)]
 refine .exit (.sr (.aN ?_));refine .ret (rDq J ?_)
 all_goals (rw [HR])
namespace Ty
theorem mt_83 : Tryz.prog.underlying 83 = some (.map 3 3) := by kernel_rfl
end Ty
def idN (L : List (Int × Int)) (id : Int) : Nat -> Int
 | 0 => id
 | k + 1 => (Yaa L (idN L id k)).getD 0
def ledP (l : List Thg) (L : List (Int × Int)) : Nat -> Int -> Option Int
 | 0, _ => none
 | n + 1, id => if Yae l id = true then some id else ledP l L n ((Yaa L id).getD 0)
theorem Ydp (L : List (Int × Int)) (id : Int) : ∀ k, idN L ((Yaa L id).getD 0) k = idN L id (k + 1)
 | 0 => rfl
 | k + 1 => by show (Yaa L (idN L _ k)).getD 0 = _; rw [Ydp L id k]; rfl
theorem ledP_hit {l : List Thg} {L : List (Int × Int)} : ∀ {n k : Nat} {id : Int}, k < n -> (∀ j, j < k -> Yae l (idN L id j) = false) -> Yae l (idN L id k) = true -> ledP l L n id = some (idN L id k)
 | 0, _, _, h, _, _ => by omega
 | n + 1, 0, id, _, _, h => if_pos h
 | n + 1, k + 1, id, hk, h, h2 => by
  have h0 := h 0 (by omega);show (if Yae l id = true then _ else _) = _
  rw [if_neg (by rw [show Yae l id = false from h0]; decide)];rw [ledP_hit (k := k) (by omega) (fun j hj => by rw [Ydp]; exact h (j + 1) (by omega)) (by rw [Ydp]; exact h2), Ydp]
theorem ledP_no {l : List Thg} {L : List (Int × Int)} : ∀ {n : Nat} {id : Int}, (∀ j, j < n -> Yae l (idN L id j) = false) -> ledP l L n id = none
 | 0, _, _ => rfl
 | n + 1, id, h => by
  have h0 := h 0 (by omega);show (if Yae l id = true then _ else _) = _
  rw [if_neg (by rw [show Yae l id = false from h0]; decide)];exact ledP_no fun j hj => by rw [Ydp]; exact h (j + 1) (by omega)
theorem ledP_zero {l : List Thg} {L : List (Int × Int)} (h0 : Yae l 0 = false) (hm : Yaa L 0 = none) : ∀ n, ledP l L n 0 = none
 | 0 => rfl
 | n + 1 => by
  show (if Yae l 0 = true then _ else _) = _
  rw [if_neg (by rw [h0]; decide), hm];exact ledP_zero h0 hm n
theorem ledP_same {c : Ctl} (h0 : Yae c.things 0 = false) (hm : hasM c.moved 0 = false) : ∀ n id, ledP c.things (mvL c.moved) n id = led c n id
 | 0, _ => rfl
 | n + 1, id => by
  have hm' : Yaa (mvL c.moved) 0 = none := by unfold hasM at hm; cases hq : Yaa (mvL c.moved) 0 with
   | none => rfl
   | some _ => rw [hq] at hm; cases hm
  show (if Yae c.things id = true then some id else ledP c.things (mvL c.moved) n ((Yaa (mvL c.moved) id).getD 0)) = (if Yae c.things id = true then _ else if hasM c.moved id = true then _ else _)
  by_cases h1 : Yae c.things id = true
  ·rw [if_pos h1, if_pos h1]
  ·rw [if_neg h1, if_neg h1]
   by_cases h2 : hasM c.moved id = true
   ·rw [if_pos h2]; exact ledP_same h0 hm n _
   ·rw [if_neg h2];unfold hasM at h2
    cases hq : Yaa (mvL c.moved) id with
    | some _ => rw [hq] at h2; exact absurd rfl h2
    | none => exact ledP_zero h0 hm' n
def toL (m : List Mvd) : List (Int × Int) := m.foldl (fun L x => putG L x.src x.dst) []
theorem toL_next {m : List Mvd} {k : Nat} (hk : k < m.length) : toL (m.take (k + 1)) = putG (toL (m.take k)) m[k].src m[k].dst := by
 unfold toL;rw [List.take_add_one, ZgE hk, Option.toList_some, List.foldl_append]; rfl
theorem foldl_nk : ∀ (m : List Mvd) (L : List (Int × Int)), NkG L -> NkG (m.foldl (fun L x => putG L x.src x.dst) L)
 | [], _, h => h
 | x :: m, L, h => foldl_nk m _ (Ydj h _ _)
theorem toL_nk (m : List Mvd) : NkG (toL m) := foldl_nk m [] (by unfold NkG; exact List.Pairwise.nil)
theorem foldl_mem (P : Int × Int -> Prop) : ∀ (m : List Mvd) (L : List (Int × Int)), (∀ x ∈ m, P (x.src, x.dst)) -> (∀ p ∈ L, P p) -> ∀ p ∈ m.foldl (fun L x => putG L x.src x.dst) L, P p
 | [], _, _, h => h
 | x :: m, L, h, h2 => foldl_mem P m _ (fun y hy => h y (List.mem_cons_of_mem _ hy)) fun p hp => by
  unfold putG at hp;dsimp only at hp
  by_cases hh : hasG L x.src = true
  ·rw [if_pos hh] at hp;obtain ⟨q, hq, rfl⟩ := ZmM.1 hp
   by_cases h3 : q.1 = x.src
   ·rw [if_pos h3]; exact h x List.mem_cons_self
   ·rw [if_neg h3]; exact h2 q hq
  ·rw [if_neg hh, List.mem_append, ZmS] at hp
   rcases hp with hp | hp
   ·exact h2 p hp
   ·rw [hp]; exact h x List.mem_cons_self
theorem toL_ok {m : List Mvd} (h : ∀ x ∈ m, i64 x.src /\ i64 x.dst) : ∀ p ∈ toL m, i64 p.1 /\ i64 p.2 := foldl_mem (fun p => i64 p.1 /\ i64 p.2) m [] h fun p hp => by cases hp
theorem foldl_has : ∀ (m : List Mvd) (L : List (Int × Int)) (id : Int), hasG (m.foldl (fun L x => putG L x.src x.dst) L) id = (hasG L id || m.any fun x => decide (x.src = id))
 | [], L, id => by simp
 | x :: m, L, id => by
  rw [List.foldl_cons, foldl_has m _ id]
  have h1 : hasG (putG L x.src x.dst) id = (hasG L id || decide (x.src = id)) := by
   have e1 : hasG (putG L x.src x.dst) id = (Yaa (putG L x.src x.dst) id).isSome := by
    cases hq : Yaa (putG L x.src x.dst) id with
    | none => exact findG_none.1 hq
    | some v => cases hh : hasG (putG L x.src x.dst) id with
     | true => rfl
     | false => rw [findG_none.2 hh] at hq; cases hq
   have e2 : hasG L id = (Yaa L id).isSome := by
    cases hq : Yaa L id with
    | none => exact findG_none.1 hq
    | some v => cases hh : hasG L id with
     | true => rfl
     | false => rw [findG_none.2 hh] at hq; cases hq
   rw [e1, e2, Ybg]
   by_cases h : id = x.src
   ·simp [h]
   ·have : ¬ x.src = id := fun e => h e.symm
    simp [h, this]
  rw [h1];simp [Bool.or_assoc]
theorem isSome_has {κ β : Type} [DecidableEq κ] (L : List (κ × β)) (k : κ) : (Yaa L k).isSome = hasG L k := by
 cases hq : Yaa L k with
 | none => exact (findG_none.1 hq).symm
 | some v => cases hh : hasG L k with
  | true => rfl
  | false => rw [findG_none.2 hh] at hq; cases hq
theorem toL_has (m : List Mvd) (id : Int) : (Yaa (toL m) id).isSome = hasM m id := by
 rw [isSome_has];unfold toL;rw [foldl_has];unfold hasM;rw [isSome_has];simp [hasG, mvL];rfl
structure RisM (m : List Mvd) : Prop where
 rng : ∀ x ∈ m, 1 <= x.src /\ x.src <= 1000000
 up : ∀ i j (hi : i < m.length) (hj : j < m.length), i < j -> m[i].src < m[j].src
theorem mvF_0 {c : Ctl} {k : Nat} (hk : k < c.moved.length) (h : mvF c k = 0) : (1 <= c.moved[k].src /\ c.moved[k].src <= 1000000) /\ (∀ h0 : 0 < k, (c.moved[k-1]'(by omega)).src < c.moved[k].src) := by
 unfold mvF at h;rw [dif_pos hk] at h
 by_cases h1 : c.moved[k].src < 1 \/ 1000000 < c.moved[k].src
 ·rw [if_pos h1] at h; omega
 ·rw [if_neg h1] at h
  by_cases h2 : 0 < k /\ c.moved[k].src <= (c.moved[k-1]'(by omega)).src
  ·rw [if_pos h2] at h; omega
  ·exact ⟨by omega, fun h0 => by
    have h3 : ¬ c.moved[k].src <= (c.moved[k-1]'(by omega)).src := fun h3 => h2 ⟨h0, h3⟩
    omega⟩
theorem risM_of {c : Ctl} (h : ffst (mvF c) c.moved.length = 0) : RisM c.moved := by
 have h0 := fun k (hk : k < c.moved.length) => mvF_0 hk (Ya5 _ h k hk)
 refine ⟨fun t ht => ?_, ?_⟩
 ·obtain ⟨k, hk, rfl⟩ := List.mem_iff_getElem.1 ht;exact (h0 k hk).1
 ·intro i j hi hj hij
  induction j with
  | zero => omega
  | succ j ih =>
   have h1 := (h0 (j + 1) hj).2 (by omega);simp only [Nat.add_sub_cancel] at h1
   by_cases he : i = j
   ·subst he; exact h1
   ·have := ih (by omega) (by omega); omega
theorem toL_take {m : List Mvd} (h : RisM m) : ∀ k, k <= m.length -> toL (m.take k) = mvL (m.take k)
 | 0, _ => by simp [toL, mvL]
 | k + 1, hk => by
  have hk' : k < m.length := by omega
  rw [toL_next hk', toL_take h k (by omega)]
  have hno : ¬ hasG (mvL (m.take k)) m[k].src = true := fun hh => by
   obtain ⟨p, hp, he⟩ := hasG_iff.1 hh;unfold mvL at hp;obtain ⟨t, ht, rfl⟩ := ZmM.1 hp;obtain ⟨j, hj, rfl⟩ := List.mem_iff_getElem.1 ht;rw [ZlT] at hj;rw [List.getElem_take] at he;have := h.up j k (by omega) hk' (by omega);dsimp only at he;omega
  unfold putG;rw [if_neg hno];unfold mvL;rw [List.take_add_one, ZgE hk', Option.toList_some, ZmA];rfl
theorem YeD {m : List Mvd} (h : RisM m) : toL m = mvL m := by
 have := toL_take h m.length (ZnR _);rwa [List.take_length] at this
theorem RisM.zero {m : List Mvd} (h : RisM m) : hasM m 0 = false := by
 unfold hasM;rw [findM_none.2 fun x hx => by have := h.rng x hx; omega];rfl
theorem mvL_len (m : List Mvd) : (mvL m).length = m.length := ZlM ..
theorem idN_ok {L : List (Int × Int)} (h : ∀ p ∈ L, i64 p.1 /\ i64 p.2) {id : Int} (hi : i64 id) : ∀ k, i64 (idN L id k)
 | 0 => hi
 | k + 1 => by
  show i64 ((Yaa L (idN L id k)).getD 0)
  unfold Yaa
  cases hq : L.find? fun p => decide (p.1 = idN L id k) with
  | none => exact i64_0
  | some p => exact (h p (List.mem_of_find?_eq_some hq)).2
theorem get_to {L : List (Int × Int)} (h : NkG L) (id : Int) : MGet (toM L) (kI id) (.v (.int .i64 0)) (.v (.int .i64 ((Yaa L id).getD 0))) :=
 mgetG (kv := kI) (dv := dI) Yb2 h id _ _ (by cases Yaa L id <;> rfl)
theorem getok_to {L : List (Int × Int)} (h : NkG L) (id : Int) : YgD (toM L) (kI id) (.v (.int .i64 0)) (.v (.int .i64 ((Yaa L id).getD 0))) (Yaa L id).isSome :=
 mgetokG (kv := kI) (dv := dI) Yb2 h id _ _ (by cases Yaa L id <;> rfl)
theorem put_to {m : List Mvd} {k : Nat} (hk : k < m.length) : MPut (toM (toL (m.take k))) (kI m[k].src) (.v (.int .i64 m[k].dst)) (toM (toL (m.take (k + 1)))) := by
 rw [toL_next hk];exact YgH (kv := kI) (dv := dI) Yb2 (toL_nk _) m[k].src m[k].dst
theorem to_len (L : List (Int × Int)) : (toM L).length = L.length := by simp [toM, encG]
theorem th_next {l : List Thg} {L : List (Int × Int)} {id : Int} {k : Nat} (h : ∀ j, j < k -> Yae l (idN L id j) = false) (h2 : Yae l (idN L id k) = false) : ∀ j, j < k + 1 -> Yae l (idN L id j) = false := fun j hj => by
 by_cases he : j = k
 ·subst he; exact h2
 ·exact h j (by omega)
theorem Ybu {c : Ctl} {k : Nat} {n : Int} (hk : k < c.moved.length) (hf : ffst (mvF c) k = 0) (h2 : mvF c k = n) (hn : n ≠ 0) : mvdF c = n := by
 have h3 := Yau hf (by rw [h2]; exact hn) _ hk;unfold mvdF;rw [h3, h2, if_pos hn]
theorem mvd_b {c : Ctl} (hf : ffst (mvF c) c.moved.length = 0) : mvdF c = ffst (lpF c) c.moved.length := if_neg (by rw [hf]; exact fun h => h rfl)
theorem lp_14 {c : Ctl} {k : Nat} (hk : k < c.moved.length) (h : (ledC c c.moved[k].src).isSome = false) : lpF c k = 14 := by unfold lpF; rw [dif_pos hk, if_pos h]
theorem lp_0 {c : Ctl} {k : Nat} (hk : k < c.moved.length) (h : (ledC c c.moved[k].src).isSome = true) : lpF c k = 0 := by unfold lpF; rw [dif_pos hk, if_neg (by rw [h]; decide)]
theorem mvd_c {c : Ctl} {k : Nat} (hf : ffst (mvF c) c.moved.length = 0) (hk : k < c.moved.length) (h : ffst (lpF c) k = 0) (h2 : (ledC c c.moved[k].src).isSome = false) : mvdF c = 14 := by
 rw [mvd_b hf, Yau h (by rw [lp_14 hk h2]; decide) _ hk, lp_14 hk h2]
theorem c_found (l : List Thg) (L : List (Int × Int)) (id : Int) (hl : ∀ x ∈ l, ThgOk x) (hn : RisT l) (hL : ∀ p ∈ L, i64 p.1 /\ i64 p.2) (hk0 : NkG L) (hi : i64 id) (hll : L.length <= 300) : Yad Tryz.prog 70 [.fm (idxM l), .fm (toM L), .v (.int .i64 id)] (.tup [.v (.int .i64 ((ledP l L (L.length + 1) id).getD 0)), .v (.bool (ledP l L (L.length + 1) id).isSome)]) := by
 refine Yab (n := 27) (ds' := [.v (.int .i64 ((ledP l L (L.length + 1) id).getD 0)), .v (.bool (ledP l L (L.length + 1) id).isSome)]) Tryz.func70 J (by kernel_rfl) J [6, 7] J J ?_;intro B w0 F0 fr;refine .sr (.aa (.nil ?_));refine .seq (.sr (.mA ?_));refine .sA (.lenF J mt_83 J) ?_;rw [to_len];refine .sA (.add64 J J J) ?_;refine .mN ?_;refine .block (.loop (G := Nat) (fun k => Env.of [(13, .iv k), (12, .iv ((L.length : Int) + 1)), (2, .iv (idN L id k)), (0, .d (.fm (idxM l))), (1, .d (.fm (toM L)))]) (fun k => []) (fun k => k <= L.length + 1 /\ ∀ j, j < k -> Yae l (idN L id j) = false) (fun k => L.length + 1 - k) 0 ⟨ZnZ _, fun j hj => by omega⟩ (Sub.less ⟨U, U, U, U, U, trivial⟩ (fun _ h => h)) ?_);intro k hk;refine .sr (.sA (.lss J J J) (.nil ?_));refine .seq (.cT J (fun h1 => ?_) fun h1 => ?_)
 ·have hlt : k < L.length + 1 := by omega
  refine .skip (.seq (.block (.seq (.sr (.mm ?_)))));refine .sA (.lookupOkF (key := kI (idN L id k)) J Yer YaC YeZ Ye0 J J (DExact.v _) (Ya3 (idN_ok hL hi k)) (Ybp hl) _ (Yb3 hn.nk _)) ?_;refine .mA ?_;refine .sA (.extract J J J) (.sA (.extract J J J) ?_);refine .alloc 101 J J J J Ycs J J J ?_;refine .st J J J Ycc J (.head _) J J J (ZnB J) ?_;refine .freezeCells 8 (ds := (getT l (idN L id k)).ds) J (.head _) ?_;refine .aN ?_;refine .sr (.mN ?_);refine .cond J (fun h2 => ?_) (fun h2 => ?_)
  ·skip;rw [ledP_hit hlt hk.2 h2];refine .sr (.ma ?_);refine .aN ?_;refine .ret ?_;refine ⟨RetD.eq J ?_, RetD.eq J ?_, trivial⟩
   all_goals (rfl)
  have HN := th_next hk.2 h2;refine .skip (.region (.mm ?_));refine .sA (.lookupF (key := kI (idN L id k)) J mt_to YaC zt_int zd_int J J (DExact.v _) (Ya3 (idN_ok hL hi k)) (Yfu fun p hp => (hL p hp).1) (get_to hk0 _)) ?_;refine .aN ?_;refine .region (.sA (.add64 J J J) ?_);refine .mN ?_;refine ⟨k + 1, ⟨by omega, HN⟩, (by dsimp only; omega), Sub.less ⟨U, U, U, U, U, trivial⟩ (fun _ h => h)⟩
 rw [ledP_no (fun j hj => hk.2 j (by omega))];refine .exit (.sr (.aA ?_));refine .aN ?_;refine .ret ?_;refine ⟨RetD.eq J ?_, RetD.eq J ?_, trivial⟩
 all_goals (rfl)
namespace Ty
theorem ag_74 : AggT Tryz.prog 74 2 := .of (by kernel_rfl)
theorem et_23 : ElemTy Tryz.prog 23 74 2 16 (.agg #[(.int .i64 0), (.int .i64 0)]) := ⟨by kernel_rfl, by kernel_rfl, by kernel_rfl, by decide⟩
theorem Yd7 : Yac Tryz.prog 25 1 = some 1 := by kernel_rfl
theorem Yb4 : Yac Tryz.prog 74 0 = some 0 := by kernel_rfl
theorem Ygn : Yac Tryz.prog 74 1 = some 1 := by kernel_rfl
theorem Yei : Scal Tryz.prog 23 := .of (by kernel_rfl)
theorem sz_74 : ∀ w, (sizeOf 74).run Tryz.prog w = .ok 2 w := SizeT.of (by kernel_rfl)
theorem zt_74 : (Tryz.prog.info? 74).bind (·.zero) = some (.agg #[(.int .i64 0), (.int .i64 0)]) := by kernel_rfl
end Ty
theorem Ygb {c : Ctl} (hr : RisT c.things) (hm : RisM c.moved) (n : Nat) (id : Int) : ledP c.things (mvL c.moved) n id = led c n id := ledP_same hr.zero hm.zero n id
theorem Ygc (c : Ctl) (id : Int) : led c ((mvL c.moved).length + 1) id = ledC c id := by rw [mvL_len]; rfl
theorem c_pMvd (c : Ctl) (hl : Lim c) (hc : CtlOk c) (hr : RisT c.things) : Yad Tryz.prog 46 [.agg c.ds, .fm (idxM c.things)] (.v (.int .i64 (mvdF c))) := by
 refine Yab (n := 111) (ds' := [.v (.int .i64 (mvdF c))]) Tryz.func46 J (by kernel_rfl) J [4] J J ?_;intro B w0 F0 fr;have hl2 := hl.2;refine .sr (.sA (.box J J J) ?_);refine .aN ?_;refine .sr (.makeMap 91 J J J J J ?_);refine .sA (.assignO J J) (.nil ?_);refine .seq (.sr (.fl Yd7 Yei ?_));refine .sA (.lenSl J et_23.ht J) ?_;refine .mN ?_;refine .block (.loop (G := Nat) (fun k => Env.of [(24, .iv k), (22, .d (.sl (c.moved.map Mvd.ds))), (23, .iv (c.moved.map Mvd.ds).length), (5, .own 91), (2, .d (.fp c.ds)), (1, .d (.fm (idxM c.things)))]) (fun k => [(91, .map (toM (toL (c.moved.take k))))]) (fun k => k <= c.moved.length) (fun k => c.moved.length - k) 0 (ZnZ _) (Sub.less ⟨U, U, U, U, U, U, trivial⟩ (Yf9 J)) ?_);intro k hk;refine .sr (.sA (.lss J J J) (.nil ?_));refine .seq (.cT J (fun h1 => ?_) fun h1 => ?_)
 ·rw [ZlM] at h1;have hlt : k < c.moved.length := by omega
  have hbk := hc.moved _ (ZgM hlt);refine .skip (.seq (.block (.sr (.sA (.indexAddr J et_23 J J k J (YaU hlt) J) ?_))));refine .sA (.loadAgg J ag_74 J J) ?_;refine .alloc 102 J J J J zt_74 J J J ?_;refine .st J J J sz_74 J (.head _) J J J (ZnB J) ?_;refine .freezeCells 7 (ds := c.moved[k].ds) J (.head _) (.nil ?_);refine .region (.sA (.moveO J J) ?_);refine .fl Yb4 sc_3 ?_;refine .fl Ygn sc_3 ?_;refine .eff J J (.mapUpdateX (key := kI c.moved[k].src) J J mt_to YaC J (.head _) J (DExact.v _) J (Ya3 hbk.1) (Yfu fun p hp => (toL_ok (fun x hx => hc.moved x (List.mem_of_mem_take hx)) p hp).1) (put_to hlt)) (.nil ?_);refine .region (.sA (.add64 J J J) ?_);refine .mN ?_;refine ⟨k + 1, (by omega), (by dsimp only; omega), Sub.less ⟨U, U, U, U, U, U, trivial⟩ (Yf9 rfl)⟩
 rw [ZlM] at h1;obtain rfl : k = c.moved.length := by omega
 rw [List.take_length];refine .exit (.seq (.seq (.freezeMap 5 J (.head _) ?_)));refine .region (.fl Yd7 Yei ?_);refine .sA (.lenSl J et_23.ht J) ?_;refine .mN ?_;refine .block (.loop (G := Nat) (fun k => Env.of [(37, .iv k), (35, .d (.sl (c.moved.map Mvd.ds))), (36, .iv (c.moved.map Mvd.ds).length), (5, .d (.fm (toM (toL c.moved)))), (2, .d (.fp c.ds)), (1, .d (.fm (idxM c.things)))]) (fun k => []) (fun k => k <= c.moved.length /\ ffst (mvF c) k = 0) (fun k => c.moved.length - k) 0 ⟨ZnZ _, J⟩ (Sub.less ⟨U, U, U, U, U, U, trivial⟩ (fun _ h => h)) ?_);intro k hk;refine .sr (.sA (.lss J J J) (.nil ?_));refine .seq (.cT J (fun h2 => ?_) fun h2 => ?_)
 ·rw [ZlM] at h2;have hlt : k < c.moved.length := by omega
  have hbk := hc.moved _ (ZgM hlt);refine .skip (.seq (.block (.sr (.mA ?_))));refine .sA (.indexAddr J et_23 J J k J (YaU hlt) J) (.sA (.loadAgg J ag_74 J J) ?_);refine .alloc 103 J J J J zt_74 J J J ?_;refine .aA ?_;refine .st J J J sz_74 J (.head _) J J J (ZnB J) ?_;refine .freezeCells 9 (ds := c.moved[k].ds) J (.head _) (.nil ?_);refine .seq (.sr (.fl Yb4 sc_3 ?_));refine .sA (.lss J J J) ?_;refine .mA ?_;refine .sT 45 J (fun g3 => ?_) fun g3 => ?_
  ·refine .pB ?_;refine .pA ?_;refine .sA (.pickT J J J) (.nil ?_);refine .cond J (fun _ => ?_) (fun h => nomatch h);refine .sr (.aN ?_);refine .ret (rDq J ?_)
   all_goals (first | rw [HR] | rw [Ybu hlt hk.2 (show mvF c k = 1 from by unfold mvF; rw [dif_pos hlt]; grind) (by decide)] | rw [Ybu hlt hk.2 (show mvF c k = 8 from by unfold mvF; rw [dif_pos hlt]; grind) (by decide)] | rw [Ybu hlt hk.2 (show mvF c k = 7 from by unfold mvF; rw [dif_pos hlt]; grind) (by decide)] | rw [Ybu hlt hk.2 (show mvF c k = 9 from by unfold mvF; rw [dif_pos hlt]; grind) (by decide)])
  refine .sG (.fieldAddr J Yb4 J) ?_;refine .sG (.load J sc_3 J) ?_;refine .sG (.gtr J J J) ?_;refine .sA (.pickF J J J) (.nil ?_);refine .cT J (fun h4 => ?_) fun h4 => ?_
  ·refine .sr (.aN ?_);refine .ret (rDq J ?_)
   all_goals (first | rw [HR] | rw [Ybu hlt hk.2 (show mvF c k = 1 from by unfold mvF; rw [dif_pos hlt]; grind) (by decide)] | rw [Ybu hlt hk.2 (show mvF c k = 8 from by unfold mvF; rw [dif_pos hlt]; grind) (by decide)] | rw [Ybu hlt hk.2 (show mvF c k = 7 from by unfold mvF; rw [dif_pos hlt]; grind) (by decide)] | rw [Ybu hlt hk.2 (show mvF c k = 9 from by unfold mvF; rw [dif_pos hlt]; grind) (by decide)])
  refine .skip (.seqJ (¬ (0 < k /\ c.moved[k].src <= (c.moved[k - 1]'(by omega)).src)) (Env.of [(37, .iv k), (35, .d (.sl (c.moved.map Mvd.ds))), (36, .iv (c.moved.map Mvd.ds).length), (5, .d (.fm (toM (toL c.moved)))), (2, .d (.fp c.ds)), (1, .d (.fm (idxM c.things))), (9, .d (.fp c.moved[k].ds))]) [] ?_ (fun n8 => ?_))
  ·skip;refine .seq (.drw 14 ?_);refine .sA (.moveD J J) (.sA (.gtr J J J) (.sA (.moveD J J) ?_));refine .sT 52 J (fun g5 => ?_) fun g5 => ?_
   ·have hk0 : 0 < k := by omega
    refine .sG (.fieldAddr J Yb4 J) ?_;refine .sG (.load J sc_3 J) ?_;refine .sG (.fieldAddr J Yd7 J) ?_;refine .sG (.load J Yei J) ?_;refine .sG (.moveD J J) ?_;refine .sG (.sub64 J J J) ?_;refine .sG (.indexAddr J et_23 J J (k - 1) (by omega) (YaU (by omega)) J) ?_;refine .sG (.fieldAddr J Yb4 J) ?_;refine .sG (.load J sc_3 J) ?_;refine .sG (.leq J J J) ?_;refine .sA (.pickT J J J) ?_;refine .nil ?_;refine .nil ?_;refine .cT J (fun h6 => ?_) fun h6 => ?_
    ·refine .sr (.aN ?_);refine .ret (rDq J ?_)
     all_goals (first | rw [HR] | rw [Ybu hlt hk.2 (show mvF c k = 1 from by unfold mvF; rw [dif_pos hlt]; grind) (by decide)] | rw [Ybu hlt hk.2 (show mvF c k = 8 from by unfold mvF; rw [dif_pos hlt]; grind) (by decide)] | rw [Ybu hlt hk.2 (show mvF c k = 7 from by unfold mvF; rw [dif_pos hlt]; grind) (by decide)] | rw [Ybu hlt hk.2 (show mvF c k = 9 from by unfold mvF; rw [dif_pos hlt]; grind) (by decide)])
    refine .skip ?_;refine ⟨?_, Sub.less ⟨U, U, U, U, U, U, U, trivial⟩ (fun _ h => h)⟩;omega
   refine .pB ?_;refine .pB ?_;refine .pB ?_;refine .pB ?_;refine .pB ?_;refine .sA (.pickF J J J) ?_;refine .nil ?_;refine .nil ?_;refine .cond J (fun h => nomatch h) (fun _ => ?_);refine .skip ?_;refine ⟨?_, Sub.less ⟨U, U, U, U, U, U, U, trivial⟩ (fun _ h => h)⟩;omega
  refine .seq (.sr (.mA ?_));refine .fl Yb4 sc_3 ?_;refine .sA (.lookupOkF (key := kI c.moved[k].src) J Yer YaC YeZ Ye0 J J (DExact.v _) (Ya3 hbk.1) (Ybp hc.things) _ (Yb3 hr.nk _)) ?_;refine .mA ?_;refine .sA (.extract J J J) (.sA (.extract J J J) ?_);refine .alloc 104 J J J J Ycs J J J ?_;refine .st J J J Ycc J (.head _) J J J (ZnB J) ?_;refine .freezeCells 10 (ds := (getT c.things c.moved[k].src).ds) J (.head _) ?_;refine .aN ?_;refine .sr (.mN ?_);refine .cond J (fun h7 => ?_) (fun h7 => ?_)
  ·skip;have n7 := h7;refine .sr (.aN ?_);refine .ret (rDq J ?_)
   all_goals (first | rw [HR] | rw [Ybu hlt hk.2 (show mvF c k = 1 from by unfold mvF; rw [dif_pos hlt]; grind) (by decide)] | rw [Ybu hlt hk.2 (show mvF c k = 8 from by unfold mvF; rw [dif_pos hlt]; grind) (by decide)] | rw [Ybu hlt hk.2 (show mvF c k = 7 from by unfold mvF; rw [dif_pos hlt]; grind) (by decide)] | rw [Ybu hlt hk.2 (show mvF c k = 9 from by unfold mvF; rw [dif_pos hlt]; grind) (by decide)])
  have n7 : ¬ Yae c.things c.moved[k].src = true := by rw [h7]; decide
  refine .skip (.sr (.mA ?_));refine .fl Ygn sc_3 ?_;refine .sA (.lookupOkF (key := kI c.moved[k].dst) J Yer YaC YeZ Ye0 J J (DExact.v _) (Ya3 hbk.2) (Ybp hc.things) _ (Yb3 hr.nk _)) ?_;refine .mA ?_;refine .sA (.extract J J J) (.sA (.extract J J J) ?_);refine .alloc 105 J J J J Ycs J J J ?_;refine .st J J J Ycc J (.head _) J J J (ZnB J) ?_;refine .freezeCells 12 (ds := (getT c.things c.moved[k].dst).ds) J (.head _) ?_;refine .aN ?_;refine .sr (.mA ?_);refine .fl Ygn sc_3 ?_;refine .sA (.lookupOkF (key := kI c.moved[k].dst) J mt_to YaC zt_int zd_int J J (DExact.v _) (Ya3 hbk.2) (Yfu fun p hp => (toL_ok hc.moved p hp).1) _ (getok_to (toL_nk _) _)) ?_;rw [toL_has];refine .mA ?_;refine .sA (.extract J J J) (.sA (.extract J J J) ?_);refine .aa (.nil ?_);refine .sr (.mA ?_);refine .sA (.not J J) ?_;refine .mA ?_;refine .split 88 J (fun g8 => ?_) (fun g8 => ?_)
  ·replace g8 := Yaw g8;have hnd := g8;refine .sG (.moveD J J) ?_;refine .sG (.not J J) ?_;refine .sA (.pickT J J J) (.nil ?_);refine .cond J (fun h9 => ?_) (fun h9 => ?_)
   ·replace h9 := Yaw h9;have n9 := And.intro hnd h9;refine .sr (.aN ?_);refine .ret (rDq J ?_)
    all_goals (first | rw [HR] | rw [Ybu hlt hk.2 (show mvF c k = 1 from by unfold mvF; rw [dif_pos hlt]; grind) (by decide)] | rw [Ybu hlt hk.2 (show mvF c k = 8 from by unfold mvF; rw [dif_pos hlt]; grind) (by decide)] | rw [Ybu hlt hk.2 (show mvF c k = 7 from by unfold mvF; rw [dif_pos hlt]; grind) (by decide)] | rw [Ybu hlt hk.2 (show mvF c k = 9 from by unfold mvF; rw [dif_pos hlt]; grind) (by decide)])
   replace h9 := Yax h9;have n9 : ¬ (Yae c.things c.moved[k].dst = false /\ hasM c.moved c.moved[k].dst = false) := fun hh => by have q9 := hh.2; rw [h9] at q9; cases q9
   refine .skip (.region (.sA (.add64 J J J) ?_));refine .mN ?_;refine ⟨k + 1, ⟨by omega, YaL hk.2 (show mvF c k = 0 from by unfold mvF; rw [dif_pos hlt]; grind)⟩, (by dsimp only; omega), Sub.less ⟨U, U, U, U, U, U, trivial⟩ (fun _ h => h)⟩
  replace g8 := Yax g8;have n9 : ¬ (Yae c.things c.moved[k].dst = false /\ hasM c.moved c.moved[k].dst = false) := fun hh => by have q9 := hh.1; rw [g8] at q9; cases q9
  refine .pB ?_;refine .sA (.pickF J J J) (.nil ?_);refine .cond J (fun h => nomatch h) (fun _ => ?_);refine .skip (.region (.sA (.add64 J J J) ?_));refine .mN ?_;refine ⟨k + 1, ⟨by omega, YaL hk.2 (show mvF c k = 0 from by unfold mvF; rw [dif_pos hlt]; grind)⟩, (by dsimp only; omega), Sub.less ⟨U, U, U, U, U, U, trivial⟩ (fun _ h => h)⟩
 rw [ZlM] at h2;obtain rfl : k = c.moved.length := by omega
 have HF := hk.2;have hm := risM_of HF;rw [YeD hm];refine .exit (.seq (.sr (.sA (.fieldAddr J Yd7 J) ?_)));refine .sA (.load J Yei J) (.sA (.lenSl J et_23.ht J) ?_);refine .mN ?_;refine .block (.loop (G := Nat) (fun k => Env.of [(96, .iv k), (94, .d (.sl (c.moved.map Mvd.ds))), (95, .iv (c.moved.map Mvd.ds).length), (5, .d (.fm (toM (mvL c.moved)))), (2, .d (.fp c.ds)), (1, .d (.fm (idxM c.things)))]) (fun k => []) (fun k => k <= c.moved.length /\ ffst (lpF c) k = 0) (fun k => c.moved.length - k) 0 ⟨ZnZ _, J⟩ (Sub.less ⟨U, U, U, U, U, U, trivial⟩ (fun _ h => h)) ?_);intro k hk;refine .sr (.sA (.lss J J J) (.nil ?_));refine .seq (.cT J (fun h10 => ?_) fun h10 => ?_)
 ·rw [ZlM] at h10;have hlt : k < c.moved.length := by omega
  have hbk := hc.moved _ (ZgM hlt);refine .skip (.seq (.block (.sr (.sA (.indexAddr J et_23 J J k J (YaU hlt) J) ?_))));refine .sA (.loadAgg J ag_74 J J) ?_;refine .alloc 106 J J J J zt_74 J J J ?_;refine .st J J J sz_74 J (.head _) J J J (ZnB J) ?_;refine .freezeCells 17 (ds := c.moved[k].ds) J (.head _) (.nil ?_);refine .sr (.mm ?_);refine .fl Yb4 sc_3 ?_;refine .sA (.call J (.cons (.rfl' J) (.cons (.rfl' J) (.cons (.rfl' J) .nil))) (c_found _ _ _ hc.things hr (by rw [<- YeD hm]; exact toL_ok hc.moved) (by rw [<- YeD hm]; exact toL_nk _) hbk.1 (by rw [mvL_len]; exact hl2))) ?_;refine .mA ?_;refine .sA (.extract J J J) (.sA (.extract J J J) ?_);refine .aa (.nil ?_);refine .sr (.mA ?_);refine .sA (.not J J) (.nil ?_);refine .cond J (fun h11 => ?_) (fun h11 => ?_)
  ·replace h11 := Yaw h11;rw [Ygb hr hm, Ygc] at h11;have HR := mvd_c HF hlt hk.2 h11;refine .sr (.aN ?_);refine .ret (rDq J ?_)
   all_goals (first | rw [HR] | rw [Ybu hlt hk.2 (show mvF c k = 1 from by unfold mvF; rw [dif_pos hlt]; grind) (by decide)] | rw [Ybu hlt hk.2 (show mvF c k = 8 from by unfold mvF; rw [dif_pos hlt]; grind) (by decide)] | rw [Ybu hlt hk.2 (show mvF c k = 7 from by unfold mvF; rw [dif_pos hlt]; grind) (by decide)] | rw [Ybu hlt hk.2 (show mvF c k = 9 from by unfold mvF; rw [dif_pos hlt]; grind) (by decide)])
  replace h11 := Yax h11;rw [Ygb hr hm, Ygc] at h11;have HN := lp_0 hlt h11;refine .skip (.region (.sA (.add64 J J J) ?_));refine .mN ?_;refine ⟨k + 1, ⟨by omega, YaL hk.2 HN⟩, (by dsimp only; omega), Sub.less ⟨U, U, U, U, U, U, trivial⟩ (fun _ h => h)⟩
 rw [ZlM] at h10;obtain rfl : k = c.moved.length := by omega
 have HR : mvdF c = 0 := by rw [mvd_b HF]; exact hk.2
 refine .exit (.sr (.aN ?_));refine .ret (rDq J ?_)
 all_goals (first | rw [HR] | rw [Ybu hlt hk.2 (show mvF c k = 1 from by unfold mvF; rw [dif_pos hlt]; grind) (by decide)] | rw [Ybu hlt hk.2 (show mvF c k = 8 from by unfold mvF; rw [dif_pos hlt]; grind) (by decide)] | rw [Ybu hlt hk.2 (show mvF c k = 7 from by unfold mvF; rw [dif_pos hlt]; grind) (by decide)] | rw [Ybu hlt hk.2 (show mvF c k = 9 from by unfold mvF; rw [dif_pos hlt]; grind) (by decide)])
namespace Ty
theorem ag_113 : AggT Tryz.prog 113 2 := .of (by kernel_rfl)
theorem YbB : AggT Tryz.prog 25 2 := .of (by kernel_rfl)
theorem bu_113 : StructT Tryz.prog 113 (fun i => (#[(0, 1), (1, 1)] : Array (Nat × Nat))[i]?) [(.int .i64 0), (.string ⟨#[]⟩)] := .of (by kernel_rfl) (by kernel_rfl) (by decide)
theorem sz_113 : ∀ w, (sizeOf 113).run Tryz.prog w = .ok 2 w := SizeT.of (by kernel_rfl)
theorem zt_113 : (Tryz.prog.info? 113).bind (·.zero) = some (.agg #[(.int .i64 0), (.string ⟨#[]⟩)]) := by kernel_rfl
end Ty
theorem krow_C : (113 : TypeId) < Tryz.prog.types.size := dcT (by kernel_rfl)
theorem kwide_C : (match Tryz.prog.underlying 113 with | some (.array _ _) | some (.struct _) => true | _ => false) = true := by kernel_rfl
theorem klaid : laidOutB Tryz.prog = true := by kernel_rfl
theorem kd_C : Maps.Keyed Tryz.prog 113 := Maps.Keyed.of_law (deep_law_laid klaid (m := 3) (by omega) krow_C (by kernel_rfl) kwide_C)
def isStrT (o : Option TypeDesc) : Bool := match o with
 | some .string => true
 | _ => false
def isI64T (o : Option TypeDesc) : Bool := match o with
 | some (.int .i64) => true
 | _ => false
theorem isStrT_eq {o : Option TypeDesc} (h : isStrT o = true) : o = some .string := by
 unfold isStrT at h;split at h
 ·rfl
 ·cases h
theorem Yew {o : Option TypeDesc} (h : isI64T o = true) : o = some (.int .i64) := by
 unfold isI64T at h;split at h
 ·rfl
 ·cases h
def keyCB (P : Program) (k : TypeId) : Bool := match P.underlying k with
 | some (.struct fs) => (match fs.toList with
  | [f, g] => f.name != "_" && g.name != "_" && f.offset == 0 && g.offset == 1 && isI64T (P.underlying f.type) && isStrT (P.underlying g.type) && P.cellsOf f.type == 1 && P.cellsOf g.type == 1
  | _ => false) && P.cellsOf k == 2
 | _ => false
theorem keyC_ok' {P : Program} {k : TypeId} (h : keyCB P k = true) (hk : P.keyType k = true) (h0 : k < P.types.size) (s : ByteArray) (n : Int) (hs : s.size <= maxLen) (hn : (Lit.int .i64 n).wf = true) : ∃ l, keyOf P k (.agg #[.int .i64 n, .string s]) = some l := by
 unfold keyCB at h
 cases hu : P.underlying k with
 | none => rw [hu] at h; cases h
 | some td =>
  rw [hu] at h;cases td <;> try (cases h; done)
  rename_i fs;simp only [ZbA] at h;obtain ⟨h1, h2⟩ := h
  cases hf : fs.toList with
  | nil => rw [hf] at h1; cases h1
  | cons f r =>
   cases r with
   | nil => rw [hf] at h1; cases h1
   | cons g r =>
    cases r with
    | cons _ _ => rw [hf] at h1; cases h1
    | nil =>
     rw [hf] at h1;simp only [ZbA, beq_iff_eq] at h1 h2;obtain ⟨⟨⟨⟨⟨⟨⟨a1, a2⟩, a3⟩, a4⟩, a5⟩, a6⟩, a7⟩, a8⟩ := h1;have a5' := Yew a5;have a6' := isStrT_eq a6;obtain ⟨m, hm⟩ : ∃ m, P.types.size = m + 1 := ⟨P.types.size - 1, (Nat.sub_add_cancel (Nat.lt_of_le_of_lt (ZnZ k) h0)).symm⟩
     have hall : fs.all (·.name != "_") = true := by
      rw [<- Array.all_toList, hf];simp only [List.all_cons, List.all_nil, a1, a2, Bool.and_self]
     unfold keyOf;rw [hu];simp only [hk, Value.formed, hu, h2, Bool.true_and];refine ⟨.string (keyBytes [.int .i64 n, .string s.data.toList]), ?_⟩
     have kf : P.keyLits (m + 1) f.type [.int .i64 n] = some [.int .i64 n] := by
      unfold Program.keyLits;rw [a5'];simp [hn]
     have kg : P.keyLits (m + 1) g.type [.string s] = some [.string s.data.toList] := by
      unfold Program.keyLits;rw [a6'];simp [hs]
     have c1 : (([Value.int .i64 n, .string s] : List Value).drop f.offset).take (P.cellsOf f.type) = [.int .i64 n] := by rw [a3, a7]; rfl
     have c2 : (([Value.int .i64 n, .string s] : List Value).drop g.offset).take (P.cellsOf g.type) = [.string s] := by rw [a4, a8]; rfl
     have hk2 : P.keyLits (m + 1 + 1) k [.int .i64 n, .string s] = some [.int .i64 n, .string s.data.toList] := by
      unfold Program.keyLits;rw [hu];simp only [List.length_cons, List.length_nil, h2, hall, and_self, if_true, hf, List.mapM_cons, List.mapM_nil, c1, c2, kf, kg];rfl
     simp [Value.cells, hm, hk2]
abbrev KC := Int × ByteArray
def kC (p : KC) : Value := .agg #[.int .i64 p.1, .string p.2]
def dB (p : KC × Bool) : D := .v (.bool p.2)
theorem kC_ok {n : Int} {s : ByteArray} (h : i64 n) (hs : s.size <= maxLen) : ∃ l, keyOf Tryz.prog 113 (kC (n, s)) = some l := keyC_ok' (by kernel_rfl) (by kernel_rfl) krow_C s n hs (wf64 h)
theorem kC_inj {a b : KC} (h : kC a = kC b) : a = b := by
 unfold kC at h;simp only [Value.agg.injEq] at h;have h2 : [Value.int .i64 a.1, .string a.2] = [.int .i64 b.1, .string b.2] := congrArg Array.toList h;simp at h2;exact Prod.ext h2.1 h2.2
def seenM (L : List (KC × Bool)) : List (Value × D) := encG kC dB L
def Yfj (l : List Thg) : List (KC × Bool) := l.foldl (fun L x => putG L (x.kind, x.code) true) []
theorem seenL_next {l : List Thg} {k : Nat} (hk : k < l.length) : Yfj (l.take (k + 1)) = putG (Yfj (l.take k)) (l[k].kind, l[k].code) true := by
 unfold Yfj;rw [List.take_add_one, ZgE hk, Option.toList_some, List.foldl_append]; rfl
theorem foldC_nk : ∀ (l : List Thg) (L : List (KC × Bool)), NkG L -> NkG (l.foldl (fun L x => putG L (x.kind, x.code) true) L)
 | [], _, h => h
 | _ :: l, _, h => foldC_nk l _ (Ydj h _ _)
theorem seenL_nk (l : List Thg) : NkG (Yfj l) := foldC_nk l [] List.Pairwise.nil
theorem foldC_get : ∀ (l : List Thg) (L : List (KC × Bool)) (k : Int) (c : ByteArray), (Yaa (l.foldl (fun L x => putG L (x.kind, x.code) true) L) (k, c)).getD false = ((Yaa L (k, c)).getD false || l.any fun x => decide (x.kind = k) && decide (x.code = c))
 | [], L, k, c => by simp
 | x :: l, L, k, c => by
  rw [List.foldl_cons, foldC_get l _ k c, Ybg, List.any_cons]
  by_cases h : (k, c) = (x.kind, x.code)
  ·rw [if_pos h];obtain ⟨rfl, rfl⟩ := Prod.mk.inj h;simp
  ·rw [if_neg h]
   have : (decide (x.kind = k) && decide (x.code = c)) = false := by
    rw [Bool.eq_false_iff];intro hh;rw [ZbA] at hh;exact h (Prod.ext (dcT hh.1).symm (dcT hh.2).symm)
   rw [this, Bool.false_or]
theorem seen_tw (l : List Thg) (i : Nat) (t : Thg) : (Yaa (Yfj (l.take i)) (t.kind, t.code)).getD false = twB l i t := by
 unfold Yfj twB;rw [foldC_get];simp [Yaa]
theorem foldC_mem (P : KC -> Prop) : ∀ (l : List Thg) (L : List (KC × Bool)), (∀ x ∈ l, P (x.kind, x.code)) -> (∀ p ∈ L, P p.1) -> ∀ p ∈ l.foldl (fun L x => putG L (x.kind, x.code) true) L, P p.1
 | [], _, _, h => h
 | x :: l, L, h, h2 => foldC_mem P l _ (fun y hy => h y (List.mem_cons_of_mem _ hy)) fun p hp => by
  unfold putG at hp;dsimp only at hp
  by_cases hh : hasG L (x.kind, x.code) = true
  ·rw [if_pos hh] at hp;obtain ⟨q, hq, rfl⟩ := ZmM.1 hp
   by_cases h3 : q.1 = (x.kind, x.code)
   ·rw [if_pos h3]; exact h x List.mem_cons_self
   ·rw [if_neg h3]; exact h2 q hq
  ·rw [if_neg hh, List.mem_append, ZmS] at hp
   rcases hp with hp | hp
   ·exact h2 p hp
   ·rw [hp]; exact h x List.mem_cons_self
theorem YfY {l : List Thg} (h : ∀ x ∈ l, ThgOk x) (i : Nat) : ∀ p ∈ seenM (Yfj (l.take i)), ∃ q, keyOf Tryz.prog 113 p.1 = some q := fun p hp => by
 unfold seenM encG at hp;obtain ⟨q, hq, rfl⟩ := ZmM.1 hp;have := foldC_mem (fun k => i64 k.1 /\ k.2.size <= 9223372036854775807) (l.take i) [] (fun x hx => ⟨(h x (List.mem_of_mem_take hx)).kind, (h x (List.mem_of_mem_take hx)).code⟩) (fun p hp => by cases hp) q hq;exact kC_ok this.1 this.2
theorem mt_seen : Tryz.prog.underlying 111 = some (.map 113 4) := by kernel_rfl
theorem zt_bool : (Tryz.prog.info? 4).bind (·.zero) = some (.bool false) := by kernel_rfl
theorem zd_bool (F : Nat -> Prop) (w : World) : Rep F w (.bool false) (.v (.bool false)) := .v _
theorem get_seen (l : List Thg) (i : Nat) (t : Thg) : MGet (seenM (Yfj (l.take i))) (kC (t.kind, t.code)) (.v (.bool false)) (.v (.bool (twB l i t))) := by
 rw [<- seen_tw];exact mgetG (kv := kC) (dv := dB) kC_inj (seenL_nk _) _ _ _ (by cases Yaa (Yfj (l.take i)) (t.kind, t.code) <;> rfl)
theorem put_seen {l : List Thg} {k : Nat} (hk : k < l.length) : MPut (seenM (Yfj (l.take k))) (kC (l[k].kind, l[k].code)) (.v (.bool true)) (seenM (Yfj (l.take (k + 1)))) := by
 rw [seenL_next hk];exact YgH (kv := kC) (dv := dB) kC_inj (seenL_nk _) (l[k].kind, l[k].code) true
theorem YfW {x : Thg} (h : thgF x = 0) : x.parts.length <= 50 := by
 unfold thgF at h
 by_cases h1 : YcV x.kind = false
 ·rw [if_pos h1] at h; omega
 rw [if_neg h1] at h
 by_cases h2 : YaZ x.title = false
 ·rw [if_pos h2] at h; omega
 rw [if_neg h2] at h
 by_cases h3 : ¬ x.code = ⟨#[]⟩ /\ YcM x.kind x.code.data.toList ≠ 0
 ·rw [if_pos h3] at h; exact absurd h h3.2
 rw [if_neg h3] at h
 by_cases h4 : x.since < 0 \/ 200000 < x.since
 ·rw [if_pos h4] at h; omega
 rw [if_neg h4] at h;split at h
 ·omega
 ·split at h <;> omega
theorem parts_of {l : List Thg} (h : ffst (thF l) l.length = 0) {k : Nat} (hk : k < l.length) : l[k].parts.length <= 50 := YfW (thF_0 hk (Ya5 _ h k hk)).2.2
theorem lim_of {c : Ctl} (h : ¬ (300 < c.things.length \/ 300 < c.moved.length)) : Lim c := ⟨by omega, by omega⟩
theorem Ycd {c : Ctl} {k : Nat} {n : Int} (hL : ¬ (300 < c.things.length \/ 300 < c.moved.length)) (hk : k < c.things.length) (hf : ffst (thF c.things) k = 0) (h2 : thF c.things k = n) (hn : n ≠ 0) : chkF c = n := by
 have h3 := Yau hf (by rw [h2]; exact hn) _ hk;unfold chkF;rw [if_neg hL, h3, h2, if_pos hn]
theorem chk_l {c : Ctl} {k : Nat} {n : Int} (hL : ¬ (300 < c.things.length \/ 300 < c.moved.length)) (h1 : ffst (thF c.things) c.things.length = 0) (hk : k < c.things.length) (hf : ffst (lkF c.things) k = 0) (h2 : lkF c.things k = n) (hn : n ≠ 0) : chkF c = n := by
 have h3 := Yau hf (by rw [h2]; exact hn) _ hk;unfold chkF;rw [if_neg hL, if_neg (by omega), h3, h2, if_pos hn]
theorem chk_m {c : Ctl} (hL : ¬ (300 < c.things.length \/ 300 < c.moved.length)) (h1 : ffst (thF c.things) c.things.length = 0) (h2 : ffst (lkF c.things) c.things.length = 0) : chkF c = mvdF c := by
 unfold chkF;rw [if_neg hL, if_neg (by omega), if_neg (by omega)]
structure CatOk (c : Ctl) : Prop where
 lim : Lim c
 ris : RisT c.things
 rism : RisM c.moved
 th : ∀ k (hk : k < c.things.length), thgF c.things[k] = 0
 lk : ∀ k (hk : k < c.things.length), Ybz c.things c.things[k] = 0
 lp : ∀ x ∈ c.moved, (ledC c x.src).isSome = true
theorem Yb8 {c : Ctl} (h : chkF c = 0) : CatOk c := by
 unfold chkF at h
 by_cases hL : 300 < c.things.length \/ 300 < c.moved.length
 ·rw [if_pos hL] at h; omega
 rw [if_neg hL] at h
 by_cases h1 : ffst (thF c.things) c.things.length ≠ 0
 ·rw [if_pos h1] at h; exact absurd h h1
 rw [if_neg h1] at h;have h1 : ffst (thF c.things) c.things.length = 0 := by omega
 by_cases h2 : ffst (lkF c.things) c.things.length ≠ 0
 ·rw [if_pos h2] at h; exact absurd h h2
 rw [if_neg h2] at h;have h2 : ffst (lkF c.things) c.things.length = 0 := by omega
 unfold mvdF at h
 by_cases h3 : ffst (mvF c) c.moved.length ≠ 0
 ·rw [if_pos h3] at h; exact absurd h h3
 rw [if_neg h3] at h;have h3 : ffst (mvF c) c.moved.length = 0 := by omega
 refine ⟨lim_of hL, risT_of h1, risM_of h3, fun k hk => (thF_0 hk (Ya5 _ h1 k hk)).2.2, fun k hk => ?_, fun x hx => ?_⟩
 ·have h4 := Ya5 _ h2 k hk;unfold lkF at h4;rw [dif_pos hk] at h4
  by_cases h5 : Ybz c.things c.things[k] ≠ 0
  ·rw [if_pos h5] at h4; exact absurd h4 h5
  ·omega
 ·obtain ⟨k, hk, rfl⟩ := List.mem_iff_getElem.1 hx;have h4 := Ya5 _ h k hk;unfold lpF at h4;rw [dif_pos hk] at h4
  cases hq : (ledC c c.moved[k].src).isSome with
  | true => rfl
  | false => rw [hq, if_pos rfl] at h4; omega
theorem c_pChk (c : Ctl) (hc : CtlOk c) : ACallT Tryz.prog MaxT 18 [.agg c.ds] (.v (.int .i64 (chkF c))) := by
 refine Ycr (n := 93) (ds' := [.v (.int .i64 (chkF c))]) Tryz.func18 J (by kernel_rfl) J [2] J J ?_;intro B w0 F0 hT;have htl : (c.things.map Thg.ds).length = c.things.length := ZlM ..;have hml : (c.moved.map Mvd.ds).length = c.moved.length := ZlM ..;refine .sr (.sA (.box J J J) ?_);refine .aN ?_;refine .seq (.sr (.fl Ydr YdK ?_));refine .sA (.lenSl J et_22.ht J) (.sA (.gtr J J J) ?_);refine .mA ?_;refine .sT 16 J (fun g1 => ?_) fun g1 => ?_
 ·have HR : chkF c = 2 := if_pos (by omega);refine .pB ?_;refine .pB ?_;refine .sA (.pickT J J J) (.nil ?_);refine .cond J (fun _ => ?_) (fun h => nomatch h);refine .sr (.aN ?_);refine .ret (rDq J ?_)
  all_goals (first | rfl | first | rw [HR] | rw [Ycd hL hlt hk.2 (show thF c.things k = 1 from by unfold thF; rw [dif_pos hlt]; grind) (by decide)] | rw [Ycd hL hlt hk.2 (show thF c.things k = 8 from by unfold thF; rw [dif_pos hlt]; grind) (by decide)])
 refine .sG (.fieldAddr J Yd7 J) ?_;refine .sG (.load J Yei J) ?_;refine .sG (.lenSl J et_23.ht J) ?_;refine .sG (.gtr J J J) ?_;refine .sA (.pickF J J J) (.nil ?_);refine .cT J (fun h2 => ?_) fun h2 => ?_
 ·have HR : chkF c = 2 := if_pos (by omega);refine .sr (.aN ?_);refine .ret (rDq J ?_)
  all_goals (first | rfl | first | rw [HR] | rw [Ycd hL hlt hk.2 (show thF c.things k = 1 from by unfold thF; rw [dif_pos hlt]; grind) (by decide)] | rw [Ycd hL hlt hk.2 (show thF c.things k = 8 from by unfold thF; rw [dif_pos hlt]; grind) (by decide)])
 have hL : ¬ (300 < c.things.length \/ 300 < c.moved.length) := by omega
 have hLim := lim_of hL;refine .skip (.seq (.sr (.fl Ydr YdK ?_)));refine .sA (.lenSl J et_22.ht J) ?_;refine .mN ?_;refine .block (.loop (G := Nat) (fun k => Env.of [(25, .iv k), (23, .d (.sl (c.things.map Thg.ds))), (24, .iv (c.things.map Thg.ds).length), (1, .d (.fp c.ds))]) (fun k => []) (fun k => k <= c.things.length /\ ffst (thF c.things) k = 0) (fun k => c.things.length - k) 0 ⟨ZnZ _, J⟩ (Sub.less ⟨U, U, U, U, trivial⟩ (fun _ h => h)) ?_);intro k hk;refine .sr (.sA (.lss J J J) (.nil ?_));refine .seq (.cT J (fun h3 => ?_) fun h3 => ?_)
 ·rw [ZlM] at h3;have hlt : k < c.things.length := by omega
  have hbk := hc.things _ (ZgM hlt);refine .skip (.seq (.block (.sr (.mA ?_))));refine .sA (.indexAddr J et_22 J J k J (YaU hlt) J) (.sA (.loadAgg J Ybh J J) ?_);refine .alloc 101 J J J J Ycs J J J ?_;refine .aA ?_;refine .st J J J Ycc J (.head _) J J J (ZnB J) ?_;refine .freezeCells 4 (ds := c.things[k].ds) J (.head _) (.nil ?_);refine .seq (.sr (.fl YaW sc_3 ?_));refine .sA (.lss J J J) ?_;refine .mA ?_;refine .sT 33 J (fun g4 => ?_) fun g4 => ?_
  ·refine .pB ?_;refine .pA ?_;refine .sA (.pickT J J J) (.nil ?_);refine .cond J (fun _ => ?_) (fun h => nomatch h);refine .sr (.aN ?_);refine .ret (rDq J ?_)
   all_goals (first | rfl | first | rw [HR] | rw [Ycd hL hlt hk.2 (show thF c.things k = 1 from by unfold thF; rw [dif_pos hlt]; grind) (by decide)] | rw [Ycd hL hlt hk.2 (show thF c.things k = 8 from by unfold thF; rw [dif_pos hlt]; grind) (by decide)])
  refine .sG (.fieldAddr J YaW J) ?_;refine .sG (.load J sc_3 J) ?_;refine .sG (.gtr J J J) ?_;refine .sA (.pickF J J J) (.nil ?_);refine .cT J (fun h5 => ?_) fun h5 => ?_
  ·refine .sr (.aN ?_);refine .ret (rDq J ?_)
   all_goals (first | rfl | first | rw [HR] | rw [Ycd hL hlt hk.2 (show thF c.things k = 1 from by unfold thF; rw [dif_pos hlt]; grind) (by decide)] | rw [Ycd hL hlt hk.2 (show thF c.things k = 8 from by unfold thF; rw [dif_pos hlt]; grind) (by decide)])
  refine .skip (.seq (.seq (.drw 14 ?_)));refine .sA (.moveD J J) (.sA (.gtr J J J) (.sA (.moveD J J) ?_));refine .sT 40 J (fun g6 => ?_) fun g6 => ?_
  ·have hk0 : 0 < k := by omega
   refine .sG (.fieldAddr J YaW J) ?_;refine .sG (.load J sc_3 J) ?_;refine .sG (.fieldAddr J Ydr J) ?_;refine .sG (.load J YdK J) ?_;refine .sG (.moveD J J) ?_;refine .sG (.sub64 J J J) ?_;refine .sG (.indexAddr J et_22 J J (k - 1) (by omega) (YaU (by omega)) J) ?_;refine .sG (.fieldAddr J YaW J) ?_;refine .sG (.load J sc_3 J) ?_;refine .sG (.leq J J J) ?_;refine .sA (.pickT J J J) ?_;refine .nil ?_;refine .nil ?_;refine .cT J (fun h7 => ?_) fun h7 => ?_
   ·refine .sr (.aN ?_);refine .ret (rDq J ?_)
    all_goals (first | rfl | first | rw [HR] | rw [Ycd hL hlt hk.2 (show thF c.things k = 1 from by unfold thF; rw [dif_pos hlt]; grind) (by decide)] | rw [Ycd hL hlt hk.2 (show thF c.things k = 8 from by unfold thF; rw [dif_pos hlt]; grind) (by decide)])
   refine .skip (.sr (.sA (.loadAgg J Ybh J J) ?_))
   -- wants the world
   refine .callT J J J hT Yam J (.cons (.rfl' J) .nil) (c_pThg _ hbk) ?_;refine .aN ?_;refine .sr (.mA ?_);refine .sA (.neq J J J) (.nil ?_);refine .cT J (fun h8 => ?_) fun h8 => ?_
   ·have HT : chkF c = thgF c.things[k] := Ycd hL hlt hk.2 (show thF c.things k = _ from by unfold thF; rw [dif_pos hlt]; grind) h8;rw [HT];refine .sr (.ma (.nil ?_));refine .ret (rDq J ?_)
    all_goals (first | rfl | first | rw [HR] | rw [Ycd hL hlt hk.2 (show thF c.things k = 1 from by unfold thF; rw [dif_pos hlt]; grind) (by decide)] | rw [Ycd hL hlt hk.2 (show thF c.things k = 8 from by unfold thF; rw [dif_pos hlt]; grind) (by decide)])
   refine .skip (.region (.sA (.add64 J J J) ?_));refine .mN ?_;refine ⟨k + 1, ⟨by omega, YaL hk.2 (show thF c.things k = 0 from by unfold thF; rw [dif_pos hlt]; grind)⟩, (by dsimp only; omega), Sub.less ⟨U, U, U, U, trivial⟩ (fun _ h => h)⟩
  refine .pB ?_;refine .pB ?_;refine .pB ?_;refine .pB ?_;refine .pB ?_;refine .sA (.pickF J J J) ?_;refine .nil ?_;refine .nil ?_;refine .cond J (fun h => nomatch h) (fun _ => ?_);refine .skip (.sr (.sA (.loadAgg J Ybh J J) ?_))
  -- wants the world
  refine .callT J J J hT Yam J (.cons (.rfl' J) .nil) (c_pThg _ hbk) ?_;refine .aN ?_;refine .sr (.mA ?_);refine .sA (.neq J J J) (.nil ?_);refine .cT J (fun h9 => ?_) fun h9 => ?_
  ·have HT : chkF c = thgF c.things[k] := Ycd hL hlt hk.2 (show thF c.things k = _ from by unfold thF; rw [dif_pos hlt]; grind) h9;rw [HT];refine .sr (.ma (.nil ?_));refine .ret (rDq J ?_)
   all_goals (first | rfl | first | rw [HR] | rw [Ycd hL hlt hk.2 (show thF c.things k = 1 from by unfold thF; rw [dif_pos hlt]; grind) (by decide)] | rw [Ycd hL hlt hk.2 (show thF c.things k = 8 from by unfold thF; rw [dif_pos hlt]; grind) (by decide)])
  refine .skip (.region (.sA (.add64 J J J) ?_));refine .mN ?_;refine ⟨k + 1, ⟨by omega, YaL hk.2 (show thF c.things k = 0 from by unfold thF; rw [dif_pos hlt]; grind)⟩, (by dsimp only; omega), Sub.less ⟨U, U, U, U, trivial⟩ (fun _ h => h)⟩
 rw [ZlM] at h3;obtain rfl : k = c.things.length := by omega
 have HF1 := hk.2;have hr := risT_of HF1;refine .exit (.sr (.sA (.loadAgg J YbB J J) ?_));refine .sA (.call J (.cons (.rfl' J) .nil) (c_idxOf c hLim hc hr)) ?_;refine .aN ?_;refine .sr (.makeMap 92 J J J J J ?_);refine .sA (.assignO J J) (.nil ?_);refine .seq (.sr (.fl Ydr YdK ?_));refine .sA (.lenSl J et_22.ht J) ?_;refine .mN ?_;refine .block (.loop (G := Nat) (fun k => Env.of [(64, .iv k), (62, .d (.sl (c.things.map Thg.ds))), (63, .iv (c.things.map Thg.ds).length), (6, .d (.fm (idxM c.things))), (7, .own 92), (1, .d (.fp c.ds))]) (fun k => [(92, .map (seenM (Yfj (c.things.take k))))]) (fun k => k <= c.things.length /\ ffst (lkF c.things) k = 0) (fun k => c.things.length - k) 0 ⟨ZnZ _, J⟩ (Sub.less ⟨U, U, U, U, U, U, trivial⟩ (Yf9 J)) ?_);intro k hk;refine .sr (.sA (.lss J J J) (.nil ?_));refine .seq (.cT J (fun h10 => ?_) fun h10 => ?_)
 ·rw [ZlM] at h10;have hlt : k < c.things.length := by omega
  have hbk := hc.things _ (ZgM hlt);refine .skip (.seq (.block (.sr (.sA (.indexAddr J et_22 J J k J (YaU hlt) J) ?_))));refine .sA (.loadAgg J Ybh J J) ?_;refine .alloc 103 J J J J Ycs J J J ?_;refine .st J J J Ycc J (.head _) J J J (ZnB J) ?_;refine .freezeCells 9 (ds := c.things[k].ds) J (.head _) (.nil ?_);refine .seq (.sr (.mA ?_));refine .sA (.loadAgg J Ybh J J) (.sA (.call J (.cons (.rfl' J) (.cons (.rfl' J) .nil)) (c_pLink _ _ hc.things hr hbk hLim.1 (parts_of HF1 hlt))) ?_);refine .aN ?_;refine .sr (.mA ?_);refine .sA (.neq J J J) (.nil ?_);refine .cT J (fun h11 => ?_) fun h11 => ?_
  ·have HT : chkF c = Ybz c.things c.things[k] := chk_l hL HF1 hlt hk.2 (show lkF c.things k = _ from lk_p hlt rfl h11) h11;rw [HT];refine .sr (.ma (.nil ?_));refine .ret (rDq J ?_)
   all_goals (first | rfl | first | rw [HR] | rw [Ycd hL hlt hk.2 (show thF c.things k = 1 from by unfold thF; rw [dif_pos hlt]; grind) (by decide)] | rw [Ycd hL hlt hk.2 (show thF c.things k = 8 from by unfold thF; rw [dif_pos hlt]; grind) (by decide)])
  have n0 : Ybz c.things c.things[k] = 0 := by omega
  refine .skip (.sr (.fl Ya4 sc_3 ?_));refine .fl Yb5 sc_9 ?_;refine .sA (.build J bu_113 (.cons J J (.cons J J .nil)) J) ?_;refine .alloc 104 J J J J zt_113 J J J ?_;refine .st J J J sz_113 J (.head _) J J J (ZnB J) ?_;refine .freezeCells 11 (ds := [.v (.int .i64 c.things[k].kind), .v (.string c.things[k].code)]) J (.head _) (.nil ?_);refine .seq (.sr (.fl Yb5 sc_9 ?_));refine .sA (.sneq J J J) ?_;refine .mA ?_;refine .sT 82 J (fun g12 => ?_) fun g12 => ?_
  ·have hcn := g12;refine .sG (.moveO J J) ?_;refine .sG (.loadAgg J ag_113 J J) ?_;refine .sG (.lookupX (key := kC (c.things[k].kind, c.things[k].code)) J mt_seen kd_C zt_bool zd_bool J (.head _) J (DExact.agg2 _ _) (kC_ok hbk.kind hbk.code) (YfY hc.things k) (get_seen _ _ _)) ?_;refine .sA (.pickT J J J) (.nil ?_);refine .cond J (fun h13 => ?_) (fun h13 => ?_)
   ·skip;have HR : chkF c = 7 := chk_l hL HF1 hlt hk.2 (lk_7 hlt n0 hcn h13) (by decide);refine .sr (.aN ?_);refine .ret (rDq J ?_)
    all_goals (first | rfl | first | rw [HR] | rw [Ycd hL hlt hk.2 (show thF c.things k = 1 from by unfold thF; rw [dif_pos hlt]; grind) (by decide)] | rw [Ycd hL hlt hk.2 (show thF c.things k = 8 from by unfold thF; rw [dif_pos hlt]; grind) (by decide)])
   have n7 : ¬ (¬ c.things[k].code = ⟨#[]⟩ /\ twB c.things k c.things[k] = true) := fun hh => by have q7 := hh.2; rw [h13] at q7; cases q7
   refine .skip (.region (.sA (.moveO J J) ?_));refine .sA (.loadAgg J ag_113 J J) ?_;refine .eff J J (.mapUpdateX (key := kC (c.things[k].kind, c.things[k].code)) J J mt_seen kd_C J (.head _) J (DExact.agg2 _ _) J (kC_ok hbk.kind hbk.code) (YfY hc.things k) (put_seen hlt)) (.nil ?_);refine .region (.sA (.add64 J J J) ?_);refine .mN ?_;refine ⟨k + 1, ⟨by omega, YaL hk.2 (lk_0 hlt n0 n7)⟩, (by dsimp only; omega), Sub.less ⟨U, U, U, U, U, U, trivial⟩ (Yf9 rfl)⟩
  have n7 : ¬ (¬ c.things[k].code = ⟨#[]⟩ /\ twB c.things k c.things[k] = true) := fun hh => hh.1 (by first | exact g12 | exact Decidable.not_not.1 g12)
  refine .pB ?_;refine .pA ?_;refine .sA (.pickF J J J) (.nil ?_);refine .cond J (fun h => nomatch h) (fun _ => ?_);refine .skip (.region (.sA (.moveO J J) ?_));refine .sA (.loadAgg J ag_113 J J) ?_;refine .eff J J (.mapUpdateX (key := kC (c.things[k].kind, c.things[k].code)) J J mt_seen kd_C J (.head _) J (DExact.agg2 _ _) J (kC_ok hbk.kind hbk.code) (YfY hc.things k) (put_seen hlt)) (.nil ?_);refine .region (.sA (.add64 J J J) ?_);refine .mN ?_;refine ⟨k + 1, ⟨by omega, YaL hk.2 (lk_0 hlt n0 n7)⟩, (by dsimp only; omega), Sub.less ⟨U, U, U, U, U, U, trivial⟩ (Yf9 rfl)⟩
 rw [ZlM] at h10;obtain rfl : k = c.things.length := by omega
 have HR : chkF c = mvdF c := chk_m hL HF1 hk.2;refine .exit (.sr (.sA (.loadAgg J YbB J J) ?_));refine .mA ?_;refine .sA (.call J (.cons (.rfl' J) (.cons (.rfl' J) .nil)) (c_pMvd c hLim hc hr)) ?_;refine .aN ?_;refine .ret (rDq J ?_)
 all_goals (first | rfl | first | rw [HR] | rw [Ycd hL hlt hk.2 (show thF c.things k = 1 from by unfold thF; rw [dif_pos hlt]; grind) (by decide)] | rw [Ycd hL hlt hk.2 (show thF c.things k = 8 from by unfold thF; rw [dif_pos hlt]; grind) (by decide)])
end
section
abbrev BW : Nat := 4294967296
theorem Ycn : 0 < BW := by decide
theorem bwp (i : Nat) : 0 < BW ^ i := Nat.pow_pos Ycn
def dig (n i : Nat) : Nat := n / BW ^ i % BW
def digs (n k : Nat) : List Nat := (List.range k).map (dig n)
def wl (n : Nat) : Nat := if n = 0 then 0 else n.log2 / 32 + 1
def W (n : Nat) : List Nat := digs n (wl n)
theorem YdU (n i : Nat) : dig n i < BW := Nat.mod_lt _ Ycn
theorem bw_pow (k : Nat) : BW ^ k = 2 ^ (32 * k) := by rw [Nat.pow_mul]
theorem wl_le {n k : Nat} : wl n <= k ↔ n < BW ^ k := by
 unfold wl
 by_cases h : n = 0
 ·subst h;rw [if_pos rfl];exact ⟨fun _ => bwp k, fun _ => ZnZ _⟩
 ·rw [if_neg h, bw_pow, <- Nat.log2_lt h];omega
theorem Ydb (n : Nat) : n < BW ^ wl n := wl_le.1 (ZnR _)
theorem YeB {a b : Nat} (h : a <= b) : wl a <= wl b := wl_le.2 (Nat.lt_of_le_of_lt h (Ydb b))
theorem wl_pos {n : Nat} (h : n ≠ 0) : 0 < wl n := by unfold wl; rw [if_neg h]; omega
theorem wl_eq_zero {n : Nat} : wl n = 0 ↔ n = 0 := ⟨fun h => Classical.byContradiction fun hh => by have := wl_pos hh; omega, fun h => by rw [h]; rfl⟩
theorem Ydt {n i : Nat} (h : n < BW ^ i) : dig n i = 0 := by unfold dig; rw [Nat.div_eq_of_lt h]; rfl
theorem Yga {n i : Nat} (h : n < BW ^ (i + 1)) (h0 : dig n i = 0) : n < BW ^ i := by
 unfold dig at h0;have h1 : n / BW ^ i < BW := (Nat.div_lt_iff_lt_mul (bwp i)).2 (by rw [Nat.pow_succ, Nat.mul_comm] at h; exact h);rw [Nat.mod_eq_of_lt h1] at h0;exact (Nat.div_eq_zero_iff_lt (bwp i)).1 h0
theorem wl_eq {n m : Nat} (h : n < BW ^ m) (h2 : m = 0 \/ dig n (m - 1) ≠ 0) : wl n = m := by
 have h1 := wl_le.2 h
 rcases Nat.lt_or_ge (wl n) m with h3 | h3
 ·rcases h2 with h2 | h2
  ·omega
  ·exact absurd (Ydt (wl_le.1 (show wl n <= m - 1 by omega))) h2
 ·omega
theorem Ybd (n i : Nat) : n % BW ^ (i + 1) = n % BW ^ i + BW ^ i * dig n i := by
 unfold dig;rw [Nat.pow_succ, Nat.mod_mul]
theorem Ydn (n i : Nat) : n % BW ^ i < BW ^ i := Nat.mod_lt _ (bwp i)
theorem YcU {n k : Nat} (h : n < BW ^ k) : n % BW ^ k = n := Nat.mod_eq_of_lt h
theorem YeO (n i : Nat) : n / BW ^ i = BW * (n / BW ^ (i + 1)) + dig n i := by
 unfold dig;rw [Nat.pow_succ, <- Nat.div_div_eq_div_mul];exact (Nat.div_add_mod _ _).symm
theorem dig_low {n i k : Nat} (h : i < k) : dig (n % BW ^ k) i = dig n i := by
 unfold dig;have e : BW ^ k = BW ^ i * BW ^ (k - i) := by rw [<- Nat.pow_add]; congr 1; omega
 rw [e, Nat.mod_mul_right_div_self];have e2 : BW ^ (k - i) = BW * BW ^ (k - i - 1) := by rw [<- Nat.pow_succ']; congr 1; omega
 rw [e2, Nat.mod_mul_right_mod]
def carA (a b i : Nat) : Nat := (a % BW ^ i + b % BW ^ i) / BW ^ i
theorem carA_0 (a b : Nat) : carA a b 0 = 0 := by unfold carA; simp [Nat.mod_one]
theorem carA_lt (a b i : Nat) : carA a b i <= 1 := by
 unfold carA;have h1 := Ydn a i; have h2 := Ydn b i;refine Nat.le_of_lt_succ ((Nat.div_lt_iff_lt_mul (bwp i)).2 ?_);omega
theorem carA_step (a b i : Nat) : (carA a b i + dig a i + dig b i) % BW = dig (a + b) i /\ (carA a b i + dig a i + dig b i) / BW = carA a b (i + 1) := by
 have key : (a % BW ^ (i + 1) + b % BW ^ (i + 1)) / BW ^ i = carA a b i + dig a i + dig b i := by
  unfold carA;rw [Ybd, Ybd, show a % BW ^ i + BW ^ i * dig a i + (b % BW ^ i + BW ^ i * dig b i) = a % BW ^ i + b % BW ^ i + BW ^ i * (dig a i + dig b i) by rw [Nat.mul_add]; omega, Nat.add_mul_div_left _ _ (bwp i), Nat.add_assoc]
 constructor
 ·rw [<- key];have h1 : dig (a + b) i = dig ((a + b) % BW ^ (i + 1)) i := (dig_low (Nat.lt_succ_self i)).symm;rw [h1, Nat.add_mod, dig_low (Nat.lt_succ_self i)]; rfl
 ·rw [<- key, Nat.div_div_eq_div_mul, <- Nat.pow_succ]; rfl
theorem carA_end {a b n : Nat} (ha : a < BW ^ n) (hb : b < BW ^ n) : carA a b n = dig (a + b) n := by
 have h := carA_lt a b n;have e : carA a b n = (a + b) / BW ^ n := by unfold carA; rw [YcU ha, YcU hb]
 unfold dig;rw [<- e, Nat.mod_eq_of_lt (by show _ < 4294967296; omega)]
def borS (a b i : Nat) : Int := (((a % BW ^ i : Nat) : Int) - ((b % BW ^ i : Nat) : Int)) / ((BW ^ i : Nat) : Int)
theorem borS_0 (a b : Nat) : borS a b 0 = 0 := by unfold borS; simp [Nat.mod_one]
theorem borS_rng (a b i : Nat) : -1 <= borS a b i /\ borS a b i <= 0 := by
 unfold borS;have h1 := Ydn a i; have h2 := Ydn b i; have h3 := bwp i;generalize BW ^ i = P at *;constructor
 ·exact (Int.le_ediv_iff_mul_le (by omega)).2 (by omega)
 ·exact Int.le_of_lt_add_one ((Int.ediv_lt_iff_lt_mul (by omega)).2 (by omega))
theorem borS_step {a b : Nat} (h : b <= a) (i : Nat) : (borS a b i + (dig a i : Int) - (dig b i : Int)) % (BW : Int) = (dig (a - b) i : Int) /\ (borS a b i + (dig a i : Int) - (dig b i : Int)) / (BW : Int) = borS a b (i + 1) := by
 have hP := bwp i
 have key : (((a % BW ^ (i + 1) : Nat) : Int) - ((b % BW ^ (i + 1) : Nat) : Int)) / ((BW ^ i : Nat) : Int) = borS a b i + (dig a i : Int) - (dig b i : Int) := by
  unfold borS;rw [Ybd, Ybd];generalize dig a i = x; generalize dig b i = y;generalize a % BW ^ i = u; generalize b % BW ^ i = v;generalize BW ^ i = P at *;rw [show ((u + P * x : Nat) : Int) - ((v + P * y : Nat) : Int) = ((u : Int) - v) + ((x : Int) - y) * (P : Int) by rw [Int.natCast_add, Int.natCast_add, Int.natCast_mul, Int.natCast_mul, Int.sub_mul, Int.mul_comm (x : Int), Int.mul_comm (y : Int)]; omega, Int.add_mul_ediv_right _ _ (by omega)];omega
 constructor
 ·rw [<- key]
  have hd : ((a % BW ^ (i + 1) : Nat) : Int) - ((b % BW ^ (i + 1) : Nat) : Int) = ((a - b : Nat) : Int) - ((BW ^ (i + 1) : Nat) : Int) * (((a / BW ^ (i + 1) : Nat) : Int) - ((b / BW ^ (i + 1) : Nat) : Int)) := by
   have e1 := Nat.div_add_mod a (BW ^ (i + 1)); have e2 := Nat.div_add_mod b (BW ^ (i + 1));rw [Int.mul_sub, <- Int.natCast_mul, <- Int.natCast_mul, Int.natCast_sub h];omega
  rw [hd, Nat.pow_succ];generalize ((a / (BW ^ i * BW) : Nat) : Int) - ((b / (BW ^ i * BW) : Nat) : Int) = q;rw [show ((BW ^ i * BW : Nat) : Int) * q = (BW * q) * ((BW ^ i : Nat) : Int) by rw [Int.natCast_mul, Int.mul_comm ((BW ^ i : Nat) : Int), Int.mul_assoc, Int.mul_assoc, Int.mul_comm ((BW ^ i : Nat) : Int)], Int.sub_eq_add_neg, <- Int.neg_mul, Int.add_mul_ediv_right _ _ (by omega), show -((BW : Int) * q) = (BW : Int) * (-q) by rw [Int.mul_neg], Int.add_mul_emod_self_left];unfold dig;rw [<- Int.natCast_ediv, <- Int.natCast_emod]
 ·rw [<- key, Int.ediv_ediv_of_nonneg (by omega), <- Int.natCast_mul, <- Nat.pow_succ]; rfl
theorem borS_next (a b i : Nat) : (borS a b i + (dig a i : Int) - (dig b i : Int)) / (BW : Int) = borS a b (i + 1) := by
 have hP := bwp i
 have key : (((a % BW ^ (i + 1) : Nat) : Int) - ((b % BW ^ (i + 1) : Nat) : Int)) / ((BW ^ i : Nat) : Int) = borS a b i + (dig a i : Int) - (dig b i : Int) := by
  unfold borS;rw [Ybd, Ybd];generalize dig a i = x; generalize dig b i = y;generalize a % BW ^ i = u; generalize b % BW ^ i = v;generalize BW ^ i = P at *;rw [show ((u + P * x : Nat) : Int) - ((v + P * y : Nat) : Int) = ((u : Int) - v) + ((x : Int) - y) * (P : Int) by rw [Int.natCast_add, Int.natCast_add, Int.natCast_mul, Int.natCast_mul, Int.sub_mul, Int.mul_comm (x : Int), Int.mul_comm (y : Int)]; omega, Int.add_mul_ediv_right _ _ (by omega)];omega
 rw [<- key, Int.ediv_ediv_of_nonneg (by omega), <- Int.natCast_mul, <- Nat.pow_succ]; rfl
theorem borS_end {a b n : Nat} (ha : a < BW ^ n) (hb : b < BW ^ n) : borS a b n = 0 ↔ b <= a := by
 unfold borS;rw [YcU ha, YcU hb];have hP := bwp n;generalize BW ^ n = P at *;constructor
 ·intro h;have h2 := Int.emod_nonneg ((a : Int) - b) (show (P : Int) ≠ 0 by omega);have h3 := Int.mul_ediv_add_emod ((a : Int) - b) (P : Int);rw [h] at h3;omega
 ·intro h;exact Int.ediv_eq_zero_of_lt (by omega) (by omega)
theorem Ydu {x y k i : Nat} (h : x % BW ^ k = y % BW ^ k) (hi : i < k) : dig x i = dig y i := by rw [<- dig_low hi, h, dig_low hi]
def carM (q b i : Nat) : Nat := q * (b % BW ^ i) / BW ^ i
theorem carM_0 (q b : Nat) : carM q b 0 = 0 := by unfold carM; simp [Nat.mod_one]
theorem carM_le (q b i : Nat) : carM q b i <= q := by
 unfold carM;have h := Ydn b i;refine Nat.le_of_lt_succ ((Nat.div_lt_iff_lt_mul (bwp i)).2 ?_);exact Nat.lt_of_le_of_lt (Nat.mul_le_mul_left q (Nat.le_of_lt h)) (Nat.mul_lt_mul_of_pos_right (Nat.lt_succ_self q) (bwp i))
theorem carM_step (q b i : Nat) : (carM q b i + q * dig b i) % BW = dig (q * b) i /\ (carM q b i + q * dig b i) / BW = carM q b (i + 1) := by
 have key : q * (b % BW ^ (i + 1)) / BW ^ i = carM q b i + q * dig b i := by
  unfold carM;rw [Ybd, Nat.mul_add, show q * (BW ^ i * dig b i) = BW ^ i * (q * dig b i) by rw [Nat.mul_left_comm], Nat.add_mul_div_left _ _ (bwp i)]
 constructor
 ·rw [<- key];have h : dig (q * b) i = dig (q * (b % BW ^ (i + 1))) i := Ydu (k := i + 1) (by rw [Nat.mul_mod, Nat.mul_mod q (b % _), Nat.mod_mod]) (Nat.lt_succ_self i);rw [h]; rfl
 ·rw [<- key, Nat.div_div_eq_div_mul, <- Nat.pow_succ]; rfl
def mulP (a b i : Nat) : Nat := a % BW ^ i * b
def mulT (a b i j : Nat) : Nat := mulP a b i + dig a i * (b % BW ^ j) * BW ^ i
def mulF (a b i j k : Nat) : Nat := if k < i + j then dig (mulT a b i j) k else dig (mulP a b i) k
def mulC (a b i j : Nat) : Nat := (mulP a b i % BW ^ (i + j) + dig a i * (b % BW ^ j) * BW ^ i) / BW ^ (i + j)
theorem mulC_0 (a b i : Nat) : mulC a b i 0 = 0 := by
 unfold mulC;rw [Nat.pow_zero, Nat.mod_one, Nat.mul_zero, Nat.zero_mul, Nat.add_zero, Nat.add_zero];exact Nat.div_eq_of_lt (Ydn _ _)
theorem mul_num (a b i j : Nat) : mulP a b i % BW ^ (i + j) + dig a i * (b % BW ^ j) * BW ^ i < BW ^ (i + j) * BW := by
 have h1 := Ydn (mulP a b i) (i + j);have h2 := Ydn b j;have h3 := YdU a i
 have h4 : dig a i * (b % BW ^ j) * BW ^ i <= (BW - 1) * BW ^ (i + j) := by
  rw [Nat.pow_add, Nat.mul_comm (BW ^ i), <- Nat.mul_assoc];refine Nat.mul_le_mul_right _ (Nat.mul_le_mul ?_ (Nat.le_of_lt h2));show _ <= 4294967296 - 1
  have : dig a i < 4294967296 := h3;omega
 have h5 : (BW - 1) * BW ^ (i + j) + BW ^ (i + j) = BW ^ (i + j) * BW := by
  rw [<- Nat.succ_mul, Nat.mul_comm];rfl
 omega
theorem mulC_lt (a b i j : Nat) : mulC a b i j < BW := (Nat.div_lt_iff_lt_mul (bwp _)).2 (by rw [Nat.mul_comm BW]; exact mul_num a b i j)
theorem mulC_step (a b i j : Nat) : (mulC a b i j + dig a i * dig b j + dig (mulP a b i) (i + j)) % BW = dig (mulT a b i (j + 1)) (i + j) /\ (mulC a b i j + dig a i * dig b j + dig (mulP a b i) (i + j)) / BW = mulC a b i (j + 1) := by
 have key : (mulP a b i % BW ^ (i + j + 1) + dig a i * (b % BW ^ (j + 1)) * BW ^ i) / BW ^ (i + j) = mulC a b i j + dig a i * dig b j + dig (mulP a b i) (i + j) := by
  unfold mulC
  rw [Ybd, Ybd, Nat.mul_add, Nat.add_mul, show dig a i * (BW ^ j * dig b j) * BW ^ i = BW ^ (i + j) * (dig a i * dig b j) by rw [Nat.pow_add]; ac_rfl,
   show mulP a b i % BW ^ (i + j) + BW ^ (i + j) * dig (mulP a b i) (i + j) + (dig a i * (b % BW ^ j) * BW ^ i + BW ^ (i + j) * (dig a i * dig b j)) = (mulP a b i % BW ^ (i + j) + dig a i * (b % BW ^ j) * BW ^ i) + BW ^ (i + j) * (dig a i * dig b j + dig (mulP a b i) (i + j)) by rw [Nat.mul_add]; omega, Nat.add_mul_div_left _ _ (bwp _), <- Nat.add_assoc]
 constructor
 ·rw [<- key];have h : dig (mulT a b i (j + 1)) (i + j) = dig (mulP a b i % BW ^ (i + j + 1) + dig a i * (b % BW ^ (j + 1)) * BW ^ i) (i + j) := Ydu (k := i + j + 1) (by unfold mulT; rw [Nat.mod_add_mod]) (Nat.lt_succ_self _);rw [h]; rfl
 ·rw [<- key, Nat.div_div_eq_div_mul, <- Nat.pow_succ]; rfl
theorem mulF_step {a b i j k : Nat} (hk : k ≠ i + j) : mulF a b i (j + 1) k = mulF a b i j k := by
 unfold mulF
 by_cases h : k < i + j
 ·rw [if_pos h, if_pos (by omega)];refine Ydu (k := i + j) ?_ h;unfold mulT;rw [Ybd, Nat.mul_add, Nat.add_mul, show dig a i * (BW ^ j * dig b j) * BW ^ i = BW ^ (i + j) * (dig a i * dig b j) by rw [Nat.pow_add]; ac_rfl, <- Nat.add_assoc, Nat.add_mul_mod_self_left]
 ·rw [if_neg h, if_neg (by omega)]
theorem mulF_at (a b i j : Nat) : mulF a b i (j + 1) (i + j) = dig (mulT a b i (j + 1)) (i + j) := if_pos (by omega)
theorem mulF_0 (a b i k : Nat) : mulF a b i 0 k = dig (mulP a b i) k := by
 unfold mulF mulT;rw [Nat.pow_zero, Nat.mod_one, Nat.mul_zero, Nat.zero_mul, Nat.add_zero, Nat.add_zero];split <;> rfl
theorem mulP_next {a b m : Nat} (hb : b < BW ^ m) (i : Nat) : mulT a b i m = mulP a b (i + 1) := by
 unfold mulT mulP;rw [YcU hb, Ybd, Nat.add_mul];congr 1
 ac_rfl
theorem mulP_lt {a b m : Nat} (hb : b < BW ^ m) (i : Nat) : mulP a b i < BW ^ (i + m) := by
 unfold mulP;rw [Nat.pow_add];exact Nat.mul_lt_mul'' (Ydn a i) hb
theorem mulC_end {a b m : Nat} (hb : b < BW ^ m) (i : Nat) : mulC a b i m = dig (mulP a b (i + 1)) (i + m) := by
 have h1 : mulC a b i m = mulP a b (i + 1) / BW ^ (i + m) := by
  unfold mulC;rw [YcU (mulP_lt hb i), <- mulP_next hb]; rfl
 have h2 := mulC_lt a b i m;unfold dig;rw [<- h1, Nat.mod_eq_of_lt h2]
theorem mulF_end {a b m : Nat} (hb : b < BW ^ m) (i k : Nat) (hk : k ≠ i + m) : mulF a b i m k = dig (mulP a b (i + 1)) k := by
 unfold mulF
 by_cases h : k < i + m
 ·rw [if_pos h, mulP_next hb]
 ·rw [if_neg h, Ydt, Ydt]
  ·exact Nat.lt_of_lt_of_le (mulP_lt hb (i + 1)) (Nat.pow_le_pow_right Ycn (by omega))
  ·exact Nat.lt_of_lt_of_le (mulP_lt hb i) (Nat.pow_le_pow_right Ycn (by omega))
theorem mulP_all {a b n : Nat} (ha : a < BW ^ n) : mulP a b n = a * b := by unfold mulP; rw [YcU ha]
theorem mulP_0 (a b : Nat) : mulP a b 0 = 0 := by unfold mulP; rw [Nat.pow_zero, Nat.mod_one, Nat.zero_mul]
theorem dw_step {a w : Nat} (hw : 0 < w) (i : Nat) : (BW * (a / BW ^ (i + 1) % w) + dig a i) / w = dig (a / w) i /\ (BW * (a / BW ^ (i + 1) % w) + dig a i) % w = a / BW ^ i % w := by
 have h := YeO a i;have hd := YdU a i;generalize dig a i = d at *;generalize hX : a / BW ^ (i + 1) = X at *;have hX2 := Nat.div_add_mod X w;have hm := Nat.mod_lt X hw
 have e : a / BW ^ i = (BW * (X % w) + d) + w * (BW * (X / w)) := by
  rw [h]
  conv => lhs; rw [<- hX2]
  rw [Nat.mul_add, Nat.mul_left_comm];omega
 have hq : (BW * (X % w) + d) / w < BW := by
  refine (Nat.div_lt_iff_lt_mul hw).2 ?_;have : BW * (X % w) + BW <= BW * w := by rw [<- Nat.mul_succ]; exact Nat.mul_le_mul_left _ hm
  omega
 constructor
 ·unfold dig;rw [Nat.div_div_eq_div_mul, Nat.mul_comm w, <- Nat.div_div_eq_div_mul, e, Nat.add_mul_div_left _ _ hw, Nat.add_mul_mod_self_left, Nat.mod_eq_of_lt hq]
 ·rw [e, Nat.add_mul_mod_self_left]
def shL (a s i : Nat) : Nat := a % BW ^ i * 2 ^ s
theorem shL_0 (a s : Nat) : shL a s 0 = 0 := by unfold shL; simp [Nat.mod_one]
theorem shL_lt (a s i : Nat) : shL a s i / BW ^ i < 2 ^ s := by
 unfold shL;refine (Nat.div_lt_iff_lt_mul (bwp i)).2 ?_;rw [Nat.mul_comm];exact Nat.mul_lt_mul_of_pos_left (Ydn a i) (Nat.pow_pos (by decide))
theorem shL_next (a s i : Nat) : shL a s (i + 1) = shL a s i + BW ^ i * (dig a i * 2 ^ s) := by
 unfold shL;rw [Ybd, Nat.add_mul, Nat.mul_assoc]
theorem shL_div (a s i : Nat) : shL a s (i + 1) / BW ^ i = shL a s i / BW ^ i + dig a i * 2 ^ s := by rw [shL_next, Nat.add_mul_div_left _ _ (bwp i)]
theorem two_sN {s : Nat} (h : s < 32) : 2 ^ s * 2 ^ (32 - s) = BW := by rw [<- Nat.pow_add, show s + (32 - s) = 32 by omega]
theorem mul_mod_s {x s : Nat} (h : s < 32) : x * 2 ^ s % BW = (x % 2 ^ (32 - s)) * 2 ^ s := by
 rw [<- two_sN h, Nat.mul_comm x, Nat.mul_mod_mul_left, Nat.mul_comm]
theorem shL_at {a s i : Nat} (h : s < 32) : dig (shL a s (i + 1)) i = dig (shL a s i) i + dig a i * 2 ^ s % BW /\ dig (shL a s (i + 1)) (i + 1) = dig a i * 2 ^ s / BW /\ dig (shL a s i) i < 2 ^ s := by
  have h1 := shL_lt a s i;have h2 : 2 ^ s <= 2 ^ 31 := Nat.pow_le_pow_right (by decide) (by omega);have hb : 2 ^ s <= BW := ZnT h2 (by decide);have e0 : dig (shL a s i) i = shL a s i / BW ^ i := by unfold dig; exact Nat.mod_eq_of_lt (Nat.lt_of_lt_of_le h1 hb)
  have e1 := shL_div a s i;have h3 := mul_mod_s (x := dig a i) h
  have h4 : dig a i * 2 ^ s % BW + 2 ^ s <= BW := by
    rw [h3, <- two_sN h];have := Nat.mod_lt (dig a i) (show 0 < 2 ^ (32 - s) from Nat.pow_pos (by decide))
    calc dig a i % 2 ^ (32 - s) * 2 ^ s + 2 ^ s = (dig a i % 2 ^ (32 - s) + 1) * 2 ^ s := by rw [Nat.succ_mul]
      _ <= 2 ^ (32 - s) * 2 ^ s := Nat.mul_le_mul_right _ this
      _ = 2 ^ s * 2 ^ (32 - s) := Nat.mul_comm _ _
  have key : (shL a s i / BW ^ i + dig a i * 2 ^ s) = BW * (dig a i * 2 ^ s / BW) + (shL a s i / BW ^ i + dig a i * 2 ^ s % BW) := by
    have := Nat.div_add_mod (dig a i * 2 ^ s) BW;omega
  have hs2 : 2 ^ s < BW := Nat.lt_of_le_of_lt h2 (by decide);have hx := YdU a i;refine ⟨?_, ?_, by rw [e0]; exact h1⟩
  · rw [e0]
    have e3 : dig (shL a s (i + 1)) i = (shL a s i / BW ^ i + dig a i * 2 ^ s) % BW := by conv => lhs; unfold dig; rw [e1]
    rw [e3, key, Nat.mul_add_mod, Nat.mod_eq_of_lt (Nat.lt_of_lt_of_le (Nat.add_lt_add_right h1 _) (by rw [Nat.add_comm]; exact h4))]
  · have e3 : dig (shL a s (i + 1)) (i + 1) = (shL a s i / BW ^ i + dig a i * 2 ^ s) / BW % BW := by conv => lhs; unfold dig; rw [Nat.pow_succ, <- Nat.div_div_eq_div_mul, e1]
    rw [e3, key, Nat.mul_add_div Ycn, Nat.div_eq_of_lt (Nat.lt_of_lt_of_le (Nat.add_lt_add_right h1 _) (by rw [Nat.add_comm]; exact h4)), Nat.add_zero];exact Nat.mod_eq_of_lt ((Nat.div_lt_iff_lt_mul Ycn).2 (Nat.mul_lt_mul'' hx hs2))
theorem shL_all {a s n : Nat} (h : a < BW ^ n) : shL a s n = a * 2 ^ s := by unfold shL; rw [YcU h]
theorem shL_keep {a s i k : Nat} (h : k < i) : dig (shL a s (i + 1)) k = dig (shL a s i) k := by
 refine Ydu (k := i) ?_ h;rw [shL_next, Nat.add_mul_mod_self_left]
theorem shL_zero {a s i k : Nat} (hs : s < 32) (h : i < k) : dig (shL a s i) k = 0 := by
 refine Ydt ?_;have h1 := shL_lt a s i;have h2 : 2 ^ s <= BW := by rw [<- two_sN hs]; exact Nat.le_mul_of_pos_right _ (Nat.pow_pos (by decide))
 have h3 : shL a s i < BW ^ (i + 1) := by
  rw [Nat.pow_succ];have := (Nat.div_lt_iff_lt_mul (bwp i)).1 (Nat.lt_of_lt_of_le h1 h2);rwa [Nat.mul_comm] at this
 exact Nat.lt_of_lt_of_le h3 (Nat.pow_le_pow_right Ycn h)
theorem shr_at (R s i : Nat) (hs : s < 32) : (dig R i + BW * dig R (i + 1)) / 2 ^ s % BW = dig (R / 2 ^ s) i := by
 have h1 : dig R i + BW * dig R (i + 1) = R / BW ^ i % (BW * BW) := by
  unfold dig;rw [Nat.pow_succ, <- Nat.div_div_eq_div_mul];generalize R / BW ^ i = X;rw [Nat.mod_mul]
 have h2 : dig (R / 2 ^ s) i = R / BW ^ i / 2 ^ s % BW := by unfold dig; rw [Nat.div_div_eq_div_mul, Nat.div_div_eq_div_mul, Nat.mul_comm]
 rw [h1, h2];generalize R / BW ^ i = X
 have h3 : X % (BW * BW) / 2 ^ s % BW = X / 2 ^ s % BW := by
  have e : BW * BW = 2 ^ s * (BW * 2 ^ (32 - s)) := by rw [Nat.mul_left_comm, two_sN hs]
  rw [e, Nat.mod_mul_right_div_self, Nat.mod_mul_right_mod]
 exact h3
theorem q_first {N V n : Nat} (hN : N < V * BW) (hv : 0 < V / BW ^ (n - 1)) :
 N / V <= (if N / BW ^ n < V / BW ^ (n - 1) then N / BW ^ (n - 1) / (V / BW ^ (n - 1)) else BW - 1) := by
 have hV0 : 0 < V := by
  rcases Nat.eq_zero_or_pos V with h | h
  ·subst h; rw [Nat.zero_div] at hv; omega
  ·exact h
 split
 ·have h1 : V / BW ^ (n - 1) * BW ^ (n - 1) <= V := Nat.div_mul_le_self _ _;rw [Nat.div_div_eq_div_mul, Nat.mul_comm];exact Nat.div_le_div_left h1 (Nat.mul_pos hv (bwp _))
 ·have : N / V < BW := (Nat.div_lt_iff_lt_mul hV0).2 (by rw [Nat.mul_comm]; exact hN);omega
theorem q_lt {N V n : Nat} (hn : 0 < n) (h : N / BW ^ n < V / BW ^ (n - 1)) : N / BW ^ (n - 1) / (V / BW ^ (n - 1)) < BW := by
 refine (Nat.div_lt_iff_lt_mul (Nat.lt_of_le_of_lt (ZnZ _) h)).2 ?_
 have e : N / BW ^ n = N / BW ^ (n - 1) / BW := by
  rw [Nat.div_div_eq_div_mul, <- Nat.pow_succ]; congr 2; omega
 rw [e] at h;rw [Nat.mul_comm BW];exact (Nat.div_lt_iff_lt_mul Ycn).1 h
theorem q_done {N V q : Nat} (hV : 0 < V) (h1 : N / V <= q) (h2 : q * V <= N) : q = N / V := Nat.le_antisymm ((Nat.le_div_iff_mul_le hV).2 h2) h1
theorem q_more {N V q : Nat} (h1 : N / V <= q) (h2 : ¬ q * V <= N) : 0 < q /\ N / V <= q - 1 := by
 have h3 : N / V ≠ q := fun h => h2 (by rw [<- h]; exact Nat.div_mul_le_self _ _)
 generalize N / V = z at *;omega
def remJ (A V j : Nat) : Nat := A / BW ^ j % V
def winJ (A V j : Nat) : Nat := BW * remJ A V (j + 1) + dig A j
theorem win_step {A V : Nat} (hV : 0 < V) (j : Nat) : winJ A V j / V = dig (A / V) j /\ winJ A V j % V = remJ A V j := dw_step hV j
theorem win_lt {A V : Nat} (hV : 0 < V) (j : Nat) : winJ A V j < V * BW := by
 unfold winJ remJ;have h1 := Nat.mod_lt (A / BW ^ (j + 1)) hV;have h2 := YdU A j;have h3 : BW * (A / BW ^ (j + 1) % V) + BW <= BW * V := by rw [<- Nat.mul_succ]; exact Nat.mul_le_mul_left _ h1
 rw [Nat.mul_comm V];omega
def uF (A V j n k : Nat) : Nat := if k < j then dig A k else if k < j + n then dig (remJ A V j) (k - j) else 0
theorem uF_win {A V j n i : Nat} (hV : V < BW ^ n) (hV0 : 0 < V) (hi : i <= n) : uF A V (j + 1) n (j + i) = dig (winJ A V j) i := by
 have hd := YdU A j;have hr : remJ A V (j + 1) < BW ^ n := Nat.lt_trans (Nat.mod_lt _ hV0) hV
 have hw : ∀ m, dig (winJ A V j) (m + 1) = dig (remJ A V (j + 1)) m := fun m => by
  unfold dig winJ;rw [Nat.pow_succ', <- Nat.div_div_eq_div_mul, Nat.mul_add_div Ycn, Nat.div_eq_of_lt hd, Nat.add_zero]
 unfold uF
 cases i with
 | zero =>
  rw [if_pos (by omega)];show dig A j = winJ A V j / BW ^ 0 % BW
  rw [Nat.pow_zero, Nat.div_one];unfold winJ
  rw [Nat.mul_add_mod, Nat.mod_eq_of_lt hd]
 | succ m =>
  rw [if_neg (by omega), hw]
  by_cases h : m < n
  ·rw [if_pos (by omega), show j + (m + 1) - (j + 1) = m by omega]
  ·omega
theorem uF_next {A V j n k : Nat} (hV : V < BW ^ n) (hV0 : 0 < V) : uF A V j n k = if k < j then uF A V (j + 1) n k else if k <= j + n then dig (winJ A V j % V) (k - j) else uF A V (j + 1) n k := by
 rw [(win_step hV0 j).2];have hr : remJ A V j < BW ^ n := Nat.lt_trans (Nat.mod_lt _ hV0) hV;unfold uF
 by_cases h1 : k < j
 ·rw [if_pos h1, if_pos h1, if_pos (by omega)]
 ·rw [if_neg h1, if_neg h1]
  by_cases h2 : k < j + n
  ·rw [if_pos h2, if_pos (by omega)]
  ·rw [if_neg h2]
   by_cases h3 : k <= j + n
   ·rw [if_pos h3, show k - j = n by omega, Ydt hr]
   ·rw [if_neg h3, if_neg (by omega), if_neg (by omega)]
theorem uF_top {A V la n k : Nat} (hn : n <= la) (h : A / BW ^ (la - n + 1) < V) : uF A V (la - n + 1) n k = if k < la + 1 then dig A k else 0 := by
 unfold uF remJ;rw [Nat.mod_eq_of_lt h]
 by_cases h1 : k < la - n + 1
 ·rw [if_pos h1, if_pos (by omega)]
 ·rw [if_neg h1]
  by_cases h2 : k < la + 1
  ·rw [if_pos (by omega), if_pos h2];unfold dig;rw [Nat.div_div_eq_div_mul, <- Nat.pow_add, show la - n + 1 + (k - (la - n + 1)) = k by omega]
  ·rw [if_neg (by omega), if_neg h2]
theorem uF_end {A V n k : Nat} (hV : V < BW ^ n) (hV0 : 0 < V) : uF A V 0 n k = dig (A % V) k := by
 have hr : A % V < BW ^ n := Nat.lt_trans (Nat.mod_lt _ hV0) hV;unfold uF remJ;rw [if_neg (by omega), Nat.pow_zero, Nat.div_one]
 by_cases h : k < 0 + n
 ·rw [if_pos h]; rfl
 ·rw [if_neg h, Ydt (Nat.lt_of_lt_of_le hr (Nat.pow_le_pow_right Ycn (by omega)))]
theorem sh_div {a b s : Nat} : a * 2 ^ s / (b * 2 ^ s) = a / b /\ a * 2 ^ s % (b * 2 ^ s) / 2 ^ s = a % b :=
 ⟨Nat.mul_div_mul_right _ _ (Nat.pow_pos (by decide)), by rw [Nat.mul_mod_mul_right, Nat.mul_div_cancel _ (Nat.pow_pos (by decide))]⟩
def decV (l : List UInt8) : Nat := l.foldl (fun v c => 10 * v + (c.toNat - 48)) 0
theorem decV_from (l : List UInt8) : ∀ v : Nat, l.foldl (fun v c => 10 * v + (c.toNat - 48)) v = v * 10 ^ l.length + decV l := by
 induction l with
 | nil => intro v; simp [decV]
 | cons c l ih =>
  intro v;unfold decV;rw [List.foldl_cons, List.foldl_cons, ih, ih, List.length_cons, Nat.pow_succ, Nat.add_mul, Nat.add_mul, Nat.mul_comm 10 v, Nat.mul_assoc, Nat.mul_comm 10 (10 ^ _)];omega
theorem YfK (l r : List UInt8) : decV (l ++ r) = decV l * 10 ^ r.length + decV r := by
 conv => lhs; unfold decV
 rw [List.foldl_append, decV_from]; rfl
theorem decV_snoc (l : List UInt8) (c : UInt8) : decV (l ++ [c]) = 10 * decV l + (c.toNat - 48) := by
 rw [YfK];show decV l * 10 ^ 1 + (10 * 0 + (c.toNat - 48)) = _
 omega
def Yfl (c : UInt8) : Bool := decide (48 <= c.toNat) && decide (c.toNat <= 57)
theorem decV_lt : ∀ l : List UInt8, (∀ c ∈ l, Yfl c = true) -> decV l < 10 ^ l.length := by
 intro l
 induction l with
 | nil => intro _; decide
 | cons c l ih =>
  intro h;have h1 := ih fun d hd => h d (List.mem_cons_of_mem _ hd)
  have h2 := h c List.mem_cons_self;unfold Yfl at h2;simp only [ZbA, decide_eq_true_eq] at h2
  have e : decV (c :: l) = (c.toNat - 48) * 10 ^ l.length + decV l := by
   have := YfK [c] l;rw [show decV [c] = c.toNat - 48 by simp [decV]] at this;exact this
  rw [e, List.length_cons, Nat.pow_succ];have h3 : (c.toNat - 48) * 10 ^ l.length <= 9 * 10 ^ l.length := Nat.mul_le_mul_right _ (by omega);omega
def carX (a sc c i : Nat) : Nat := (c + sc * (a % BW ^ i)) / BW ^ i
theorem carX_0 (a sc c : Nat) : carX a sc c 0 = c := by unfold carX; simp [Nat.mod_one]
theorem carX_le {a sc c i : Nat} (h : c <= sc) : carX a sc c i <= sc := by
 unfold carX;have h1 := Ydn a i;refine Nat.le_of_lt_succ ((Nat.div_lt_iff_lt_mul (bwp i)).2 ?_);have h2 : sc * (a % BW ^ i) + sc <= sc * BW ^ i := by rw [<- Nat.mul_succ]; exact Nat.mul_le_mul_left _ h1
 have h3 := bwp i;rw [Nat.succ_mul];omega
theorem carX_step (a sc c i : Nat) : (carX a sc c i + sc * dig a i) % BW = dig (c + sc * a) i /\ (carX a sc c i + sc * dig a i) / BW = carX a sc c (i + 1) := by
 have key : (c + sc * (a % BW ^ (i + 1))) / BW ^ i = carX a sc c i + sc * dig a i := by
  unfold carX;rw [Ybd, Nat.mul_add, show sc * (BW ^ i * dig a i) = BW ^ i * (sc * dig a i) by rw [Nat.mul_left_comm], <- Nat.add_assoc, Nat.add_mul_div_left _ _ (bwp i)]
 constructor
 ·rw [<- key];have h : dig (c + sc * a) i = dig (c + sc * (a % BW ^ (i + 1))) i := Ydu (k := i + 1) (by rw [Nat.add_mod, Nat.mul_mod, Nat.add_mod c (sc * (a % _)), Nat.mul_mod sc (a % _), Nat.mod_mod]) (Nat.lt_succ_self i);rw [h]; rfl
 ·rw [<- key, Nat.div_div_eq_div_mul, <- Nat.pow_succ]; rfl
theorem carX_end {a sc c n : Nat} (h : a < BW ^ n) : carX a sc c n = (c + sc * a) / BW ^ n := by unfold carX; rw [YcU h]
end
section
open Go.RowKit
section
variable {P : Program} {B : Nat} {ops : Array Oper} {o : Oper} {e : Env} {σ : Obs}
theorem AOp.andG {t ty : TypeId} {x y : Operand} {a b : Int} {k : IntKind} (ho : o.op = .binOp .and t x y ty) (hx : e.ev x = .d (.v (.int k a))) (hy : e.ev y = .d (.v (.int k b))) : AOp P B ops o e σ (.d (.v (.int k (bits .and k a b)))) :=
 .bin ho hx hy fun w => by
  rw [Sem.run_bind, Yak];simp only [Result.andThen_ok, binOp];rw [if_neg (fun h => h rfl)];rfl
theorem AOp.orG {t ty : TypeId} {x y : Operand} {a b : Int} {k : IntKind} (ho : o.op = .binOp .or t x y ty) (hx : e.ev x = .d (.v (.int k a))) (hy : e.ev y = .d (.v (.int k b))) : AOp P B ops o e σ (.d (.v (.int k (bits .or k a b)))) :=
 .bin ho hx hy fun w => by
  rw [Sem.run_bind, Yak];simp only [Result.andThen_ok, binOp];rw [if_neg (fun h => h rfl)];rfl
theorem AOp.shrG {t ty : TypeId} {x y : Operand} {a n : Int} {k j : IntKind} (ho : o.op = .binOp .shr t x y ty) (hx : e.ev x = .d (.v (.int k a))) (hy : e.ev y = .d (.v (.int j n))) (h0 : 0 <= n) (h1 : n <= k.bits) : AOp P B ops o e σ (.d (.v (.int k (a / 2 ^ n.toNat)))) :=
 .bin ho hx hy fun w => by
 rw [Sem.run_bind, Yak];simp only [Result.andThen_ok, binOp, Op.shift];rw [if_neg (by omega)];have h2 : Min.min n.toNat k.bits = n.toNat := by omega
 rw [h2];simp only [Sem.run_pure];congr 3;exact Int.fdiv_eq_ediv_of_nonneg _ (Int.le_of_lt (Int.pow_pos (by decide)))
theorem AOp.shlG {t ty : TypeId} {x y : Operand} {a n : Int} {k j : IntKind} (ho : o.op = .binOp .shl t x y ty) (hx : e.ev x = .d (.v (.int k a))) (hy : e.ev y = .d (.v (.int j n))) (h0 : 0 <= n) (h1 : n <= k.bits) : AOp P B ops o e σ (.d (.v (.int k (k.wrap (a * 2 ^ n.toNat))))) :=
 .bin ho hx hy fun w => by
 rw [Sem.run_bind, Yak];simp only [Result.andThen_ok, binOp, Op.shift];rw [if_neg (by omega)];have h2 : Min.min n.toNat k.bits = n.toNat := by omega
 rw [h2];simp only [Sem.run_pure]
theorem AOp.neg64 {t : TypeId} {x : Operand} {n : Int} (ho : o.op = .unOp .neg t x) (hx : e.ev x = .d (.v (.int .i64 n))) (h0 : -9223372036854775807 <= n) (h1 : n <= 9223372036854775807) : AOp P B ops o e σ (.d (.v (.int .i64 (-n)))) := .value fun F ρ w a hF hr _ => by
 have h2 := hr x (by rw [ho]; simp [Op.operands]);rw [hx] at h2;refine ⟨_, F, w, ?_, .d (.v _), Ext.refl hF⟩;unfold execOp;simp only [ho, Yav h2, Op.unary, Op.intArith];rw [show (0 : Int) - n = -n by omega, w64 (by omega) (by omega)];rfl
end
namespace Ty
theorem Yaj : Yfp Tryz.prog 171 173 .u64 = true := by kernel_rfl
theorem Yan : Yfp Tryz.prog 173 171 .u32 = true := by kernel_rfl
theorem et_118 : ElemTy Tryz.prog 118 171 1 4 (.int .u32 0) := ⟨by kernel_rfl, by kernel_rfl, by kernel_rfl, by decide⟩
theorem YaF : Scal Tryz.prog 171 := .of (by kernel_rfl)
theorem Yc5 : ∀ w, (sizeOf 171).run Tryz.prog w = .ok 1 w := SizeT.of (by kernel_rfl)
end Ty
open Ty
theorem u64n {n : Nat} (h : n < 18446744073709551616) : IntKind.u64.wrap (n : Int) = (n : Int) := by rw [IntKind.wrap_u64]; omega
theorem u32m (n : Nat) : IntKind.u32.wrap (n : Int) = ((n % BW : Nat) : Int) := by rw [IntKind.wrap_u32']; show (n : Int) % 4294967296 = ((n % 4294967296 : Nat) : Int); omega
theorem shr32 (n : Nat) : (n : Int) / 2 ^ (32 : Int).toNat = ((n / BW : Nat) : Int) := by show (n : Int) / 4294967296 = ((n / 4294967296 : Nat) : Int); omega
theorem Yc3 (n i : Nat) : IntKind.u64.wrap (dig n i : Int) = (dig n i : Int) := u64n (Nat.lt_trans (YdU n i) (by decide))
theorem digB (n i : Nat) : dig n i < 4294967296 := YdU n i
theorem SLe.kn {k : IntKind} {a b : Int} (h : a = b) : SLe (S.d (D.v (Value.int k a))) (S.d (D.v (Value.int k b))) := SLe.of_eq (by rw [h])
theorem Yay {id e s : Nat} {a b : List (List D)} {τ : Obs} (h : a = b) : ∀ p ∈ [(id, Ob.row e s b)], p ∈ (id, Ob.row e s a) :: τ := fun p hp => by
 rcases List.mem_cons.1 hp with rfl | hp
 ·rw [h]; exact .head _
 ·cases hp
def wsD (f : Nat -> Nat) (n : Nat) : List (List D) := (List.range n).map fun k => u32D (f k)
def natW (n : Nat) : List (List D) := wsD (dig n) (wl n)
theorem YaD (f : Nat -> Nat) (n : Nat) : (wsD f n).length = n := by simp [wsD]
theorem Yaf (n : Nat) : (natW n).length = wl n := YaD _ _
theorem Yas {f : Nat -> Nat} {n k : Nat} (h : k < n) : (wsD f n)[k]? = some (u32D (f k)) := by simp [wsD, h]
theorem wsD_one (f : Nat -> Nat) (n : Nat) : ∀ y ∈ wsD f n, y.length = 1 := fun y hy => by obtain ⟨c, _, rfl⟩ := ZmM.1 hy; rfl
theorem Ybf {f g : Nat -> Nat} {n : Nat} (h : ∀ k, k < n -> f k = g k) : wsD f n = wsD g n := by
 unfold wsD;exact List.map_congr_left fun k hk => by rw [h k (List.mem_range.1 hk)]
theorem YdX {f g : Nat -> Nat} {n k v : Nat} (hk : k < n) (h : ∀ i, i < n -> g i = if i = k then v else f i) : (wsD f n).set k (u32D v) = wsD g n := by
 unfold wsD;refine List.ext_getElem (by simp) fun i h1 h2 => ?_
 have hi : i < n := by simpa using h2
 rw [List.getElem_set, ZgP, ZgP, List.getElem_range, h i hi]
 by_cases e : k = i
 ·subst e; simp
 ·rw [if_neg e, if_neg (fun hh => e hh.symm)]
theorem Yfr (n : Nat) : List.replicate n [D.v (.int .u32 0)] = wsD (fun _ => 0) n := by
 unfold wsD;exact (List.eq_replicate_iff.2 ⟨by simp, fun x hx => by obtain ⟨i, _, rfl⟩ := ZmM.1 hx; rfl⟩).symm
theorem wsD_take {f : Nat -> Nat} {n m : Nat} (h : m <= n) : (wsD f n).take m = wsD f m := by
 unfold wsD;rw [<- List.map_take, List.take_range, Nat.min_eq_left h]
theorem wsD_2 (f : Nat -> Nat) : wsD f 2 = [u32D (f 0), u32D (f 1)] := rfl
theorem YeK {n m : Nat} (h : n < BW ^ m) (h2 : m = 0 \/ dig n (m - 1) ≠ 0) : wsD (dig n) m = natW n := by unfold natW; rw [wl_eq h h2]
theorem lt_two {n : Nat} (h : n < 18446744073709551616) : n < BW ^ 2 := h
theorem dig_0 (n : Nat) : dig n 0 = n % BW := by unfold dig; rw [Nat.pow_zero, Nat.div_one]
theorem dgt_1 (n : Nat) : dig n 1 = n / BW % BW := by unfold dig; rw [Nat.pow_one]
def smN (n : Nat) : Nat := if n < BW ^ 2 then n else 0
def smB (n : Nat) : Bool := decide (n < BW ^ 2)
theorem YgA {x y : Nat} (hx : x < 4294967296) (hy : y < 4294967296) : bits .or .u64 (x : Int) (IntKind.u64.wrap ((y : Int) * 2 ^ (32 : Int).toNat)) = ((x + BW * y : Nat) : Int) := by
 have h1 : IntKind.u64.wrap ((y : Int) * 2 ^ (32 : Int).toNat) = ((y * 4294967296 : Nat) : Int) := by
  rw [show (2 : Int) ^ (32 : Int).toNat = 4294967296 from rfl, show (y : Int) * 4294967296 = ((y * 4294967296 : Nat) : Int) by omega, u64n (by omega)]
 rw [h1];have h2 : bits .or .u64 (x : Int) ((y * 4294967296 : Nat) : Int) = IntKind.u64.wrap (((BitVec.ofInt 64 (x : Int) ||| BitVec.ofInt 64 ((y * 4294967296 : Nat) : Int)).toNat : Nat) : Int) := rfl
 have h3 : (BitVec.ofInt 64 (x : Int) ||| BitVec.ofInt 64 ((y * 4294967296 : Nat) : Int)).toNat = x + BW * y := by
  rw [BitVec.or_comm, BitVec.toNat_or, BitVec.ofInt_natCast, BitVec.ofInt_natCast, BitVec.toNat_ofNat, BitVec.toNat_ofNat, Nat.mod_eq_of_lt (by omega), Nat.mod_eq_of_lt (by omega)];have := Nat.shiftLeft_add_eq_or_of_lt (show x < 2 ^ 32 by omega) y;rw [Nat.shiftLeft_eq] at this;rw [show y * 4294967296 = y * 2 ^ 32 from rfl, <- this];show y * 4294967296 + x = x + 4294967296 * y
  omega
 rw [h2, h3, u64n (by show x + 4294967296 * y < _; omega)]
theorem sm_0 {n : Nat} (h : wl n = 0) : n = 0 := wl_eq_zero.1 h
theorem sm_1 {n : Nat} (h : wl n <= 1) : dig n 0 = n := by
 have h1 := wl_le.1 h;rw [Nat.pow_one] at h1;rw [dig_0, Nat.mod_eq_of_lt h1]
theorem sm_2 {n : Nat} (h : wl n <= 2) : dig n 0 + BW * dig n 1 = n := by
 have h1 := wl_le.1 h;have h2 : n / BW < BW := (Nat.div_lt_iff_lt_mul Ycn).2 (by rw [<- Nat.pow_two]; exact h1);rw [dig_0, dgt_1, Nat.mod_eq_of_lt h2, Nat.add_comm];exact Nat.div_add_mod n BW
def cmpN (a b : Nat) : Int := if a < b then -1 else if b < a then 1 else 0
theorem cmp_wl {a b : Nat} (h : wl a < wl b) : a < b := Nat.lt_of_not_le fun hh => by have := YeB hh; omega
theorem hi_eq {a b k : Nat} (h : a / BW ^ (k + 1) = b / BW ^ (k + 1)) (h2 : dig a k = dig b k) : a / BW ^ k = b / BW ^ k := by rw [YeO a, YeO b, h, h2]
theorem hi_lt {a b k : Nat} (h : a / BW ^ (k + 1) = b / BW ^ (k + 1)) (h2 : dig a k < dig b k) : a < b := by
 refine Nat.lt_of_not_le fun hh => ?_
 have h3 := Nat.div_le_div_right (c := BW ^ k) hh;rw [YeO a, YeO b, h] at h3;omega
def hiA (a b : Nat) : Nat := if wl a < wl b then b else a
def loA (a b : Nat) : Nat := if wl a < wl b then a else b
theorem hilo (a b : Nat) : hiA a b + loA a b = a + b /\ wl (loA a b) <= wl (hiA a b) /\ (hiA a b = a \/ hiA a b = b) := by
 unfold hiA loA;split
 ·exact ⟨Nat.add_comm _ _, by omega, .inr J⟩
 ·exact ⟨J, by omega, .inl J⟩
theorem add_u {x y : Nat} (h : x + y < 18446744073709551616) : IntKind.u64.wrap ((x : Int) + (y : Int)) = ((x + y : Nat) : Int) := by rw [<- Int.natCast_add]; exact u64n h
def accF (f : Nat -> Nat) (i k : Nat) : Nat := if k < i then f k else 0
theorem YeA {f : Nat -> Nat} {i n : Nat} (h : i < n) : (wsD (accF f i) n).set i (u32D (f i)) = wsD (accF f (i + 1)) n := YdX h fun k hk => by
 unfold accF
 by_cases e : k = i
 ·subst e; rw [if_pos (by omega), if_pos rfl]
 ·rw [if_neg e]
  by_cases h2 : k < i
  ·rw [if_pos h2, if_pos (by omega)]
  ·rw [if_neg h2, if_neg (by omega)]
theorem YfO (f : Nat -> Nat) (n : Nat) : wsD (accF f n) n = wsD f n := Ybf fun k hk => if_pos hk
theorem accF_0 (f : Nat -> Nat) (n : Nat) : List.replicate n [D.v (.int .u32 0)] = wsD (accF f 0) n := (Yfr n).trans (Ybf fun k _ => (if_neg (by omega)).symm)
theorem add_lt2 {a b n : Nat} (ha : a < BW ^ n) (hb : b < BW ^ n) : a + b < BW ^ (n + 1) := by
 rw [Nat.pow_succ];exact Nat.lt_of_lt_of_le (show a + b < BW ^ n * 2 by omega) (Nat.mul_le_mul_left _ (by decide))
theorem Yfg (s n : Nat) (h : s < BW ^ n) : Yad Tryz.prog 171 [.sl (wsD (dig s) n)] (.sl (natW s)) := by
 refine Yab (n := 21) (ds' := [.sl (natW s)]) Tryz.func171 J (by kernel_rfl) J [2] J J ?_;intro B w0 F0 fr;refine .bound 0 J (fun hbd0 => ?_);rw [YaD] at hbd0;refine .sr (.aN ?_);refine .seq (.block (.loop (G := Nat) (fun k => Env.of [(0, .d (.sl (wsD (dig s) k)))]) (fun k => []) (fun k => k <= n /\ s < BW ^ k) (fun k => k) n ⟨ZnR _, h⟩ (Sub.less ⟨U, trivial⟩ (fun _ h => h)) ?_));intro k hk;refine .seq (.sr (.mA ?_));refine .sA (.lenSl J et_118.ht J) ?_;rw [YaD];refine .sA (.gtr J J J) ?_;refine .mA ?_;refine .sT 6 J (fun g1 => ?_) fun g1 => ?_
 ·have hkp : 0 < k := by omega
  refine .sG (.moveD J J) ?_;refine .sG (.moveD J J) ?_;refine .sG (.lenSl J et_118.ht J) ?_;rw [YaD];refine .sG (.sub64 J J J) ?_;refine .sG (.indexAddr J et_118 J J (k - 1) (by omega) (Yas (by omega)) J) ?_;refine .sG (.load J YaF J) ?_;refine .sG (.eql J J J) ?_;refine .sA (.pickT J J J) (.nil ?_);refine .cT J (fun h2 => ?_) fun h2 => ?_
  ·have hz : dig s (k - 1) = 0 := by omega
   have hs1 := Yga (n := s) (i := k - 1) (by rw [show k - 1 + 1 = k by omega]; exact hk.2) hz;refine .skip (.block (.region (.mm ?_)));refine .sA (.lenSl J et_118.ht J) ?_;rw [YaD];refine .sA (.sub64 J J J) ?_;refine .sA (.sliceH J et_118 J J (by omega) (by rw [YaD]; omega) (wsD_one _ _)) ?_;rw [show ((k : Int) - 1).toNat = k - 1 by omega, wsD_take (by omega)];refine .aN ?_;refine ⟨k - 1, ⟨by omega, hs1⟩, (by dsimp only; omega), Sub.less ⟨U, trivial⟩ (fun _ h => h)⟩
  have hz : dig s (k - 1) ≠ 0 := by omega
  rw [YeK hk.2 (.inr hz)];refine .exit (.sr (.mA ?_));refine .aN ?_;refine .ret (rDq J ?_)
  all_goals (first | rfl | rw [YeK hk.2 (.inl rfl)])
 obtain rfl : k = 0 := by omega
 refine .pB ?_;refine .pB ?_;refine .pB ?_;refine .pA ?_;refine .sA (.pickF J J J) (.nil ?_);refine .cond J (fun h => nomatch h) (fun _ => ?_);refine .exit (.sr (.mA ?_));refine .aN ?_;refine .ret (rDq J ?_)
 all_goals (first | rfl | rw [YeK hk.2 (.inl rfl)])
theorem YeX (n : Nat) (h : n < 18446744073709551616) : Yad Tryz.prog 109 [.v (.int .u64 (n : Int))] (.sl (natW n)) := by
 refine Yab (n := 10) (ds' := [.sl (natW n)]) Tryz.func109 J (by kernel_rfl) J [2] J J ?_;intro B w0 F0 fr;refine .sr (.aN ?_);refine .sr (.mA ?_);refine .sA (.convInt J Yan J) ?_;rw [u32m];refine .mA ?_;refine .sA (.shrG J J J (by decide) (by decide)) ?_;rw [shr32];refine .sA (.convInt J Yan J) ?_;rw [u32m];refine .sA (.buildSlice J et_118 (.cons J J J (.cons J J J .nil)) J (by decide)) ?_;refine .sA (.call J (.cons (.rfl' J) .nil) (by have h1 := Yfg n 2 (lt_two h); rw [wsD_2, dig_0, dgt_1] at h1; exact h1)) ?_;refine .aN ?_;refine .ret (rDq J ?_)
 all_goals (rfl)
theorem Yeb (n : Nat) : Yad Tryz.prog 164 [.sl (natW n)] (.tup [.v (.int .u64 (smN n : Int)), .v (.bool (smB n))]) := by
 refine Yab (n := 26) (ds' := [.v (.int .u64 (smN n : Int)), .v (.bool (smB n))]) Tryz.func164 J (by kernel_rfl) J [2, 3] J J ?_;intro B w0 F0 fr;refine .sr (.aa (.nil ?_));refine .seq (.sr (.mA ?_));refine .sA (.lenSl J et_118.ht J) ?_;rw [Yaf];refine .nil ?_;refine .block (.sr (.sA (.eql J J J) ?_));refine .aN ?_;refine .cT J (fun h1 => ?_) fun h1 => ?_
 ·obtain rfl := sm_0 (n := n) (by omega);refine .sr (.aa (.nil ?_));refine .ret ?_;refine ⟨RetD.eq J ?_, RetD.eq J ?_, trivial⟩
  all_goals (first | rfl)
 refine .sr (.sA (.eql J J J) ?_);refine .aN ?_;refine .cT J (fun h2 => ?_) fun h2 => ?_
 ·have h1 := sm_1 (n := n) (by omega);have hw := wl_le.1 (show wl n <= 2 by omega);rw [show smN n = n from if_pos hw, show smB n = true from decide_eq_true hw];refine .sr (.mA ?_);refine .sA (.indexAddr J et_118 J J 0 J (Yas (by omega)) J) ?_;refine .sA (.load J YaF J) (.sA (.convInt J Yaj J) ?_);rw [Yc3, h1];refine .aa (.nil ?_);refine .ret ?_;refine ⟨RetD.eq J ?_, RetD.eq J ?_, trivial⟩
  all_goals (first | rfl)
 refine .sr (.sA (.eql J J J) ?_);refine .aN ?_;refine .cT J (fun h3 => ?_) fun h3 => ?_
 ·have h2 := sm_2 (n := n) (by omega);have hw := wl_le.1 (show wl n <= 2 by omega);rw [show smN n = n from if_pos hw, show smB n = true from decide_eq_true hw];refine .seq (.drw 12 ?_);refine .sA (.moveD J J) ?_;refine .sA (.indexAddr J et_118 J J 0 J (Yas (by omega)) J) ?_;refine .sA (.load J YaF J) (.sA (.convInt J Yaj J) ?_);rw [Yc3];refine .sA (.moveD J J) ?_;refine .sA (.indexAddr J et_118 J J 1 J (Yas (by omega)) J) ?_;refine .sA (.load J YaF J) (.sA (.convInt J Yaj J) ?_);rw [Yc3];refine .sA (.shlG J J J (by decide) (by decide)) ?_;refine .sA (.orG J J J) ?_;rw [YgA (digB _ _) (digB _ _), h2];refine .sA (.assignD J J) (.sA (.assignD J J) ?_);refine .nil ?_;refine .nil ?_;refine .ret ?_;refine ⟨RetD.eq J ?_, RetD.eq J ?_, trivial⟩
  all_goals (first | rfl)
 have hw : ¬ n < BW ^ 2 := fun hh => by have := wl_le.2 hh; omega
 rw [show smN n = 0 from if_neg hw, show smB n = false from decide_eq_false hw];refine .skip (.sr (.aa (.nil ?_)));refine .ret ?_;refine ⟨RetD.eq J ?_, RetD.eq J ?_, trivial⟩
 all_goals (first | rfl)
theorem c_cmpN (a b : Nat) : Yad Tryz.prog 142 [.sl (natW a), .sl (natW b)] (.v (.int .i64 (cmpN a b))) := by
 refine Yab (n := 41) (ds' := [.v (.int .i64 (cmpN a b))]) Tryz.func142 J (by kernel_rfl) J [4] J J ?_;intro B w0 F0 fr;refine .bound 0 J (fun hbd0 => ?_);rw [Yaf] at hbd0;refine .sr (.aN ?_);refine .seq (.sr (.mA ?_));refine .sA (.lenSl J et_118.ht J) ?_;rw [Yaf];refine .mA ?_;refine .sA (.lenSl J et_118.ht J) ?_;rw [Yaf];refine .sA (.neq J J J) (.nil ?_);refine .cT J (fun h1 => ?_) fun h1 => ?_
 ·refine .seq (.sr (.mA ?_));refine .sA (.lenSl J et_118.ht J) ?_;rw [Yaf];refine .mA ?_;refine .sA (.lenSl J et_118.ht J) ?_;rw [Yaf];refine .sA (.lss J J J) (.nil ?_);refine .cT J (fun h2 => ?_) fun h2 => ?_
  ·rw [show cmpN a b = -1 from if_pos (cmp_wl (by omega))];refine .sr (.aN ?_);refine .ret (rDq J ?_)
   all_goals (first | rfl)
  have hlt := cmp_wl (a := b) (b := a) (by omega);rw [show cmpN a b = 1 from (if_neg (by omega)).trans (if_pos hlt)];refine .skip (.sr (.aN ?_));refine .ret (rDq J ?_)
  all_goals (first | rfl)
 have hw : wl a = wl b := by omega
 refine .skip (.seq (.sr (.mA ?_)));refine .sA (.lenSl J et_118.ht J) ?_;rw [Yaf];refine .sA (.sub64 J J J) ?_;refine .aN ?_;refine .block (.loop (G := Nat) (fun k => Env.of [(5, .iv ((k : Int) - 1)), (0, .d (.sl (natW a))), (1, .d (.sl (natW b)))]) (fun k => []) (fun k => k <= wl a /\ a / BW ^ k = b / BW ^ k) (fun k => k) (wl a) ⟨ZnR _, by rw [Nat.div_eq_of_lt (Ydb a), Nat.div_eq_of_lt (by rw [hw]; exact Ydb b)]⟩ (Sub.less ⟨(SLe.kn (by omega)), U, U, trivial⟩ (fun _ h => h)) ?_);intro k hk;refine .seq (.sr (.mA ?_));refine .sA (.geq J J J) (.nil ?_);refine .cT J (fun h3 => ?_) fun h3 => ?_
 ·have hkp : 0 < k := by omega
  have h0 := hk.2;rw [show k = k - 1 + 1 by omega] at h0;refine .skip (.seq (.block (.seq (.drw 9 ?_))));refine .sA (.moveD J J) (.sA (.moveD J J) ?_);refine .sA (.indexAddr J et_118 J J (k - 1) (by omega) (Yas (by omega)) J) ?_;refine .sA (.load J YaF J) (.sA (.moveD J J) (.sA (.moveD J J) ?_));refine .sA (.indexAddr J et_118 J J (k - 1) (by omega) (Yas (by omega)) J) ?_;refine .sA (.load J YaF J) (.sA (.neq J J J) ?_);refine .nil ?_;refine .nil ?_;refine .cT J (fun h4 => ?_) fun h4 => ?_
  ·refine .seq (.seq (.drw 9 ?_));refine .sA (.moveD J J) (.sA (.moveD J J) ?_);refine .sA (.indexAddr J et_118 J J (k - 1) (by omega) (Yas (by omega)) J) ?_;refine .sA (.load J YaF J) (.sA (.moveD J J) (.sA (.moveD J J) ?_));refine .sA (.indexAddr J et_118 J J (k - 1) (by omega) (Yas (by omega)) J) ?_;refine .sA (.load J YaF J) (.sA (.lss J J J) ?_);refine .nil ?_;refine .nil ?_;refine .cT J (fun h5 => ?_) fun h5 => ?_
   ·have hlt := hi_lt h0 (by omega);rw [show cmpN a b = -1 from if_pos hlt];refine .sr (.aN ?_);refine .ret (rDq J ?_)
    all_goals (first | rfl)
   have hlt := hi_lt h0.symm (by omega);rw [show cmpN a b = 1 from (if_neg (by omega)).trans (if_pos hlt)];refine .skip (.sr (.aN ?_));refine .ret (rDq J ?_)
   all_goals (first | rfl)
  have hd := hi_eq h0 (by omega);refine .skip (.region (.mA ?_));refine .sA (.sub64 J J J) ?_;refine .aN ?_;refine ⟨k - 1, ⟨by omega, hd⟩, (by dsimp only; omega), Sub.less ⟨(SLe.kn (by omega)), U, U, trivial⟩ (fun _ h => h)⟩
 obtain rfl : k = 0 := by omega
 have hab : a = b := by have := hk.2; rwa [Nat.pow_zero, Nat.div_one, Nat.div_one] at this
 rw [show cmpN a b = 0 from (if_neg (by omega)).trans (if_neg (by omega))];refine .exit (.sr (.aN ?_));refine .ret (rDq J ?_)
 all_goals (first | rfl)
theorem c_addN (a b : Nat) (ha : wl a <= 1000000000) (hb : wl b <= 1000000000) : Yad Tryz.prog 165 [.sl (natW a), .sl (natW b)] (.sl (natW (a + b))) := by
 refine Yab (n := 58) (ds' := [.sl (natW (a + b))]) Tryz.func165 J (by kernel_rfl) J [4] J J ?_;intro B w0 F0 fr;obtain ⟨hs, hw, hh⟩ := hilo a b;have hwh : wl (hiA a b) <= 1000000000 := by rcases hh with hh | hh <;> rw [hh] <;> assumption
 have hlo : (loA a b) < BW ^ wl (hiA a b) := wl_le.1 hw;refine .sr (.aN ?_);refine .seqJ (True) (Env.of [(0, .d (.sl (natW (hiA a b)))), (1, .d (.sl (natW (loA a b))))]) [] ?_ (fun _ => ?_)
 ·skip;refine .sr (.mA ?_);refine .sA (.lenSl J et_118.ht J) ?_;rw [Yaf];refine .mA ?_;refine .sA (.lenSl J et_118.ht J) ?_;rw [Yaf];refine .sA (.lss J J J) (.nil ?_);refine .cT J (fun h1 => ?_) fun h1 => ?_
  ·rw [show hiA a b = b from if_pos (by omega), show loA a b = a from if_pos (by omega)];refine .region (.mm ?_);refine .aa (.nil ?_);refine ⟨?_, Sub.less ⟨U, U, trivial⟩ (fun _ h => h)⟩;trivial
  rw [show hiA a b = a from if_neg (by omega), show loA a b = b from if_neg (by omega)];refine .skip ?_;refine ⟨?_, Sub.less ⟨U, U, trivial⟩ (fun _ h => h)⟩;trivial
 refine .sr (.mA ?_);refine .sA (.lenSl J et_118.ht J) ?_;rw [Yaf];refine .sA (.add64 J J J) ?_;refine .makeI 61 (wl (hiA a b) + 1) J J J J et_118 J J J (by omega) (by omega) J J ?_;refine .sA (.assignO J J) (.nil ?_);refine .sr (.aN ?_);refine .seq (.sr (.mA ?_));refine .sA (.lenSl J et_118.ht J) ?_;rw [Yaf];refine .mN ?_;refine .block (.loop (G := Nat) (fun i => Env.of [(21, .iv i), (20, .iv (wl (hiA a b) : Int)), (6, .d (.v (.int .u64 (carA (hiA a b) (loA a b) i : Int)))), (5, .own 61), (0, .d (.sl (natW (hiA a b)))), (1, .d (.sl (natW (loA a b))))]) (fun i => [(61, .row 171 1 (wsD (accF (dig (a + b)) i) (wl (hiA a b) + 1)))]) (fun i => i <= wl (hiA a b)) (fun i => wl (hiA a b) - i) 0 (ZnZ _) (Sub.less ⟨U, U, (SLe.kn (by rw [carA_0]; rfl)), U, U, U, trivial⟩ (Yay (accF_0 _ _))) ?_);intro i hi;refine .sr (.sA (.lss J J J) (.nil ?_));refine .seq (.cT J (fun h2 => ?_) fun h2 => ?_)
 ·have hlt : i < wl (hiA a b) := by omega
  have hst := carA_step (hiA a b) (loA a b) i;have hc1 := carA_lt (hiA a b) (loA a b) i;have hd1 := digB (hiA a b) i;have hd2 := digB (loA a b) i;rw [hs] at hst;refine .skip (.seq (.block (.sr (.ma (.nil ?_)))));refine .sr (.mm ?_);refine .mA ?_;refine .sA (.indexAddr J et_118 J J i J (Yas (by omega)) J) ?_;refine .sA (.load J YaF J) (.sA (.convInt J Yaj J) ?_);rw [Yc3];refine .sA (.add J J J) ?_;rw [add_u (by omega)];refine .aN ?_;refine .seqJ (True) (Env.of [(6, .d (.v (.int .u64 ((carA (hiA a b) (loA a b) i + dig (hiA a b) i + dig (loA a b) i : Nat) : Int)))), (5, .own 61), (7, .iv i), (21, .iv i), (20, .iv (wl (hiA a b) : Int)), (0, .d (.sl (natW (hiA a b)))), (1, .d (.sl (natW (loA a b))))]) [(61, .row 171 1 (wsD (accF (dig (a + b)) i) (wl (hiA a b) + 1)))] ?_ (fun _ => ?_)
  ·skip;refine .sr (.mm ?_);refine .sA (.lenSl J et_118.ht J) ?_;rw [Yaf];refine .sA (.lss J J J) (.nil ?_);refine .cT J (fun h3 => ?_) fun h3 => ?_
   ·refine .region (.mm ?_);refine .mA ?_;refine .sA (.indexAddr J et_118 J J i J (Yas (by omega)) J) ?_;refine .sA (.load J YaF J) (.sA (.convInt J Yaj J) ?_);rw [Yc3];refine .sA (.add J J J) ?_;rw [add_u (by omega)];refine .aN ?_;refine ⟨?_, Sub.less ⟨U, U, U, U, U, U, U, trivial⟩ (fun _ h => h)⟩;trivial
   have hz : dig (loA a b) i = 0 := Ydt (wl_le.1 (by omega));rw [hz, Nat.add_zero] at hst ⊢;refine .skip ?_;refine ⟨?_, Sub.less ⟨U, U, U, U, U, U, U, trivial⟩ (fun _ h => h)⟩;trivial
  refine .sr (.sA (.moveO J J) ?_);refine .mm ?_;refine .sA (.convInt J Yan J) ?_;rw [u32m, hst.1];refine .sA (.indexOwn J et_118 J J (.head _) i J (by rw [YaD]; omega)) ?_;refine .stR J J J Yc5 J (.head _) J J J i 0 J (Yas (by omega)) (ZnB J) (.nil ?_);refine .region (.mA ?_);refine .sA (.shrG J J J (by decide) (by decide)) ?_;rw [shr32, hst.2];refine .aN ?_;refine .region (.sA (.add64 J J J) ?_);refine .mN ?_;refine ⟨i + 1, (by omega), (by dsimp only; omega), Sub.less ⟨U, U, U, U, U, U, trivial⟩ (Yay (YeA (by omega)))⟩
 obtain rfl : i = wl (hiA a b) := by omega
 have hce := carA_end (Ydb (hiA a b)) hlo;rw [hs] at hce;have HROW : (wsD (accF (dig (a + b)) (wl (hiA a b))) (wl (hiA a b) + 1)).set (wl (hiA a b)) (u32D (carA (hiA a b) (loA a b) (wl (hiA a b)) % BW)) = wsD (dig (a + b)) (wl (hiA a b) + 1) := by rw [hce, Nat.mod_eq_of_lt (YdU _ _), YeA (by omega), YfO]
 have hsm : a + b < BW ^ (wl (hiA a b) + 1) := by rw [<- hs]; exact add_lt2 (Ydb _) hlo
 refine .exit (.sr (.sA (.moveO J J) ?_));refine .mA ?_;refine .sA (.lenSl J et_118.ht J) ?_;rw [Yaf];refine .mA ?_;refine .sA (.convInt J Yan J) ?_;rw [u32m];refine .sA (.indexOwn J et_118 J J (.head _) (wl (hiA a b)) J (by rw [YaD]; omega)) ?_;refine .stR J J J Yc5 J (.head _) J J J (wl (hiA a b)) 0 J (Yas (by omega)) (ZnB J) (.nil ?_);refine .sr (.sA (.moveO J J) ?_);refine .freeze 56 J (.head _) ?_;refine .sA (.call J (.cons (.rfl' J) .nil) (by have h1 := Yfg (a + b) (wl (hiA a b) + 1) hsm; rw [<- HROW] at h1; exact h1)) ?_;refine .aN ?_;refine .ret (rDq J ?_)
 all_goals (first | rfl)
end
end Go.Proofs.YtohllekllkcfiaaGreatDoor
namespace Go.Proofs
open Go.Shelf
def Tryz.l264_ren : Go.Shelf.Ren := ⟨fun | 264 => 172 | n => n, fun | 53 => 173 | 46 => 107 | n => n, fun | n => n⟩
theorem Tryz.l264 : Go.Proofs.Lays.n264 Tryz.prog Tryz.l264_ren := {
 mixed := by kernel_rfl
 f264 := ZfC Tryz.func172
 t46 := Tryz.underlying107
 a46 := Tryz.isAgg107
 z46 := Tryz.sizeOf107
 v46 := Tryz.zeroValue107
 t53 := Tryz.underlying173
 a53 := Tryz.isAgg173
 z53 := Tryz.sizeOf173
 v53 := Tryz.zeroValue173 }
def Tryz.l133_ren : Go.Shelf.Ren := ⟨fun | 133 => 168 | 128 => 95 | n => n, fun | 51 => 171 | 3 => 3 | 4 => 4 | 46 => 107 | 5 => 5 | 9 => 9 | n => n, fun | n => n⟩
theorem Tryz.l133 : Go.Proofs.Lays.n133 Tryz.prog Tryz.l133_ren := {
 mixed := by kernel_rfl
 f128 := ZfC Tryz.func95
 f133 := ZfC Tryz.func168
 t3 := Tryz.underlying3
 a3 := Tryz.isAgg3
 z3 := Tryz.sizeOf3
 v3 := Tryz.zeroValue3
 t4 := Tryz.underlying4
 a4 := Tryz.isAgg4
 z4 := Tryz.sizeOf4
 v4 := Tryz.zeroValue4
 t5 := Tryz.underlying5
 a5 := Tryz.isAgg5
 z5 := Tryz.sizeOf5
 v5 := Tryz.zeroValue5
 t9 := Tryz.underlying9
 a9 := Tryz.isAgg9
 z9 := Tryz.sizeOf9
 v9 := Tryz.zeroValue9
 t46 := Tryz.underlying107
 a46 := Tryz.isAgg107
 z46 := Tryz.sizeOf107
 v46 := Tryz.zeroValue107
 t51 := Tryz.underlying171
 a51 := Tryz.isAgg171
 z51 := Tryz.sizeOf171
 v51 := Tryz.zeroValue171 }
end Go.Proofs
namespace Go.Proofs.YtohllekllkcfiaaGreatDoor
section
open Go.RowKit
namespace Ty
theorem cv_171_2 : Yfp Tryz.prog 171 2 .i64 = true := by kernel_rfl
theorem cv_2_171 : Yfp Tryz.prog 2 171 .u32 = true := by kernel_rfl
end Ty
open Ty
theorem i64n {x : Int} (h : -9223372036854775808 <= x /\ x <= 9223372036854775807) : IntKind.i64.wrap x = x := w64 h.1 h.2
theorem dig_i (n i : Nat) : IntKind.i64.wrap (dig n i : Int) = (dig n i : Int) := by have := digB n i; exact i64n (by omega)
theorem shrI (x : Int) : x / 2 ^ (32 : Int).toNat = x / (BW : Int) := rfl
theorem wrapI (x : Int) : IntKind.u32.wrap x = x % (BW : Int) := IntKind.wrap_u32' x
theorem mul_u {x y : Nat} (h : x * y < 18446744073709551616) : IntKind.u64.wrap ((x : Int) * (y : Int)) = ((x * y : Nat) : Int) := by rw [<- Int.natCast_mul]; exact u64n h
theorem dig_mul (a b i j : Nat) : dig a i * dig b j <= 18446744065119617025 := by
 have h1 : dig a i <= 4294967295 := by have := digB a i; omega
 have h2 : dig b j <= 4294967295 := by have := digB b j; omega
 exact Nat.mul_le_mul h1 h2
theorem smM {a b : Nat} (ha : a < BW ^ 2) (hb : b < BW ^ 2) : a * b < BW ^ 4 := by
 rw [show BW ^ 4 = BW ^ 2 * BW ^ 2 from (Nat.pow_add BW 2 2)];exact Nat.mul_lt_mul'' ha hb
theorem mulF_z (a b : Nat) (n : Nat) : List.replicate n [D.v (.int .u32 0)] = wsD (mulF a b 0 0) n := (Yfr n).trans (Ybf fun k _ => by rw [mulF_0, mulP_0, Ydt (bwp _)])
theorem mulF_set {a b i j n : Nat} (h : i + j < n) : (wsD (mulF a b i j) n).set (i + j) (u32D (dig (mulT a b i (j + 1)) (i + j))) = wsD (mulF a b i (j + 1)) n := YdX h fun k _ => by
 by_cases e : k = i + j
 ·subst e; rw [if_pos rfl, mulF_at]
 ·rw [if_neg e, mulF_step e]
theorem mulF_row {a b i m n : Nat} (hb : b < BW ^ m) (h : i + m < n) : (wsD (mulF a b i m) n).set (i + m) (u32D (dig (mulP a b (i + 1)) (i + m))) = wsD (mulF a b (i + 1) 0) n := YdX h fun k _ => by
 by_cases e : k = i + m
 ·subst e; rw [if_pos rfl, mulF_0]
 ·rw [if_neg e, mulF_end hb i k e, mulF_0]
theorem mulF_all {a b n m : Nat} (ha : a < BW ^ n) : wsD (mulF a b n 0) m = wsD (dig (a * b)) m := Ybf fun k _ => by rw [mulF_0, mulP_all ha]
theorem wsD_4 (f : Nat -> Nat) : wsD f 4 = [u32D (f 0), u32D (f 1), u32D (f 2), u32D (f 3)] := rfl
theorem quad (p : Nat) : dig p 0 = p % 18446744073709551616 % BW /\ dig p 1 = p % 18446744073709551616 / BW % BW /\ dig p 2 = p / 18446744073709551616 % BW /\ dig p 3 = p / 18446744073709551616 / BW % BW := by
 have e : (18446744073709551616 : Nat) = BW * BW := rfl;refine ⟨?_, ?_, ?_, ?_⟩
 ·rw [dig_0, e, Nat.mod_mul_right_mod]
 ·rw [dgt_1, e, Nat.mod_mul_right_div_self, Nat.mod_mod]
 ·unfold dig; rw [e, Nat.pow_two]
 ·unfold dig; rw [e, Nat.div_div_eq_div_mul, show BW ^ 3 = BW * BW * BW from rfl]
def topF (f : Nat -> Nat) (i k : Nat) : Nat := if i <= k then f k else 0
theorem topF_set {f : Nat -> Nat} {i n : Nat} (h : i < n) : (wsD (topF f (i + 1)) n).set i (u32D (f i)) = wsD (topF f i) n := YdX h fun k hk => by
 unfold topF
 by_cases e : k = i
 ·subst e; rw [if_pos (by omega), if_pos rfl]
 ·rw [if_neg e]
  by_cases h2 : i <= k
  ·rw [if_pos h2, if_pos (by omega)]
  ·rw [if_neg h2, if_neg (by omega)]
theorem topF_all (f : Nat -> Nat) (n : Nat) : wsD (topF f 0) n = wsD f n := Ybf fun k hk => if_pos (ZnZ _)
theorem topF_z (f : Nat -> Nat) (n : Nat) : List.replicate n [D.v (.int .u32 0)] = wsD (topF f n) n := (Yfr n).trans (Ybf fun k _ => (if_neg (by omega)).symm)
theorem or_hi {r x : Nat} (hr : r < 4294967296) (hx : x < 4294967296) : bits .or .u64 (IntKind.u64.wrap ((r : Int) * 2 ^ (32 : Int).toNat)) (x : Int) = ((BW * r + x : Nat) : Int) := by
 have h := YgA hx hr
 have hc : ∀ a b : Int, bits .or .u64 a b = bits .or .u64 b a := fun a b => by
  have e : ∀ a b : Int, bits .or .u64 a b = IntKind.u64.wrap (((BitVec.ofInt 64 a ||| BitVec.ofInt 64 b).toNat : Nat) : Int) := fun _ _ => rfl
  rw [e, e, BitVec.or_comm]
 rw [hc, h, Nat.add_comm]
theorem quo_u {x y : Nat} (h : x < 18446744073709551616) : IntKind.u64.wrap (Int.tdiv (x : Int) (y : Int)) = ((x / y : Nat) : Int) := by
 rw [<- Int.ofNat_tdiv];exact u64n (Nat.lt_of_le_of_lt (Nat.div_le_self _ _) h)
theorem shl_u {x s : Nat} (h : x * 2 ^ s < 18446744073709551616) : IntKind.u64.wrap ((x : Int) * 2 ^ ((s : Int)).toNat) = ((x * 2 ^ s : Nat) : Int) := by
 rw [Int.toNat_natCast, show (2 : Int) ^ s = ((2 ^ s : Nat) : Int) by rw [Int.natCast_pow]; rfl, <- Int.natCast_mul];exact u64n h
theorem shl_s {x s : Nat} (hx : x < 4294967296) (hs : s < 32) : x * 2 ^ s < 18446744073709551616 := by
 have h2 : 2 ^ s <= 2 ^ 31 := Nat.pow_le_pow_right (by decide) (by omega);exact Nat.lt_of_le_of_lt (Nat.mul_le_mul (Nat.le_of_lt hx) h2) (by decide)
theorem or_low {x y s : Nat} (hx : x < 2 ^ s) (hs : s < 32) : bits .or .u32 (x : Int) (((y * 2 ^ s % BW : Nat)) : Int) = ((x + y * 2 ^ s % BW : Nat) : Int) := by
 have h1 := mul_mod_s (x := y) hs;have h2 := two_sN hs;generalize hz : y % 2 ^ (32 - s) = z at *;have hz2 : z < 2 ^ (32 - s) := by rw [<- hz]; exact Nat.mod_lt _ (Nat.pow_pos (by decide))
 rw [h1]
 have hb : z * 2 ^ s + x < 4294967296 := by
  have : z * 2 ^ s + 2 ^ s <= 2 ^ (32 - s) * 2 ^ s := by rw [<- Nat.succ_mul]; exact Nat.mul_le_mul_right _ hz2
  rw [Nat.mul_comm (2 ^ (32 - s)), h2] at this;have : z * 2 ^ s + 2 ^ s <= 4294967296 := this;omega
 have h3 : bits .or .u32 (x : Int) ((z * 2 ^ s : Nat) : Int) = IntKind.u32.wrap (((BitVec.ofInt 32 (x : Int) ||| BitVec.ofInt 32 ((z * 2 ^ s : Nat) : Int)).toNat : Nat) : Int) := rfl
 have h4 : (BitVec.ofInt 32 (x : Int) ||| BitVec.ofInt 32 ((z * 2 ^ s : Nat) : Int)).toNat = x + z * 2 ^ s := by
  rw [BitVec.or_comm, BitVec.toNat_or, BitVec.ofInt_natCast, BitVec.ofInt_natCast, BitVec.toNat_ofNat, BitVec.toNat_ofNat, Nat.mod_eq_of_lt (by omega), Nat.mod_eq_of_lt (by omega)];have := Nat.shiftLeft_add_eq_or_of_lt hx z;rw [Nat.shiftLeft_eq] at this;rw [<- this, Nat.add_comm]
 rw [h3, h4, u32m, Nat.mod_eq_of_lt (by show _ < 4294967296; omega)]
theorem smN_lt (n : Nat) : smN n < 18446744073709551616 := by
 unfold smN;split
 ·rename_i h; exact h
 ·decide
theorem c_mul64 (x y : Nat) (hx : x < 18446744073709551616) (hy : y < 18446744073709551616) : Yad Tryz.prog 172 [.v (.int .u64 (x : Int)), .v (.int .u64 (y : Int))] (.tup [.v (.int .u64 ((x * y / 18446744073709551616 : Nat) : Int)), .v (.int .u64 ((x * y % 18446744073709551616 : Nat) : Int))]) :=
 ⟨.of Tryz.func172 (by kernel_rfl) rfl, fun F w vs hF hv => by
  rw [repL_v (us := [.int .u64 x, .int .u64 y]) hv];have h := Any.bits_Mul64 Tryz.l264 x y hx hy w;change Calls Tryz.prog 172 #[.int .u64 x, .int .u64 y] w _ at h;refine h.mono fun e w' ⟨h1, h2⟩ => ?_
  subst h2
  exact ⟨_, F, h1, .tup [_, _] [_, _] J (fun i h1 h2 => by
   match i, h1 with
   | 0, _ => exact .v _
   | 1, _ => exact .v _), Ext.refl hF⟩⟩
theorem c_subN (a b : Nat) (h : b <= a) (ha : wl a <= 1000000000) : Yad Tryz.prog 196 [.sl (natW a), .sl (natW b)] (.sl (natW (a - b))) := by
 refine Yab (n := 44) (ds' := [.sl (natW (a - b))]) Tryz.func196 J (by kernel_rfl) J [4] J J ?_;intro B w0 F0 fr;have hwb := YeB h;refine .sr (.aN ?_);refine .sr (.mA ?_);refine .sA (.lenSl J et_118.ht J) ?_;rw [Yaf];refine .makeI 61 (wl a) J J J J et_118 J J J (by omega) (by omega) J J ?_;refine .sA (.assignO J J) (.nil ?_);refine .sr (.aN ?_);refine .seq (.sr (.mA ?_));refine .sA (.lenSl J et_118.ht J) ?_;rw [Yaf];refine .mN ?_;refine .block (.loop (G := Nat) (fun i => Env.of [(13, .iv i), (12, .iv (wl a : Int)), (6, .iv (borS a b i)), (5, .own 61), (0, .d (.sl (natW a))), (1, .d (.sl (natW b)))]) (fun i => [(61, .row 171 1 (wsD (accF (dig (a - b)) i) (wl a)))]) (fun i => i <= wl a) (fun i => wl a - i) 0 (ZnZ _) (Sub.less ⟨U, U, (SLe.kn (by rw [borS_0])), U, U, U, trivial⟩ (Yay (accF_0 _ _))) ?_);intro i hi;refine .sr (.sA (.lss J J J) (.nil ?_));refine .seq (.cT J (fun h1 => ?_) fun h1 => ?_)
 ·have hlt : i < wl a := by omega
  have hst := borS_step h i;have hc1 := borS_rng a b i;have hd1 := digB a i;have hd2 := digB b i;refine .skip (.seq (.block (.sr (.ma (.nil ?_)))));refine .sr (.mm ?_);refine .mA ?_;refine .sA (.indexAddr J et_118 J J i J (Yas (by omega)) J) ?_;refine .sA (.load J YaF J) (.sA (.convInt J cv_171_2 J) ?_);rw [dig_i];refine .sA (.add64 J J J) ?_;refine .aN ?_;refine .seqJ (True) (Env.of [(6, .iv (borS a b i + (dig a i : Int) - (dig b i : Int))), (5, .own 61), (7, .iv i), (13, .iv i), (12, .iv (wl a : Int)), (0, .d (.sl (natW a))), (1, .d (.sl (natW b)))]) [(61, .row 171 1 (wsD (accF (dig (a - b)) i) (wl a)))] ?_ (fun _ => ?_)
  ·skip;refine .sr (.mm ?_);refine .sA (.lenSl J et_118.ht J) ?_;rw [Yaf];refine .sA (.lss J J J) (.nil ?_);refine .cT J (fun h2 => ?_) fun h2 => ?_
   ·refine .region (.mm ?_);refine .mA ?_;refine .sA (.indexAddr J et_118 J J i J (Yas (by omega)) J) ?_;refine .sA (.load J YaF J) (.sA (.convInt J cv_171_2 J) ?_);rw [dig_i];refine .sA (.sub64 J J J) ?_;refine .aN ?_;refine ⟨?_, Sub.less ⟨U, U, U, U, U, U, U, trivial⟩ (fun _ h => h)⟩;trivial
   have hz : dig b i = 0 := Ydt (wl_le.1 (by omega));rw [show borS a b i + (dig a i : Int) - (dig b i : Int) = borS a b i + (dig a i : Int) by rw [hz]; omega] at *;refine .skip ?_;refine ⟨?_, Sub.less ⟨U, U, U, U, U, U, U, trivial⟩ (fun _ h => h)⟩;trivial
  refine .sr (.sA (.moveO J J) ?_);refine .mm ?_;refine .sA (.convInt J cv_2_171 J) ?_;rw [wrapI, hst.1];refine .sA (.indexOwn J et_118 J J (.head _) i J (by rw [YaD]; omega)) ?_;refine .stR J J J Yc5 J (.head _) J J J i 0 J (Yas (by omega)) (ZnB J) (.nil ?_);refine .region (.mA ?_);refine .sA (.shrG J J J (by decide) (by decide)) ?_;rw [shrI, hst.2];refine .aN ?_;refine .region (.sA (.add64 J J J) ?_);refine .mN ?_;refine ⟨i + 1, (by omega), (by dsimp only; omega), Sub.less ⟨U, U, U, U, U, U, trivial⟩ (Yay (YeA (by omega)))⟩
 obtain rfl : i = wl a := by omega
 rw [YfO];refine .exit (.sr (.sA (.moveO J J) ?_));refine .freeze 42 J (.head _) ?_;refine .sA (.call J (.cons (.rfl' J) .nil) (Yfg (a - b) (wl a) (Nat.lt_of_le_of_lt (Nat.sub_le _ _) (Ydb a)))) ?_;refine .aN ?_;refine .ret (rDq J ?_)
 all_goals (first | rfl)
theorem c_mulN (a b : Nat) (ha : wl a <= 1000000000) (hb : wl b <= 1000000000) : Yad Tryz.prog 110 [.sl (natW a), .sl (natW b)] (.sl (natW (a * b))) := by
 refine Yab (n := 103) (ds' := [.sl (natW (a * b))]) Tryz.func110 J (by kernel_rfl) J [4] J J ?_;intro B w0 F0 fr;have hba := Ydb b;refine .sr (.aN ?_);refine .seqJ (True) (Env.of [(0, .d (.sl (natW a))), (1, .d (.sl (natW b)))]) [] ?_ (fun _ => ?_)
 ·skip;refine .sr (.mA ?_);refine .sA (.call J (.cons (.rfl' J) .nil) (Yeb a)) ?_;refine .mA ?_;refine .sA (.extract J J J) (.sA (.extract J J J) ?_);refine .aa (.nil ?_);refine .sr (.mN ?_);refine .cond J (fun h1 => ?_) (fun h1 => ?_)
  ·skip;have hsa : a < BW ^ 2 := dcT h1;have hxa : smN a = a := if_pos hsa;refine .sr (.mA ?_);refine .sA (.call J (.cons (.rfl' J) .nil) (Yeb b)) ?_;refine .mA ?_;refine .sA (.extract J J J) (.sA (.extract J J J) ?_);refine .aa (.nil ?_);refine .sr (.mN ?_);refine .cond J (fun h2 => ?_) (fun h2 => ?_)
   ·skip;have hsb : b < BW ^ 2 := dcT h2;have hxb : smN b = b := if_pos hsb;refine .sr (.mm ?_);refine .sA (.call J (.cons (.rfl' J) (.cons (.rfl' J) .nil)) (c_mul64 (smN a) (smN b) (smN_lt a) (smN_lt b))) ?_;rw [hxa, hxb];refine .mA ?_;refine .sA (.extract J J J) (.sA (.extract J J J) ?_);refine .aa (.nil ?_);refine .sr (.mA ?_);refine .sA (.convInt J Yan J) ?_;rw [u32m];refine .mA ?_;refine .sA (.shrG J J J (by decide) (by decide)) ?_;rw [shr32];refine .sA (.convInt J Yan J) ?_;rw [u32m];refine .mA ?_;refine .sA (.convInt J Yan J) ?_;rw [u32m];refine .mA ?_;refine .sA (.shrG J J J (by decide) (by decide)) ?_;rw [shr32];refine .sA (.convInt J Yan J) ?_;rw [u32m];refine .sA (.buildSlice J et_118 (.cons J J J (.cons J J J (.cons J J J (.cons J J J .nil)))) J (by decide)) ?_;refine .sA (.call rfl (.cons (.rfl' rfl) .nil) (by have h1 := Yfg (a * b) 4 (smM hsa hsb); rw [wsD_4] at h1; obtain ⟨q0, q1, q2, q3⟩ := quad (a * b); rw [q0, q1, q2, q3] at h1; exact h1)) ?_;refine .aN ?_;refine .ret (rDq J ?_)
    all_goals (first | rfl)
   refine .skip ?_;refine ⟨?_, Sub.less ⟨U, U, trivial⟩ (fun _ h => h)⟩;trivial
  refine .skip ?_;refine ⟨?_, Sub.less ⟨U, U, trivial⟩ (fun _ h => h)⟩;trivial
 refine .sr (.mA ?_);refine .sA (.lenSl J et_118.ht J) ?_;rw [Yaf];refine .mA ?_;refine .sA (.lenSl J et_118.ht J) ?_;rw [Yaf];refine .sA (.add64 J J J) ?_;refine .makeI 61 (wl a + wl b) J J J J et_118 J J (by omega) (by omega) (by omega) J J ?_;refine .sA (.assignO J J) (.nil ?_);refine .seq (.sr (.mA ?_));refine .sA (.lenSl J et_118.ht J) ?_;rw [Yaf];refine .mN ?_;refine .block (.loop (G := Nat) (fun i => Env.of [(55, .iv i), (53, .d (.sl (natW a))), (54, .iv (wl a : Int)), (11, .own 61), (1, .d (.sl (natW b)))]) (fun i => [(61, .row 171 1 (wsD (mulF a b i 0) (wl a + wl b)))]) (fun i => i <= wl a) (fun i => wl a - i) 0 (ZnZ _) (Sub.less ⟨U, U, U, U, U, trivial⟩ (Yay (mulF_z a b _))) ?_);intro i hi;refine .sr (.sA (.lss J J J) (.nil ?_));refine .seq (.cT J (fun h3 => ?_) fun h3 => ?_)
 ·have hlt : i < wl a := by omega
  refine .skip (.seq (.block (.sr (.mA ?_))));refine .sA (.indexAddr J et_118 J J i J (Yas (by omega)) J) ?_;refine .sA (.load J YaF J) ?_;refine .aa (.nil ?_);refine .sr (.aN ?_);refine .seq (.sr (.mA ?_));refine .sA (.lenSl J et_118.ht J) ?_;rw [Yaf];refine .mN ?_;refine .block (.loop (G := Nat) (fun j => Env.of [(62, .iv j), (60, .d (.sl (natW b))), (61, .iv (wl b : Int)), (14, .d (.v (.int .u64 (mulC a b i j : Int)))), (13, .d (.v (.int .u32 (dig a i : Int)))), (12, .iv i), (55, .iv i), (53, .d (.sl (natW a))), (54, .iv (wl a : Int)), (11, .own 61), (1, .d (.sl (natW b)))]) (fun j => [(61, .row 171 1 (wsD (mulF a b i j) (wl a + wl b)))]) (fun j => j <= wl b) (fun j => wl b - j) 0 (ZnZ _) (Sub.less ⟨U, U, U, (SLe.kn (by rw [mulC_0]; rfl)), U, U, U, U, U, U, U, trivial⟩ (Yay rfl)) ?_);intro j hj;refine .sr (.sA (.lss J J J) (.nil ?_));refine .seq (.cT J (fun h4 => ?_) fun h4 => ?_)
  ·have hlj : j < wl b := by omega
   have hst := mulC_step a b i j;have hc := mulC_lt a b i j;have hm := dig_mul a b i j;have hdp := digB (mulP a b i) (i + j);have hcl : mulC a b i j < 4294967296 := hc;have hcell : mulF a b i j (i + j) = dig (mulP a b i) (i + j) := if_neg (by omega);have hord : mulC a b i j + (dig a i * dig b j + dig (mulP a b i) (i + j)) = mulC a b i j + dig a i * dig b j + dig (mulP a b i) (i + j) := (Nat.add_assoc _ _ _).symm;refine .skip (.seq (.block (.sr (.mA ?_))));refine .sA (.indexAddr J et_118 J J j J (Yas (by omega)) J) ?_;refine .sA (.load J YaF J) ?_;refine .aa (.nil ?_);refine .sr (.mm ?_);refine .sA (.convInt J Yaj J) ?_;rw [Yc3];refine .mA ?_;refine .sA (.convInt J Yaj J) ?_;rw [Yc3];refine .sA (.mul J J J) ?_;rw [mul_u (by omega)];refine .sA (.moveO J J) ?_;refine .mm ?_;refine .sA (.add64 J J J) ?_;refine .sA (.indexOwn J et_118 J J (.head _) (i + j) (by omega) (by rw [YaD]; omega)) ?_;refine .sA (.loadRow J YaF J (.head _) (i + j) 0 J (Yas (by omega)) J) ?_;refine .sA (.convInt J Yaj J) ?_;rw [hcell, Yc3];refine .sA (.add J J J) ?_;rw [add_u (by omega)];refine .sA (.add J J J) ?_;rw [add_u (by omega), hord];refine .aN ?_;refine .sr (.sA (.moveO J J) ?_);refine .mm ?_;refine .sA (.add64 J J J) ?_;refine .mA ?_;refine .sA (.convInt J Yan J) ?_;rw [u32m, hst.1];refine .sA (.indexOwn J et_118 J J (.head _) (i + j) (by omega) (by rw [YaD]; omega)) ?_;refine .stR J J J Yc5 J (.head _) J J J (i + j) 0 J (Yas (by omega)) (ZnB J) (.nil ?_);refine .region (.mA ?_);refine .sA (.shrG J J J (by decide) (by decide)) ?_;rw [shr32, hst.2];refine .aN ?_;refine .region (.sA (.add64 J J J) ?_);refine .mN ?_;refine ⟨j + 1, (by omega), (by dsimp only; omega), Sub.less ⟨U, U, U, U, U, U, U, U, U, U, U, trivial⟩ (Yay (mulF_set (by omega)))⟩
  obtain rfl : j = wl b := by omega
  refine .exit (.region (.sA (.moveO J J) ?_));refine .mm ?_;refine .sA (.lenSl J et_118.ht J) ?_;rw [Yaf];refine .sA (.add64 J J J) ?_;refine .mA ?_;refine .sA (.convInt J Yan J) ?_;rw [u32m, Nat.mod_eq_of_lt (mulC_lt a b i (wl b)), mulC_end hba];refine .sA (.indexOwn J et_118 J J (.head _) (i + wl b) (by omega) (by rw [YaD]; omega)) ?_;refine .stR J J J Yc5 J (.head _) J J J (i + wl b) 0 J (Yas (by omega)) (ZnB J) (.nil ?_);refine .region (.sA (.add64 J J J) ?_);refine .mN ?_;refine ⟨i + 1, (by omega), (by dsimp only; omega), Sub.less ⟨U, U, U, U, U, trivial⟩ (Yay (mulF_row hba (by omega)))⟩
 obtain rfl : i = wl a := by omega
 refine .exit (.sr (.sA (.moveO J J) ?_));refine .freeze 101 J (.head _) ?_;refine .sA (.call J (.cons (.rfl' J) .nil) (by have h1 := Yfg (a * b) (wl a + wl b) (by rw [Nat.pow_add]; exact Nat.mul_lt_mul'' (Ydb a) hba); rw [<- mulF_all (Ydb a)] at h1; exact h1)) ?_;refine .aN ?_;refine .ret (rDq J ?_)
 all_goals (first | rfl)
theorem shL_row {a s i n : Nat} (hs : s < 32) (h : i + 1 < n) : ((wsD (dig (shL a s i)) n).set i (u32D (dig (shL a s (i + 1)) i))).set (i + 1) (u32D (dig (shL a s (i + 1)) (i + 1))) = wsD (dig (shL a s (i + 1))) n := by
 rw [YdX (g := fun k => if k = i then dig (shL a s (i + 1)) i else dig (shL a s i) k) (by omega) fun k _ => rfl];refine YdX h fun k _ => ?_
 by_cases e : k = i + 1
 ·subst e; rw [if_pos rfl]
 ·rw [if_neg e]
  by_cases e2 : k = i
  ·subst e2; rw [if_pos rfl]
  ·rw [if_neg e2]
   rcases Nat.lt_or_ge k i with h3 | h3
   ·exact shL_keep h3
   ·rw [shL_zero hs (by omega), shL_zero hs (by omega)]
theorem shL_z (a s n : Nat) : List.replicate n [D.v (.int .u32 0)] = wsD (dig (shL a s 0)) n := (Yfr n).trans (Ybf fun k _ => by rw [shL_0, Ydt (bwp _)])
theorem y_hi {a s i : Nat} (hs : s < 32) : dig a i * 2 ^ s / BW % BW = dig a i * 2 ^ s / BW := by
 refine Nat.mod_eq_of_lt ((Nat.div_lt_iff_lt_mul Ycn).2 ?_);exact shl_s (digB a i) hs
theorem c_dw (a w : Nat) (hw : 0 < w) (hw2 : w < 4294967296) (ha : wl a <= 1000000000) : Yad Tryz.prog 167 [.sl (natW a), .v (.int .u64 (w : Int))] (.tup [.sl (natW (a / w)), .sl (natW (a % w))]) := by
 refine Yab (n := 41) (ds' := [.sl (natW (a / w)), .sl (natW (a % w))]) Tryz.func167 J (by kernel_rfl) J [4, 5] J J ?_;intro B w0 F0 fr;refine .sr (.aa (.nil ?_));refine .sr (.mA ?_);refine .sA (.lenSl J et_118.ht J) ?_;rw [Yaf];refine .makeI 61 (wl a) J J J J et_118 J J J (by omega) (by omega) J J ?_;refine .sA (.assignO J J) (.nil ?_);refine .sr (.aN ?_);refine .seq (.sr (.mA ?_));refine .sA (.lenSl J et_118.ht J) ?_;rw [Yaf];refine .sA (.sub64 J J J) ?_;refine .aN ?_;refine .block (.loop (G := Nat) (fun k => Env.of [(8, .iv ((k : Int) - 1)), (7, .d (.v (.int .u64 ((a / BW ^ k % w : Nat) : Int)))), (6, .own 61), (0, .d (.sl (natW a))), (1, .d (.v (.int .u64 (w : Int))))]) (fun k => [(61, .row 171 1 (wsD (topF (dig (a / w)) k) (wl a)))]) (fun k => k <= wl a) (fun k => k) (wl a) (ZnR _) (Sub.less ⟨(SLe.kn (by omega)), (SLe.kn (by rw [Nat.div_eq_of_lt (Ydb a), Nat.zero_mod]; rfl)), U, U, U, trivial⟩ (Yay (topF_z _ _))) ?_);intro k hk;refine .seq (.sr (.mA ?_));refine .sA (.geq J J J) (.nil ?_);refine .cT J (fun h1 => ?_) fun h1 => ?_
 ·have hkp : 0 < k := by omega
  have hr : a / BW ^ k % w < 4294967296 := Nat.lt_trans (Nat.mod_lt _ hw) hw2;have hst := dw_step (a := a) hw (k - 1);rw [show k - 1 + 1 = k by omega] at hst;have hd := digB a (k - 1);have hx : BW * (a / BW ^ k % w) + dig a (k - 1) < 18446744073709551616 := by show 4294967296 * _ + _ < _; omega
  have HS := topF_set (f := dig (a / w)) (i := k - 1) (n := wl a) (by omega);rw [show k - 1 + 1 = k by omega] at HS;refine .skip (.seq (.block (.sr (.mA ?_))));refine .sA (.shlG J J J (by decide) (by decide)) ?_;refine .mm ?_;refine .sA (.indexAddr J et_118 J J (k - 1) (by omega) (Yas (by omega)) J) ?_;refine .sA (.load J YaF J) (.sA (.convInt J Yaj J) ?_);rw [Yc3];refine .sA (.orG J J J) ?_;rw [or_hi hr (digB _ _)];refine .aN ?_;refine .sr (.sA (.moveO J J) ?_);refine .mm ?_;refine .mA ?_;refine .sA (.quo J J J (by omega)) ?_;rw [quo_u hx, hst.1];refine .sA (.convInt J Yan J) ?_;rw [u32m, Nat.mod_eq_of_lt (YdU _ _)];refine .sA (.indexOwn J et_118 J J (.head _) (k - 1) (by omega) (by rw [YaD]; omega)) ?_;refine .stR J J J Yc5 J (.head _) J J J (k - 1) 0 (by omega) (Yas (by omega)) (ZnB J) (.nil ?_);refine .region (.mm ?_);refine .sA (.rem J J J (by omega)) ?_;rw [<- Int.ofNat_tmod, hst.2];refine .aN ?_;refine .region (.mA ?_);refine .sA (.sub64 J J J) ?_;refine .aN ?_;refine ⟨k - 1, (by omega), (by dsimp only; omega), Sub.less ⟨(SLe.kn (by omega)), U, U, U, U, trivial⟩ (Yay HS)⟩
 obtain rfl : k = 0 := by omega
 rw [topF_all, Nat.pow_zero, Nat.div_one];refine .exit (.sr (.sA (.moveO J J) ?_));refine .freeze 37 J (.head _) ?_;refine .sA (.call J (.cons (.rfl' J) .nil) (Yfg (a / w) (wl a) (Nat.lt_of_le_of_lt (Nat.div_le_self _ _) (Ydb a)))) ?_;refine .mA ?_;refine .sA (.call J (.cons (.rfl' J) .nil) (YeX (a % w) (Nat.lt_trans (Nat.lt_trans (Nat.mod_lt _ hw) hw2) (by decide)))) ?_;refine .aa (.nil ?_);refine .ret ?_;refine ⟨RetD.eq J ?_, RetD.eq J ?_, trivial⟩
 all_goals (first | rfl)
theorem o_left (a s : Nat) (hs : s < 32) (ha : wl a <= 1000000000) : OCall Tryz.prog 169 [.sl (natW a), .v (.int .u64 (s : Int))] 171 1 (wsD (dig (a * 2 ^ s)) (wl a + 1)) := by
 refine ocall_of (n := 41) Tryz.func169 J (by kernel_rfl) J 4 J J ?_;intro B w0 F0 fr;refine AWP.seq ?_;refine AWP.region ?_;refine AOps.aA ?_;refine AOps.nil ?_;refine AWP.seq ?_;refine AWP.region ?_;refine AOps.mA ?_;refine AOps.sA (AOp.lenSl J et_118.ht J) ?_;rw [Yaf];refine AOps.sA (AOp.add64 J J J (by omega) (by omega)) ?_;refine AOps.makeI 61 (wl a + 1) J J J J et_118 J J J (by omega) (by omega) J J ?_;refine AOps.sA (AOp.assignO J J) ?_;refine AOps.nil ?_;refine AWP.seq ?_;refine AWP.seq ?_;refine AWP.region ?_;refine AOps.mA ?_;refine AOps.sA (AOp.lenSl J et_118.ht J) ?_;rw [Yaf];refine AOps.mA ?_;refine AOps.nil ?_;refine AWP.block ?_;refine AWP.loop (G := Nat) (fun i => Env.of [(15, .iv i), (13, .d (.sl (natW a))), (14, .iv (wl a : Int)), (5, .own 61), (1, .d (.v (.int .u64 (s : Int))))]) (fun i => [(61, .row 171 1 (wsD (dig (shL a s i)) (wl a + 1)))]) (fun i => i <= wl a) (fun i => wl a - i) 0 (ZnZ _) (Sub.less ⟨U, U, U, U, U, trivial⟩ (Yay (shL_z a s _))) ?_;intro i hi;refine AWP.seq ?_;refine AWP.region ?_;refine AOps.sA (AOp.lss J J J) ?_;refine AOps.nil ?_;refine AWP.seq ?_;refine AWP.cT J (fun h1 => ?_) fun h1 => ?_
 ·have hlt : i < wl a := by omega
  have hst := shL_at (a := a) (s := s) (i := i) hs;refine AWP.skip ?_;refine AWP.seq ?_;refine AWP.block ?_;refine AWP.seq ?_;refine AWP.region ?_;refine AOps.mA ?_;refine AOps.sA (AOp.indexAddr J et_118 J J i J (Yas (by omega)) J) ?_;refine AOps.sA (AOp.load J YaF J) ?_;refine AOps.aA ?_;refine AOps.aA ?_;refine AOps.nil ?_;refine AWP.seq ?_;refine AWP.region ?_;refine AOps.mA ?_;refine AOps.sA (AOp.convInt J Yaj J) ?_;rw [Yc3];refine AOps.mA ?_;refine AOps.sA (AOp.shlG J J J (by omega) (by show _ <= (64 : Int); omega)) ?_;rw [shl_u (shl_s (digB a i) hs)];refine AOps.aA ?_;refine AOps.nil ?_;refine AWP.seq ?_;refine AWP.region ?_;refine AOps.sA (AOp.moveO J J) ?_;refine AOps.mA ?_;refine AOps.sA (AOp.indexOwn J et_118 J J (.head _) i J (by rw [YaD]; omega)) ?_;refine AOps.sA (AOp.loadRow J YaF J (.head _) i 0 J (Yas (by omega)) J) ?_;refine AOps.mA ?_;refine AOps.sA (AOp.convInt J Yan J) ?_;rw [u32m];refine AOps.sA (AOp.orG J J J) ?_;rw [or_low hst.2.2 hs, <- hst.1];refine AOps.sA (AOp.indexOwn J et_118 J J (.head _) i J (by rw [YaD]; omega)) ?_;refine AOps.stR J J J Yc5 J (.head _) J J J i 0 J (Yas (by omega)) (ZnB J) ?_;refine AOps.nil ?_;refine AWP.region ?_;refine AOps.sA (AOp.moveO J J) ?_;refine AOps.mA ?_;refine AOps.sA (AOp.add64 J J J (by omega) (by omega)) ?_;refine AOps.mA ?_;refine AOps.sA (AOp.shrG J J J (by decide) (by decide)) ?_;rw [shr32];refine AOps.sA (AOp.convInt J Yan J) ?_;rw [u32m, y_hi hs, <- hst.2.1];refine AOps.sA (AOp.indexOwn J et_118 J J (.head _) (i + 1) J (by rw [List.length_set, YaD]; omega)) ?_;refine AOps.stR J J J Yc5 J (.head _) J J J (i + 1) 0 J ((List.getElem?_set_ne (by omega)).trans (Yas (by omega))) (ZnB J) ?_;refine AOps.nil ?_;refine AWP.region ?_;refine AOps.sA (AOp.add64 J J J (by omega) (by omega)) ?_;refine AOps.mA ?_;refine AOps.nil ?_;refine ⟨i + 1, (by omega), (by dsimp only; omega), Sub.less ⟨U, U, U, U, U, trivial⟩ (Yay (shL_row hs (by omega)))⟩
 ·obtain rfl : i = wl a := by omega
  rw [shL_all (Ydb a)];refine AWP.exit ?_;refine AWP.seq ?_;refine AWP.region ?_;refine AOps.sA (AOp.moveO J J) ?_;refine AOps.sA (AOp.assignO J J) ?_;refine AOps.nil ?_;refine AWP.ret ?_;refine ⟨61, J, YdC (.head _) ?_⟩
  first | rfl
end
section
open Go.RowKit Go.Shelf
theorem run_copy_sz {P : Program} (w : World) (dT sT ty elem : TypeId) (size b o dLen dCap : Nat) (a : Addr) (sLen sCap : Nat) (cs : List Value)
 (hu : P.underlying dT = some (.slice elem)) (hs : (P.info? elem).map (·.size) = some size) (hn : cs.length = Nat.min sLen dLen * size)
 (hsrc : ∀ j v, cs[j]? = some v -> w.cell? (a.add j) = some v) (hc : ∀ j, j < cs.length -> (w.cell? ⟨b, o + j, none⟩).isSome = true) (hf : ∀ j, j < cs.length -> w.frozen? ⟨b, o + j, none⟩ = false) (h1 : ∀ v ∈ cs, v.oneCell' = true) :
 (Builtin.copy_ #[dT, sT] ty #[.slice (some ⟨b, o, none⟩) dLen dCap, .slice (some a) sLen sCap]).run P w = .ok (goInt (Nat.min sLen dLen)) (w.setCells b o cs) := by
 have hl := run_firstCells_some (P := P) w size (Nat.min sLen dLen) a sLen sCap cs hn hsrc;have hst := run_storeCells_cells (P := P) b o cs 0 w (by simpa using hc) (by simpa using hf) h1
 cases hq : P.info? elem with
 | none => simp [hq] at hs
 | some i =>
  have hi : i.size = size := by simpa [hq] using hs
  simp only [Nat.min_def] at hl;simp [Builtin.copy_, run_underlying hu, Builtin.lenOf, sizeOf, typeInfo, hq, hi, Nat.min_def, hl, hst]
section
variable {cx : Cx} {e : Env} {σ : Obs} {Q : Post}
end
section
variable {cx : Cx} {ops : Array Oper} {o : Oper} {rest : List Oper} {e : Env} {σ : Obs} {Q : Post}
end
end
end Go.Proofs.YtohllekllkcfiaaGreatDoor
