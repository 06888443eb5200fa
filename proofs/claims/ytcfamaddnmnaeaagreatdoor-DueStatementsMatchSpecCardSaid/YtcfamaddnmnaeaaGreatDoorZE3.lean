/- Walks and laws over abstract values, merged by tools/merge.py. No statement of the seat. -/
import Derived.WalkKit
import Derived.Ground.NamesProg
import Derived.Shelf.Strings.SlTrimAscii
import Derived.Shelf.Small.Strs
import Derived.Shelf.Small.Wraps
import Derived.Shelf.Strings.Search3
import Derived.Shelf.LaysM
import Derived.Test.YtcfamaddnmnaeaaGreatDoorProg
import Derived.Lib.Bytealg
import Derived.Lib.IndexLaws
import Derived.Lib.SlTrimSet
import Derived.Lib.SlicesCompact
import Derived.Lib.RowBridge
import Derived.Lib.Strings
import Derived.Lib.ConvBytes
import Derived.Test.YtcfamaddnmnaeaaGreatDoorZE2
set_option linter.unusedSimpArgs false
set_option linter.unusedVariables false
set_option maxHeartbeats 1000000
set_option maxRecDepth 100000
open List renaming length_map -> ZlM, getElem?_eq_getElem -> ZgE, getElem?_eq_some_iff -> ZgS, getElem_mem -> ZgM, length_take -> ZlT, getD_eq_getElem?_getD -> ZgD, getElem_map -> ZgP, getElem?_take -> ZgT, map_append -> ZmA, mem_singleton -> ZmS, mem_map -> ZmM
open Array renaming length_toList -> ZaL, getD_eq_getD_getElem? -> ZaD
open Nat renaming le_of_ble_eq_true -> ZnB, zero_le -> ZnZ, le_refl -> ZnR
open Bool renaming and_eq_true -> ZbA
namespace Go.Proofs.YtcfamaddnmnaeaaGreatDoor
open Go.RowKit
open Ty
def rowF (f : Nat -> Int) (n : Nat) : List (List D) := (List.range n).map fun i => intD (f i)
theorem YaD (f : Nat -> Int) (n : Nat) : (rowF f n).length = n := by unfold rowF; simp
theorem Ybg {f : Nat -> Int} {n k : Nat} (h : k < n) : (rowF f n)[k]? = some (intD (f k)) := by unfold rowF; simp [h]
theorem Ybi {f g : Nat -> Int} {n : Nat} (h : ∀ i, i < n -> f i = g i) : rowF f n = rowF g n := by
 unfold rowF
 exact List.map_congr_left fun i hi => by rw [h i (List.mem_range.1 hi)]
theorem Ycr {f g : Nat -> Int} {n k : Nat} {v : Int} (hk : k < n) (h : ∀ i, i < n -> g i = if i = k then v else f i) : (rowF f n).set k (intD v) = rowF g n := by
 apply List.ext_getElem?
 intro i
 rw [List.getElem?_set, YaD]
 by_cases e : k = i
 ·subst e
  rw [if_pos rfl, if_pos hk, Ybg hk, h k hk, if_pos rfl]
 ·rw [if_neg e]
  by_cases hi : i < n
  ·rw [Ybg hi, Ybg hi, h i hi, if_neg (Ne.symm e)]
  ·rw [List.getElem?_eq_none (by rw [YaD]; omega), List.getElem?_eq_none (by rw [YaD]; omega)]
theorem rowF_zero (n : Nat) : List.replicate n (intD 0) = rowF (fun _ => 0) n := by
 unfold rowF
 rw [List.map_const', List.length_range]
def Yau (t : Int) (ws : List Int) : Int :=
 if (ws.length : Int) = 0 then 9 else if 500 < (ws.length : Int) then 2 else if ¬ (0 <= t /\ t <= 1000000000) then 1 else if ∃ w ∈ ws, ¬ (0 <= w /\ w <= 1000000000) then 1 else if ws.sum = 0 then 13 else 0
def wAt (ws : List Int) (i : Nat) : Int := ws.getD i 0
def qAt (t : Int) (ws : List Int) (i : Nat) : Int := t * wAt ws i / ws.sum
def rAt (t : Int) (ws : List Int) (i : Nat) : Int := t * wAt ws i % ws.sum
def YaR (t : Int) (ws : List Int) (k : Nat) : Int := t - ((List.range k).map (qAt t ws)).sum
def cmpF (t : Int) (ws : List Int) {n : Nat} (i k : Fin n) : Int := if rAt t ws k < rAt t ws i then -1 else if rAt t ws i < rAt t ws k then 1 else 0
theorem pre_cmpF (t : Int) (ws : List Int) (n : Nat) : PreC (cmpF t ws (n := n)) := by
 constructor
 ·intro x y h
  unfold cmpF at *
  split at h
  ·rw [if_neg (by omega), if_pos (by assumption)]; decide
  ·split at h <;> simp at h
 ·intro x y z h1 h2
  unfold cmpF at *
  by_cases h3 : rAt t ws x < rAt t ws y
  ·rw [if_pos h3] at h1; simp at h1
  ·by_cases h4 : rAt t ws y < rAt t ws z
   ·rw [if_pos h4] at h2; simp at h2
   ·rw [if_neg (by omega)]; split <;> decide
def idL (n : Nat) : List (Fin n × Nat) := (List.finRange n).map fun i => (i, i.val)
theorem idL_len (n : Nat) : (idL n).length = n := by unfold idL; simp
theorem idL_incr (n : Nat) : (idL n).Pairwise (fun x y => x.2 < y.2) := by
 unfold idL
 rw [List.pairwise_map]
 refine List.pairwise_iff_getElem.2 fun i j hi hj hij => ?_
 simpa using hij
theorem idL_incr' (n b : Nat) : Incr (idL n) 0 b := fun i j x y _ hij _ hx hy => by
 obtain ⟨h1, e1⟩ := ZgS.1 hx
 obtain ⟨h2, e2⟩ := ZgS.1 hy
 rw [<- e1, <- e2]
 exact List.pairwise_iff_getElem.1 (idL_incr n) i j h1 h2 hij
theorem idL_tags (n : Nat) : TagsOk (idL n) := by
 unfold TagsOk
 rw [List.Nodup, List.pairwise_map]
 exact (idL_incr n).imp fun h => by omega
theorem idL_row (n : Nat) : (idL n).map fds = rowF (fun i => (i : Int)) n := by
 apply List.ext_getElem?
 intro i
 by_cases hi : i < n
 ·rw [Ybg hi]
  unfold idL
  simp [hi, fds, intD]
 ·rw [List.getElem?_eq_none (by rw [ZlM, idL_len]; omega), List.getElem?_eq_none (by rw [YaD]; omega)]
def ordL (t : Int) (ws : List Int) : List (Fin ws.length × Nat) := YaY (cmpF t ws) (idL ws.length) 0 (idL ws.length).length
def pick (t : Int) (ws : List Int) (j : Nat) : List Nat := ((ordL t ws).take j).map fun p => p.1.val
theorem ordL_perm (t : Int) (ws : List Int) : (ordL t ws).Perm (idL ws.length) := sortSeg_perm _ _ (ZnZ _)
theorem ordL_len (t : Int) (ws : List Int) : (ordL t ws).length = ws.length := by rw [(ordL_perm t ws).length_eq, idL_len]
theorem ordL_tag {t : Int} {ws : List Int} {p : Fin ws.length × Nat} (h : p ∈ ordL t ws) : p.2 = p.1.val := by
 have := (ordL_perm t ws).subset h
 unfold idL at this
 obtain ⟨i, _, rfl⟩ := ZmM.1 this
 rfl
theorem ordL_all {t : Int} {ws : List Int} {i : Nat} (h : i < ws.length) : ∃ m, ∃ hm : m < (ordL t ws).length, (ordL t ws)[m].1.val = i := by
 have : ((⟨i, h⟩ : Fin ws.length), i) ∈ ordL t ws := (ordL_perm t ws).symm.subset (ZmM.2 ⟨⟨i, h⟩, by simp, rfl⟩)
 obtain ⟨m, hm, e⟩ := List.mem_iff_getElem.1 this
 exact ⟨m, hm, by rw [e]⟩
theorem ordL_inj {t : Int} {ws : List Int} {m k : Nat} (hm : m < (ordL t ws).length) (hk : k < (ordL t ws).length) (h : (ordL t ws)[m].1.val = (ordL t ws)[k].1.val) : m = k := by
 have ht : TagsOk (ordL t ws) := (idL_tags ws.length).perm (ordL_perm t ws)
 unfold TagsOk at ht
 have h1 : ((ordL t ws).map Prod.snd)[m]'(by simpa using hm) = ((ordL t ws).map Prod.snd)[k]'(by simpa using hk) := by
  rw [ZgP, ZgP, ordL_tag (ZgM hm), ordL_tag (ZgM hk), h]
 exact (List.getElem_inj ht).1 h1
theorem ordL_sorted {t : Int} {ws : List Int} {m k : Nat} (hmk : m < k) (hk : k < (ordL t ws).length) : rAt t ws (ordL t ws)[k].1.val < rAt t ws ((ordL t ws)[m]'(by omega)).1.val \/ (rAt t ws (ordL t ws)[k].1.val <= rAt t ws ((ordL t ws)[m]'(by omega)).1.val /\ ((ordL t ws)[m]'(by omega)).1.val < (ordL t ws)[k].1.val) := by
 have hs : SortedOn (cmpF t ws) (ordL t ws) 0 (idL ws.length).length := sortSeg_sorted (pre_cmpF t ws ws.length) (ZnZ _) (ZnR _) (idL_tags _)
 have hl := ordL_len t ws
 have h := hs m k _ _ (ZnZ _) hmk (by rw [idL_len]; omega) (ZgE (by omega)) (ZgE hk)
 unfold tlt cmpF at h
 rw [ordL_tag (ZgM _), ordL_tag (ZgM hk)] at h
 rcases h with h | ⟨h1, h2⟩
 ·left
  split at h
  ·assumption
  ·split at h <;> simp at h
 ·right
  refine ⟨?_, h2⟩
  by_cases h3 : rAt t ws ((ordL t ws)[m]'(by omega)).1.val < rAt t ws (ordL t ws)[k].1.val
  ·rw [if_pos h3] at h1; simp at h1
  ·omega
theorem pick_succ {t : Int} {ws : List Int} {j : Nat} (hj : j < (ordL t ws).length) : pick t ws (j + 1) = pick t ws j ++ [(ordL t ws)[j].1.val] := by
 unfold pick; rw [List.take_add_one, ZgE hj, Option.toList_some, ZmA]; rfl
theorem mem_pick {t : Int} {ws : List Int} {j i : Nat} : i ∈ pick t ws j ↔ ∃ m, ∃ hm : m < (ordL t ws).length, m < j /\ (ordL t ws)[m].1.val = i := by
 unfold pick
 rw [ZmM]
 constructor
 ·rintro ⟨p, hp, rfl⟩
  obtain ⟨m, hm, e⟩ := List.mem_take_iff_getElem.1 hp
  exact ⟨m, by omega, by omega, by rw [e]⟩
 ·rintro ⟨m, hm, hmj, rfl⟩
  exact ⟨_, List.mem_take_iff_getElem.2 ⟨m, by omega, J⟩, J⟩
theorem pick_new {t : Int} {ws : List Int} {j : Nat} (hj : j < (ordL t ws).length) : ¬ (ordL t ws)[j].1.val ∈ pick t ws j := fun h => by
 obtain ⟨m, hm, hmj, e⟩ := mem_pick.1 h
 have := ordL_inj hm hj e
 omega
def outF (t : Int) (ws : List Int) (j i : Nat) : Int := qAt t ws i + if i ∈ pick t ws j then 1 else 0
def restF (t : Int) (ws : List Int) (j i : Nat) : Int := if i ∈ pick t ws j then -1 else rAt t ws i
theorem Ya9 {t : Int} {ws : List Int} {j i : Nat} (hj : j < (ordL t ws).length) : i ∈ pick t ws (j + 1) ↔ i ∈ pick t ws j \/ i = (ordL t ws)[j].1.val := by rw [pick_succ hj, List.mem_append, ZmS]
theorem outF_succ {t : Int} {ws : List Int} {j : Nat} (hj : j < (ordL t ws).length) (i : Nat) : outF t ws (j + 1) i = if i = (ordL t ws)[j].1.val then outF t ws j (ordL t ws)[j].1.val + 1 else outF t ws j i := by
 unfold outF
 by_cases h : i = (ordL t ws)[j].1.val
 ·subst h
  rw [if_pos rfl, if_pos ((Ya9 hj).2 (.inr rfl)), if_neg (pick_new hj)]
  omega
 ·rw [if_neg h]
  by_cases h2 : i ∈ pick t ws j
  ·rw [if_pos h2, if_pos ((Ya9 hj).2 (.inl h2))]
  ·rw [if_neg h2, if_neg (fun h3 => ((Ya9 hj).1 h3).elim h2 h)]
theorem restF_succ {t : Int} {ws : List Int} {j : Nat} (hj : j < (ordL t ws).length) (i : Nat) : restF t ws (j + 1) i = if i = (ordL t ws)[j].1.val then -1 else restF t ws j i := by
 unfold restF
 by_cases h : i = (ordL t ws)[j].1.val
 ·rw [if_pos h, if_pos ((Ya9 hj).2 (.inr h))]
 ·rw [if_neg h]
  by_cases h2 : i ∈ pick t ws j
  ·rw [if_pos h2, if_pos ((Ya9 hj).2 (.inl h2))]
  ·rw [if_neg h2, if_neg (fun h3 => ((Ya9 hj).1 h3).elim h2 h)]
def FstMax (f : Nat -> Int) (n b : Nat) : Prop := ∀ i, i < n -> f i < f b \/ (f i <= f b /\ b <= i)
theorem fstMax_one {f : Nat -> Int} {n a b : Nat} (ha : a < n) (hb : b < n) (h1 : FstMax f n a) (h2 : FstMax f n b) : a = b := by
 have := h1 b hb
 have := h2 a ha
 omega
theorem rAt_nonneg {t : Int} {ws : List Int} (hS : 0 < ws.sum) (i : Nat) : 0 <= rAt t ws i := Int.emod_nonneg _ (by omega)
theorem next_max {t : Int} {ws : List Int} (hS : 0 < ws.sum) {j : Nat} (hj : j < (ordL t ws).length) : FstMax (restF t ws j) ws.length (ordL t ws)[j].1.val := fun i hi => by
 have hr : restF t ws j (ordL t ws)[j].1.val = rAt t ws (ordL t ws)[j].1.val := if_neg (pick_new hj)
 have h0 := rAt_nonneg (t := t) hS (ordL t ws)[j].1.val
 rw [hr]
 by_cases h2 : i ∈ pick t ws j
 ·left
  unfold restF
  rw [if_pos h2]; omega
 ·obtain ⟨m, hm, e⟩ := ordL_all (t := t) hi
  have hmj : ¬ m < j := fun h => h2 (mem_pick.2 ⟨m, hm, h, e⟩)
  unfold restF
  rw [if_neg h2]
  by_cases hje : m = j
  ·subst hje
   right
   rw [e]
   exact ⟨Int.le_refl _, ZnR _⟩
  ·have h3 := ordL_sorted (t := t) (ws := ws) (m := j) (k := m) (by omega) hm
   rw [e] at h3
   omega
namespace Ty
theorem YaO : Scal Tryz.prog 37 := .of (by kernel_rfl)
theorem zt_3 : (Tryz.prog.info? 3).bind (·.zero) = some (.int .i64 0) := by kernel_rfl
end Ty
structure DivOk (t : Int) (ws : List Int) : Prop where
 n0 : 0 < ws.length
 n1 : ws.length <= 500
 t0 : 0 <= t /\ t <= 1000000000
 w0 : ∀ w ∈ ws, 0 <= w /\ w <= 1000000000
 s0 : 0 < ws.sum
theorem sum_bnd : ∀ {l : List Int}, (∀ w ∈ l, 0 <= w /\ w <= 1000000000) -> 0 <= l.sum /\ l.sum <= 1000000000 * (l.length : Int)
 | [], _ => by simp
 | w :: l, h => by
  have h1 := sum_bnd (l := l) fun x hx => h x (List.mem_cons_of_mem _ hx)
  have h2 := h w List.mem_cons_self
  simp only [List.sum_cons, List.length_cons, Int.natCast_add, Int.natCast_one, Int.mul_add]
  omega
theorem take_sum {l : List Int} {k : Nat} (hk : k < l.length) : (l.take (k + 1)).sum = (l.take k).sum + l[k] := by
 rw [List.take_add_one, ZgE hk, Option.toList_some, List.sum_append]; simp
theorem wAt_eq {ws : List Int} {k : Nat} (hk : k < ws.length) : wAt ws k = ws[k] := by unfold wAt; rw [ZgD, ZgE hk]; rfl
theorem DivOk.w {t : Int} {ws : List Int} (h : DivOk t ws) (i : Nat) : 0 <= wAt ws i /\ wAt ws i <= 1000000000 := by
 by_cases hi : i < ws.length
 ·rw [wAt_eq hi]; exact h.w0 _ (ZgM hi)
 ·unfold wAt; rw [ZgD, List.getElem?_eq_none (by omega)]; simp
theorem mul_bnd {t w : Int} (ht : 0 <= t /\ t <= 1000000000) (hw : 0 <= w /\ w <= 1000000000) : 0 <= t * w /\ t * w <= 1000000000000000000 := by
 refine ⟨Int.mul_nonneg ht.1 hw.1, ?_⟩
 have h1 : t * w <= t * 1000000000 := Int.mul_le_mul_of_nonneg_left hw.2 ht.1
 omega
theorem DivOk.q {t : Int} {ws : List Int} (h : DivOk t ws) (i : Nat) : ws.sum * qAt t ws i + rAt t ws i = t * wAt ws i /\ 0 <= qAt t ws i /\ 0 <= rAt t ws i /\ rAt t ws i <= ws.sum - 1 := by
 have hm := mul_bnd h.t0 (h.w i)
 have hs := h.s0
 refine ⟨?_, Int.ediv_nonneg hm.1 (by omega), Int.emod_nonneg _ (by omega), by have := Int.emod_lt_of_pos (t * wAt ws i) hs; unfold rAt; omega⟩
 unfold qAt rAt
 exact Int.mul_ediv_add_emod _ _
theorem Ycu (t : Int) (ws : List Int) (k : Nat) : YaR t ws (k + 1) = YaR t ws k - qAt t ws k := by
 unfold YaR
 rw [List.range_succ, ZmA, List.sum_append]
 simp
 omega
theorem DivOk.left {t : Int} {ws : List Int} (h : DivOk t ws) : ∀ k, k <= ws.length -> ws.sum * (t - YaR t ws k) <= t * (ws.take k).sum /\ t * (ws.take k).sum <= ws.sum * (t - YaR t ws k) + k * (ws.sum - 1) /\ YaR t ws k <= t
 | 0, _ => by simp [YaR]
 | k + 1, hk => by
  obtain ⟨h1, h2, h3⟩ := h.left k (by omega)
  obtain ⟨q1, q2, q3, q4⟩ := h.q k
  have hw : wAt ws k = ws[k] := wAt_eq (by omega)
  rw [take_sum (by omega), <- hw, Int.mul_add, Ycu, show t - (YaR t ws k - qAt t ws k) = (t - YaR t ws k) + qAt t ws k by omega, Int.mul_add, show ((k + 1 : Nat) : Int) = (k : Int) + 1 from rfl, Int.add_mul, Int.one_mul]
  omega
theorem DivOk.sumTo {t : Int} {ws : List Int} (h : DivOk t ws) (k : Nat) : 0 <= (ws.take k).sum /\ (ws.take k).sum <= ws.sum := by
 have h1 := sum_bnd (l := ws.take k) fun w hw => h.w0 w (List.mem_of_mem_take hw)
 have h2 := sum_bnd (l := ws.drop k) fun w hw => h.w0 w (List.mem_of_mem_drop hw)
 have h3 : ws.sum = (ws.take k).sum + (ws.drop k).sum := by rw [<- List.sum_append, List.take_append_drop]
 omega
theorem DivOk.leftB {t : Int} {ws : List Int} (h : DivOk t ws) {k : Nat} (hk : k <= ws.length) : 0 <= YaR t ws k /\ YaR t ws k <= t := by
 obtain ⟨h1, _, h3⟩ := h.left k hk
 refine ⟨?_, h3⟩
 have h4 : t * (ws.take k).sum <= t * ws.sum := Int.mul_le_mul_of_nonneg_left (h.sumTo k).2 h.t0.1
 have h5 : ws.sum * (t - YaR t ws k) <= ws.sum * t := by rw [Int.mul_comm ws.sum t]; omega
 have := Int.le_of_mul_le_mul_left h5 h.s0
 omega
theorem DivOk.leftN {t : Int} {ws : List Int} (h : DivOk t ws) : YaR t ws ws.length < (ws.length : Int) := by
 obtain ⟨_, h2, _⟩ := h.left ws.length (ZnR _)
 rw [List.take_length] at h2
 have hn := h.n0
 have h3 : ws.sum * YaR t ws ws.length < ws.sum * (ws.length : Int) := by
  rw [Int.mul_sub] at h2
  have h4 : (ws.length : Int) * (ws.sum - 1) = ws.sum * (ws.length : Int) - ws.length := by rw [Int.mul_sub, Int.mul_comm (ws.length : Int) ws.sum, Int.mul_one]
  rw [h4, Int.mul_comm t ws.sum] at h2
  omega
 exact Int.lt_of_mul_lt_mul_left h3 (by have := h.s0; omega)
theorem DivOk.qB {t : Int} {ws : List Int} (h : DivOk t ws) {k : Nat} (hk : k < ws.length) : 0 <= qAt t ws k /\ qAt t ws k <= 1000000000 := by
 have h1 := h.leftB (k := k) (by omega)
 have h2 := h.leftB (k := k + 1) (by omega)
 rw [Ycu] at h2
 have := (h.q k).2.1
 have := h.t0
 omega
theorem DivOk.outB {t : Int} {ws : List Int} (h : DivOk t ws) (j : Nat) {k : Nat} (hk : k < ws.length) : 0 <= outF t ws j k /\ outF t ws j k <= 1000000001 := by
 have := h.qB hk
 unfold outF
 split <;> omega
def divR (t : Int) (ws : List Int) : List (List D) := if Yau t ws = 0 then rowF (outF t ws (YaR t ws ws.length).toNat) ws.length else []
theorem Ybz {t : Int} {ws : List Int} (h : Yau t ws ≠ 0) : divR t ws = [] := if_neg h
theorem div_9 {t : Int} {ws : List Int} (h : (ws.length : Int) = 0) : Yau t ws = 9 := if_pos h
theorem div_2 {t : Int} {ws : List Int} (h : ¬ (ws.length : Int) = 0) (h2 : 500 < (ws.length : Int)) : Yau t ws = 2 := (if_neg h).trans (if_pos h2)
theorem div_1 {t : Int} {ws : List Int} (h : ¬ (ws.length : Int) = 0) (h2 : ¬ 500 < (ws.length : Int)) (h3 : ¬ (0 <= t /\ t <= 1000000000)) : Yau t ws = 1 := (if_neg h).trans ((if_neg h2).trans (if_pos h3))
theorem div_1w {t : Int} {ws : List Int} (h : ¬ (ws.length : Int) = 0) (h2 : ¬ 500 < (ws.length : Int)) (h3 : 0 <= t /\ t <= 1000000000) (h4 : ∃ w ∈ ws, ¬ (0 <= w /\ w <= 1000000000)) : Yau t ws = 1 := (if_neg h).trans ((if_neg h2).trans ((if_neg fun hh => hh h3).trans (if_pos h4)))
theorem div_in {t : Int} {ws : List Int} (h : ¬ (ws.length : Int) = 0) (h2 : ¬ 500 < (ws.length : Int)) (h3 : 0 <= t /\ t <= 1000000000) (h4 : ∀ w ∈ ws, 0 <= w /\ w <= 1000000000) : Yau t ws = if ws.sum = 0 then 13 else 0 :=
 (if_neg h).trans ((if_neg h2).trans ((if_neg fun hh => hh h3).trans (if_neg fun ⟨w, hw, hn⟩ => hn (h4 w hw))))
theorem all_take {P : Int -> Prop} {ws : List Int} (h : ∀ w ∈ ws.take ws.length, P w) : ∀ w ∈ ws, P w := by rwa [List.take_length] at h
theorem take_next {P : Int -> Prop} {ws : List Int} {k : Nat} (hk : k < ws.length) (h : ∀ w ∈ ws.take k, P w) (h2 : P ws[k]) : ∀ w ∈ ws.take (k + 1), P w := by
 intro w hw
 rw [List.take_add_one, ZgE hk] at hw
 simp only [Option.toList_some, List.mem_append, ZmS] at hw
 rcases hw with h1 | h1
 ·exact h w h1
 ·rw [h1]; exact h2
theorem step_if (g : Nat -> Int) (k i : Nat) : (if i < k + 1 then g i else 0) = if i = k then g k else if i < k then g i else 0 := by
 by_cases h : i = k
 ·subst h; rw [if_pos (by omega), if_pos rfl]
 ·rw [if_neg h]
  by_cases h2 : i < k
  ·rw [if_pos (by omega), if_pos h2]
  ·rw [if_neg (by omega), if_neg h2]
theorem rows_2c {i1 e1 s1 i2 e2 s2 : Nat} {q : Nat × Ob} {a1 b1 a2 b2 : List (List D)} {τ : Obs} (h1 : a1 = b1) (h2 : a2 = b2) : ∀ p ∈ [(i1, Ob.row e1 s1 b1), (i2, Ob.row e2 s2 b2), q], p ∈ (i1, Ob.row e1 s1 a1) :: (i2, Ob.row e2 s2 a2) :: q :: τ := fun p hp => by
 subst h1; subst h2
 rcases List.mem_cons.1 hp with rfl | hp
 ·exact .head _
 ·rcases List.mem_cons.1 hp with rfl | hp
  ·exact .tail _ (.head _)
  ·rw [ZmS] at hp; subst hp; exact .tail _ (.tail _ (.head _))
theorem rows_2 {i1 e1 s1 i2 e2 s2 : Nat} {a1 b1 a2 b2 : List (List D)} {τ : Obs} (h1 : a1 = b1) (h2 : a2 = b2) : ∀ p ∈ [(i1, Ob.row e1 s1 b1), (i2, Ob.row e2 s2 b2)], p ∈ (i1, Ob.row e1 s1 a1) :: (i2, Ob.row e2 s2 a2) :: τ := fun p hp => by
 subst h1; subst h2
 rcases List.mem_cons.1 hp with rfl | hp
 ·exact .head _
 ·rw [ZmS] at hp; subst hp; exact .tail _ (.head _)
theorem c_pWithin (n a b : Int) : Yaq Tryz.prog 77 [.v (.int .i64 n), .v (.int .i64 a), .v (.int .i64 b)] (.v (.bool (decide (a <= n /\ n <= b)))) := by
 refine Yah (n := 15) (ds' := [.v (.bool (decide (a <= n /\ n <= b)))]) Tryz.func77 J (by kernel_rfl) J [6] J J ?_
 intro B w0 F0 fr
 refine .sr (.aN ?_)
 refine .sr (.mA ?_)
 refine .mA ?_
 refine .sA (.geq J J J) ?_
 refine .mA ?_
 refine .sT 10 J (fun g1 => ?_) fun g1 => ?_
 ·refine .sG (.moveD J J) ?_
  refine .sG (.moveD J J) ?_
  refine .sG (.leq J J J) ?_
  refine .sA (.pickT J J J) ?_
  refine .aN ?_
  refine .ret (rD J ?_)
  all_goals (simp; omega)
 refine .pA ?_
 refine .pA ?_
 refine .pA ?_
 refine .sA (.pickF J J J) ?_
 refine .aN ?_
 refine .ret (rD J ?_)
 all_goals (simp; omega)
theorem c_rWithin (n a b : Int) : Yaq Tryz.prog 107 [.v (.int .i64 n), .v (.int .i64 a), .v (.int .i64 b)] (.v (.bool (decide (a <= n /\ n <= b)))) := by
 refine Yah (n := 15) (ds' := [.v (.bool (decide (a <= n /\ n <= b)))]) Tryz.func107 J (by kernel_rfl) J [6] J J ?_
 intro B w0 F0 fr
 refine .sr (.aN ?_)
 refine .sr (.mA ?_)
 refine .mA ?_
 refine .sA (.leq J J J) ?_
 refine .mA ?_
 refine .sT 10 J (fun g1 => ?_) fun g1 => ?_
 ·refine .sG (.moveD J J) ?_
  refine .sG (.moveD J J) ?_
  refine .sG (.leq J J J) ?_
  refine .sA (.pickT J J J) ?_
  refine .aN ?_
  refine .ret (rD J ?_)
  all_goals (simp; omega)
 refine .pA ?_
 refine .pA ?_
 refine .pA ?_
 refine .sA (.pickF J J J) ?_
 refine .aN ?_
 refine .ret (rD J ?_)
 all_goals (simp; omega)
theorem c_isNaN (n : Int) : Yaq Tryz.prog 126 [.v (.int .i64 n)] (.v (.bool false)) := by
 refine Yah (n := 6) (ds' := [.v (.bool false)]) Tryz.func126 J (by kernel_rfl) J [2] J J ?_
 intro B w0 F0 fr
 refine .sr (.aN ?_)
 refine .sr (.mA ?_)
 refine .mA ?_
 refine .sA (.neq J J J) ?_
 refine .aN ?_
 refine .ret (rD J ?_)
 all_goals (simp)
theorem c_cmpInt (a b : Int) : Yaq Tryz.prog 80 [.v (.int .i64 a), .v (.int .i64 b)] (.v (.int .i64 (if a < b then -1 else if b < a then 1 else 0))) := by
 refine Yah (n := 20) (ds' := [.v (.int .i64 (if a < b then -1 else if b < a then 1 else 0))]) Tryz.func80 J (by kernel_rfl) J [4] J J ?_
 intro B w0 F0 fr
 refine .sr (.aN ?_)
 refine .sr (.mA ?_)
 refine .sA (.call J (.cons (.rfl' J) .nil) (c_isNaN _)) ?_
 refine .aN ?_
 refine .sr (.mA ?_)
 refine .sA (.call J (.cons (.rfl' J) .nil) (c_isNaN _)) ?_
 refine .aN ?_
 refine .seq (.sr (.mN ?_))
 refine .cond J (fun h => nomatch h) (fun _ => ?_)
 refine .skip (.seq (.sr (.mN ?_)))
 refine .cond J (fun h => nomatch h) (fun _ => ?_)
 refine .skip (.seq (.sr (.mA ?_)))
 refine .mA ?_
 refine .sA (.lss J J J) (.nil ?_)
 refine .cT J (fun h1 => ?_) fun h1 => ?_
 ·rw [if_pos h1]
  refine .sr (.aN ?_)
  refine .ret (rD J ?_)
  all_goals (rfl)
 rw [if_neg h1]
 refine .skip (.seq (.sr (.mA ?_)))
 refine .mA ?_
 refine .sA (.gtr J J J) (.nil ?_)
 refine .cT J (fun h2 => ?_) fun h2 => ?_
 ·rw [if_pos h2]
  refine .sr (.aN ?_)
  refine .ret (rD J ?_)
  all_goals (rfl)
 rw [if_neg h2]
 refine .skip (.sr (.aN ?_))
 refine .ret (rD J ?_)
 all_goals (rfl)
theorem c_divCmp (t : Int) (ws : List Int) (h : DivOk t ws) (i k : Fin ws.length) : Yaq Tryz.prog 79 [.v (.int .i64 (i.val : Int)), .v (.int .i64 (k.val : Int)), .fp [.v (.int .i64 t)], .fp [.sl (ws.map intD)], .fp [.v (.int .i64 ws.sum)]] (.v (.int .i64 (cmpF t ws i k))) := by
 refine Yah (n := 25) (ds' := [.v (.int .i64 (cmpF t ws i k))]) Tryz.func79 J (by kernel_rfl) J [7] J J ?_
 intro B w0 F0 fr
 have hs := h.s0
 have m1 := mul_bnd h.t0 (h.w0 _ (ZgM i.isLt))
 have m2 := mul_bnd h.t0 (h.w0 _ (ZgM k.isLt))
 have hSB := sum_bnd h.w0
 have hn := h.n1
 have HR : cmpF t ws i k = if t * ws[k.val] % ws.sum < t * ws[i.val] % ws.sum then -1 else if t * ws[i.val] % ws.sum < t * ws[k.val] % ws.sum then 1 else 0 := by unfold cmpF rAt; rw [wAt_eq i.isLt, wAt_eq k.isLt]
 refine .sr (.aN ?_)
 refine .seq (.draw (by kernel_rfl) (by kernel_rfl) ?_)
 refine .sA (.load J sc_3 J) (.sA (.load J YaO J) (.sA (.moveD J J) (.sA (.indexAddr J et_37 J J k.val J (YbK k.isLt) J) (.sA (.load J sc_3 J) ?_))))
 refine .sA (.mul64 J J J) ?_
 refine .sA (.load J sc_3 J) ?_
 refine .sA (.rem64 J J J (by omega) (by omega)) ?_
 refine .sA (.load J sc_3 J) (.sA (.load J YaO J) (.sA (.moveD J J) (.sA (.indexAddr J et_37 J J i.val J (YbK i.isLt) J) (.sA (.load J sc_3 J) ?_))))
 refine .sA (.mul64 J J J) ?_
 refine .sA (.load J sc_3 J) ?_
 refine .sA (.rem64 J J J (by omega) (by omega)) ?_
 refine .sA (.call J (.cons (.rfl' J) (.cons (.rfl' J) .nil)) (c_cmpInt _ _)) (.sA (.assignD J J) ?_)
 refine .nil ?_
 refine .ret (rD J ?_)
 all_goals (rw [HR])
theorem c_pDiv (t : Int) (ws : List Int) (hw20 : ws.length <= 20) : Yaq Tryz.prog 35 [.v (.int .i64 t), .sl (ws.map intD)] (.tup [.sl (divR t ws), .v (.int .i64 (Yau t ws))]) := by
 refine Yah (n := 92) (ds' := [.sl (divR t ws), .v (.int .i64 (Yau t ws))]) Tryz.func35 J (by kernel_rfl) J [4, 5] J J ?_
 intro B w0 F0 fr
 refine .sr (.sA (.box J J J) ?_)
 refine .sA (.box J J J) ?_
 refine .aA ?_
 refine .aN ?_
 refine .seq (.sr (.sA (.load J YaO J) ?_))
 refine .sA (.lenSl J et_37.ht J) ?_
 refine .sA (.eql J J J) (.nil ?_)
 refine .cT J (fun h1 => ?_) fun h1 => ?_
 ·rw [ZlM] at h1
  have HF := div_9 (t := t) h1
  have HR := Ybz (t := t) (ws := ws) (by rw [HF]; decide)
  rw [HR, HF]
  refine .sr (.aA ?_)
  refine .aN ?_
  refine .ret ?_
  refine ⟨RetD.nil J, RetD.eq J ?_, trivial⟩
  all_goals (first | rfl | (rw [Int.toNat_natCast]))
 rw [ZlM] at h1
 have g0 := h1
 refine .skip (.seq (.sr (.sA (.load J YaO J) ?_)))
 refine .sA (.lenSl J et_37.ht J) ?_
 refine .sA (.gtr J J J) (.nil ?_)
 refine .cT J (fun h2 => ?_) fun h2 => ?_
 ·rw [ZlM] at h2
  have HF := div_2 (t := t) g0 h2
  have HR := Ybz (t := t) (ws := ws) (by rw [HF]; decide)
  rw [HR, HF]
  refine .sr (.aA ?_)
  refine .aN ?_
  refine .ret ?_
  refine ⟨RetD.nil J, RetD.eq J ?_, trivial⟩
  all_goals (first | rfl | (rw [Int.toNat_natCast]))
 rw [ZlM] at h2
 have g1 := h2
 refine .skip (.seq (.sr (.sA (.load J sc_3 J) ?_)))
 refine .sA (.call J (.cons (.rfl' J) (.cons (.rfl' J) (.cons (.rfl' J) .nil))) (c_pWithin _ _ _)) ?_
 refine .sA (.not J J) (.nil ?_)
 refine .cN J (fun h3 => ?_) fun h3 => ?_
 ·have HF := div_1 g0 g1 h3
  have HR := Ybz (t := t) (ws := ws) (by rw [HF]; decide)
  rw [HR, HF]
  refine .sr (.aA ?_)
  refine .aN ?_
  refine .ret ?_
  refine ⟨RetD.nil J, RetD.eq J ?_, trivial⟩
  all_goals (first | rfl | (rw [Int.toNat_natCast]))
 have g2 := h3
 refine .skip (.sr (.alloc 101 J J J J zt_3 J J J ?_))
 refine .store J J J sz_3 J (.head _) J J J (ZnB J) (.nil ?_)
 refine .seq (.sr (.sA (.load J YaO J) ?_))
 refine .sA (.lenSl J et_37.ht J) ?_
 refine .mN ?_
 refine .block (.loop (G := Nat) (fun k => Env.of [(27, .iv k), (25, .d (.sl (ws.map intD))), (26, .iv (ws.map intD).length), (6, .ptr 101 0), (2, .d (.fp [.v (.int .i64 t)])), (3, .d (.fp [.sl (ws.map intD)]))]) (fun k => [(101, .cells [.d (.v (.int .i64 (ws.take k).sum))])]) (fun k => k <= ws.length /\ ∀ w ∈ ws.take k, 0 <= w /\ w <= 1000000000) (fun k => ws.length - k) 0 ⟨ZnZ _, fun w hw => by simp at hw⟩ (Sub.less ⟨U, U, U, U, U, U, trivial⟩ (fun _ h => h)) ?_)
 intro k hk
 refine .sr (.sA (.lss J J J) (.nil ?_))
 refine .seq (.cT J (fun h4 => ?_) fun h4 => ?_)
 ·rw [ZlM] at h4
  have hlt : k < ws.length := by omega
  have hsb := sum_bnd (l := ws.take k) hk.2
  have htl : ((ws.take k).length : Int) <= 500 := by rw [ZlT]; omega
  have hts := take_sum hlt
  refine .skip (.seq (.block (.sr (.sA (.indexAddr J et_37 J J k J (YbK hlt) J) ?_))))
  refine .sA (.load J sc_3 J) ?_
  refine .aN ?_
  refine .seq (.sr (.mA ?_))
  refine .sA (.call J (.cons (.rfl' J) (.cons (.rfl' J) (.cons (.rfl' J) .nil))) (c_pWithin _ _ _)) ?_
  refine .sA (.not J J) (.nil ?_)
  refine .cN J (fun h5 => ?_) fun h5 => ?_
  ·have HF := div_1w (t := t) g0 g1 g2 ⟨_, ZgM hlt, h5⟩
   have HR := Ybz (t := t) (ws := ws) (by rw [HF]; decide)
   rw [HR, HF]
   refine .sr (.aA ?_)
   refine .aN ?_
   refine .ret ?_
   refine ⟨RetD.nil J, RetD.eq J ?_, trivial⟩
   all_goals (first | rfl | (rw [Int.toNat_natCast]))
  have hN := take_next hlt hk.2 h5
  refine .skip (.region (.sA (.loadP J sc_3 J (.head _) J) ?_))
  refine .mA ?_
  refine .sA (.add64 J J J) ?_
  refine .store J J J sz_3 J (.head _) J J J (ZnB J) (.nil ?_)
  refine .region (.sA (.add64 J J J) ?_)
  refine .mN ?_
  refine ⟨k + 1, ⟨by omega, hN⟩, (by dsimp only; omega), Sub.less ⟨U, U, U, U, U, U, trivial⟩ (by dsimp only; rw [hts]; exact fun _ h => h)⟩
 rw [ZlM] at h4
 obtain rfl : k = ws.length := by omega
 rw [List.take_length]
 have hall := all_take hk.2
 have HD := div_in (t := t) g0 g1 g2 hall
 have hsb := sum_bnd hall
 refine .exit (.seq (.sr (.sA (.loadP J sc_3 J (.head _) J) ?_)))
 refine .sA (.eql J J J) (.nil ?_)
 refine .cT J (fun h6 => ?_) fun h6 => ?_
 ·have HF : Yau t ws = 13 := HD.trans (if_pos h6)
  have HR := Ybz (t := t) (ws := ws) (by rw [HF]; decide)
  rw [HR, HF]
  refine .sr (.aA ?_)
  refine .aN ?_
  refine .ret ?_
  refine ⟨RetD.nil J, RetD.eq J ?_, trivial⟩
  all_goals (first | rfl | (rw [Int.toNat_natCast]))
 have HF : Yau t ws = 0 := HD.trans (if_neg h6)
 have ok : DivOk t ws := ⟨by omega, by omega, g2, hall, by omega⟩
 have hs := ok.s0
 have hn0 := ok.n0
 have hn1 := ok.n1
 have HR : divR t ws = rowF (outF t ws (YaR t ws ws.length).toNat) ws.length := if_pos HF
 rw [HR, HF]
 refine .skip (.sr (.sA (.load J YaO J) ?_))
 refine .sA (.lenSl J et_37.ht J) ?_
 refine .makeI 102 ws.length J J J J et_37 J J (by rw [ZlM]) (by omega) (by omega) J J ?_
 refine .sA (.assignO J J) (.nil ?_)
 refine .sr (.sA (.load J YaO J) ?_)
 refine .sA (.lenSl J et_37.ht J) ?_
 refine .makeI 103 ws.length J J J J et_37 J J (by rw [ZlM]) (by omega) (by omega) J J ?_
 refine .sA (.assignO J J) (.nil ?_)
 refine .sr (.sA (.load J sc_3 J) ?_)
 refine .aN ?_
 refine .seq (.sr (.sA (.load J YaO J) ?_))
 refine .sA (.lenSl J et_37.ht J) ?_
 refine .mN ?_
 refine .block (.loop (G := Nat) (fun k => Env.of [(49, .iv k), (47, .d (.sl (ws.map intD))), (48, .iv (ws.map intD).length), (6, .ptr 101 0), (9, .own 102), (10, .own 103), (11, .iv (YaR t ws k)), (2, .d (.fp [.v (.int .i64 t)])), (3, .d (.fp [.sl (ws.map intD)]))]) (fun k => [(103, .row 3 1 (rowF (fun i => if i < k then (i : Int) else 0) ws.length)), (102, .row 3 1 (rowF (fun i => if i < k then qAt t ws i else 0) ws.length)), (101, .cells [.d (.v (.int .i64 ws.sum))])]) (fun k => k <= ws.length) (fun k => ws.length - k) 0 (ZnZ _) (Sub.less ⟨U, U, U, U, U, U, (SLe.i64 (by simp [YaR])), U, U, trivial⟩ (rows_2c ((rowF_zero _).trans (Ybi fun i _ => by simp)) ((rowF_zero _).trans (Ybi fun i _ => by simp)))) ?_)
 intro k hk
 refine .sr (.sA (.lss J J J) (.nil ?_))
 refine .seq (.cT J (fun h7 => ?_) fun h7 => ?_)
 ·rw [ZlM] at h7
  have hlt : k < ws.length := by omega
  have m1 := mul_bnd g2 (hall _ (ZgM hlt))
  have hq : qAt t ws k = t * ws[k] / ws.sum := by unfold qAt; rw [wAt_eq hlt]
  have hqb := ok.qB hlt
  have hl1 := ok.leftB (k := k) (by omega)
  have hl2 := Ycu t ws k
  rw [hq] at hqb hl2
  refine .skip (.seq (.block (.sr (.mA ?_))))
  refine .sA (.indexAddr J et_37 J J k J (YbK hlt) J) (.sA (.load J sc_3 J) ?_)
  refine .aA ?_
  refine .aN ?_
  refine .sr (.sA (.moveO J J) ?_)
  refine .mA ?_
  refine .sA (.moveO J J) ?_
  refine .mA ?_
  refine .sA (.load J sc_3 J) ?_
  refine .mA ?_
  refine .sA (.mul64 J J J) ?_
  refine .sA (.loadP J sc_3 J (.tail _ (.tail _ (.head _))) J) ?_
  refine .sA (.quo64 J J J (by omega) (by omega) (by omega)) ?_
  refine .mA ?_
  refine .sA (.indexOwn J et_37 J J (.tail _ (.head _)) k J (by rw [YaD]; exact hlt)) ?_
  refine .storeRow J J J sz_3 J (.tail _ (.head _)) J J J k 0 J (Ybg hlt) (ZnB J) ?_
  refine .sA (.indexOwn J et_37 J J (.head _) k J (by rw [YaD]; exact hlt)) ?_
  refine .storeRow J J J sz_3 J (.head _) J J J k 0 J (Ybg hlt) (ZnB J) (.nil ?_)
  refine .region (.mA ?_)
  refine .sA (.moveO J J) ?_
  refine .mA ?_
  refine .sA (.indexOwn J et_37 J J (.tail _ (.head _)) k J (by rw [List.length_set, YaD]; exact hlt)) ?_
  refine .sA (.loadRow J sc_3 J (.tail _ (.head _)) k 0 J (List.getElem?_set_self (by rw [YaD]; exact hlt)) J) ?_
  refine .sA (.sub64 J J J) ?_
  refine .aN ?_
  refine .region (.sA (.add64 J J J) ?_)
  refine .mN ?_
  refine ⟨k + 1, (by omega), (by dsimp only; omega), Sub.less ⟨U, U, U, U, U, U, (SLe.i64 (by rw [hl2])), U, U, trivial⟩ (rows_2c (Ycr hlt fun i _ => step_if (fun i => (i : Int)) k i) (Ycr hlt fun i _ => by rw [<- hq]; exact step_if (qAt t ws) k i))⟩
 rw [ZlM] at h7
 obtain rfl : k = ws.length := by omega
 have hl1 := ok.leftB (k := ws.length) (ZnR _)
 have hlN := ok.leftN
 obtain ⟨L, hL⟩ : ∃ L : Nat, YaR t ws ws.length = (L : Int) := ⟨(YaR t ws ws.length).toNat, by omega⟩
 rw [hL] at hlN
 have hol := ordL_len t ws
 rw [hL]
 have HO : rowF (fun i => if i < ws.length then (i : Int) else 0) ws.length = (idL ws.length).map fds := (Ybi fun i hi => if_pos hi).trans (idL_row _).symm
 have HQ : rowF (fun i => if i < ws.length then qAt t ws i else 0) ws.length = rowF (outF t ws 0) ws.length := Ybi fun i hi => by rw [if_pos hi]; unfold outF pick; simp
 rw [HO, HQ]
 have hio := idL_len ws.length
 refine .exit (.seq (.freezeCells 6 (ds := [.v (.int .i64 ws.sum)]) J (.tail _ (.tail _ (.head _))) ?_))
 refine .region (.sA (.moveO J J) ?_)
 refine .sA (.makeFunc J (.cons (.rfl' J) (.cons (.rfl' J) (.cons (.rfl' J) .nil)))) ?_
 -- turns 103
 refine .callX J J J (.cons U (.cons U .nil)) ((c_sortStable (cmpF t ws) (pre_cmpF t ws _) _ [.fp [.v (.int .i64 t)], .fp [.sl (ws.map intD)], .fp [.v (.int .i64 ws.sum)]] (fun x y => c_divCmp t ws ok x y) (idL ws.length) (by rw [idL_len]; omega) (idL_tags _) (idL_incr' _ _)) 103) ⟨(.head _), trivial⟩ J J (fun _ h => nomatch h) ?_
 refine .nil ?_
 refine .seq (.sr (.sA (.moveO J J) ?_))
 refine .freeze 76 J (.head _) ?_
 refine .mA ?_
 refine .sA (.sliceH rfl et_37 rfl rfl (by omega) (by rw [ZlM]; show (L : Int) <= ((ordL t ws).length : Int); omega) (fun y hy => by obtain ⟨z, _, rfl⟩ := ZmM.1 hy; rfl)) ?_
 refine .sA (.lenSl J et_37.ht J) ?_
 refine .mN ?_
 refine .block (.loop (G := Nat) (fun j => Env.of [(80, .iv j), (78, .d (.sl (((ordL t ws).map fds).take L))), (79, .iv L), (9, .own 102)]) (fun j => [(102, .row 3 1 (rowF (outF t ws j) ws.length))]) (fun j => j <= L) (fun j => L - j) 0 (ZnZ _) (Sub.less ⟨(SLe.i64 J), U, (SLe.i64 (by show ((((ordL t ws).map fds).take L).length : Int) = L; rw [ZlT, ZlM]; omega)), U, trivial⟩ (Yby J)) ?_)
 intro j hj
 refine .sr (.sA (.lss J J J) (.nil ?_))
 refine .seq (.cT J (fun h8 => ?_) fun h8 => ?_)
 ·have hjL : j < L := by omega
  have hjo : j < (ordL t ws).length := by omega
  have hget : (((ordL t ws).map fds).take L)[j]? = some (fds (ordL t ws)[j]) := by rw [ZgT, if_pos hjL]; exact YbK hjo
  have hob := ok.outB j (ordL t ws)[j].1.isLt
  refine .skip (.seq (.block (.sr (.sA (.indexAddr J et_37 J J j J hget J) ?_))))
  refine .sA (.load J sc_3 J) ?_
  refine .aN ?_
  refine .region (.sA (.moveO J J) ?_)
  refine .mA ?_
  refine .sA (.indexOwn J et_37 J J (.head _) (ordL t ws)[j].1.val J (by rw [YaD]; exact (ordL t ws)[j].1.isLt)) ?_
  refine .sA (.loadRow J sc_3 J (.head _) (ordL t ws)[j].1.val 0 J (Ybg (ordL t ws)[j].1.isLt) J) ?_
  refine .sA (.add64 J J J) ?_
  refine .sA (.indexOwn J et_37 J J (.head _) (ordL t ws)[j].1.val J (by rw [YaD]; exact (ordL t ws)[j].1.isLt)) ?_
  refine .storeRow J J J sz_3 J (.head _) J J J (ordL t ws)[j].1.val 0 J (Ybg (ordL t ws)[j].1.isLt) (ZnB J) (.nil ?_)
  refine .region (.sA (.add64 J J J) ?_)
  refine .mN ?_
  refine ⟨j + 1, (by omega), (by dsimp only; omega), Sub.less ⟨(SLe.i64 rfl), U, U, U, trivial⟩ (Yby (Ycr (ordL t ws)[j].1.isLt fun i _ => outF_succ hjo i))⟩
 obtain rfl : j = L := by omega
 refine .exit (.sr (.sA (.moveO J J) ?_))
 refine .sA (.assignO J J) ?_
 refine .aN ?_
 refine .ret ?_
 refine ⟨RetD.own J (.head _) ?_, RetD.eq J ?_, trivial⟩
 all_goals (first | rfl | (rw [Int.toNat_natCast]))
theorem get_mem {α : Type} {l : List α} {k : Nat} (h : k < l.length) : l[k]? = some l[k] := ZgE h
theorem fault31 : Yau 3 [1, 1] = 0 := by decide
theorem left31 : YaR 3 [1, 1] 2 = 1 := by decide
theorem pick31 : pick 3 [1, 1] 1 = [0] := by
 have hl : (ordL 3 [1, 1]).length = 2 := ordL_len _ _
 have h := ordL_sorted (t := 3) (ws := [1, 1]) (m := 0) (k := 1) (by omega) (by omega)
 have hr : ∀ i, i < 2 -> rAt 3 [1, 1] i = 1 := by decide
 have b0 : (ordL 3 [1, 1])[0].1.val < 2 := (ordL 3 [1, 1])[0].1.isLt
 have b1 : (ordL 3 [1, 1])[1].1.val < 2 := (ordL 3 [1, 1])[1].1.isLt
 rw [hr _ b0, hr _ b1] at h
 have h0 : (ordL 3 [1, 1])[0].1.val = 0 := by omega
 rw [pick_succ (by omega), h0]
 rfl
theorem divR31 : divR 3 [1, 1] = [[D.v (.int .i64 2)], [D.v (.int .i64 1)]] := by
 have hr : ∀ i, i < 2 -> qAt 3 [1, 1] i = 1 := by decide
 have h1 : outF 3 [1, 1] 1 0 = 2 := by unfold outF; rw [pick31, hr 0 (by decide)]; rfl
 have h2 : outF 3 [1, 1] 1 1 = 1 := by unfold outF; rw [pick31, hr 1 (by decide)]; rfl
 unfold divR
 rw [if_pos fault31]
 show rowF (outF 3 [1, 1] (YaR 3 [1, 1] 2).toNat) 2 = _
 rw [left31]
 show [intD (outF 3 [1, 1] 1 0), intD (outF 3 [1, 1] 1 1)] = _
 rw [h1, h2]
 rfl
theorem c_pDiv31 : Yaq Tryz.prog 35 [.v (.int .i64 3), .sl [[.v (.int .i64 1)], [.v (.int .i64 1)]]] (.tup [.sl [[.v (.int .i64 2)], [.v (.int .i64 1)]], .v (.int .i64 0)]) := by
 have h := c_pDiv 3 [1, 1] (by decide)
 rw [fault31, divR31] at h
 exact h
theorem c_eqInt (l : List (List D)) (hl : ∀ x ∈ l, ∃ z : Int, x = [D.v (.int .i64 z)]) : Yaq Tryz.prog 21 [.sl l, .sl l] (.v (.bool true)) := by
 refine Yah (n := 26) (ds' := [.v (.bool true)]) Tryz.func21 J (by kernel_rfl) J [4] J J ?_
 intro B w0 F0 fr
 refine .bound 0 J (fun hbd => ?_)
 refine .sr (.aN ?_)
 refine .seq (.sr (.mA ?_))
 refine .sA (.lenSl J et_37.ht J) ?_
 refine .mA ?_
 refine .sA (.lenSl J et_37.ht J) ?_
 refine .sA (.neq J J J) (.nil ?_)
 refine .cT J (fun h1 => ?_) fun h1 => ?_
 ·exact absurd J h1
 refine .skip (.seq (.sr (.mA ?_)))
 refine .sA (.lenSl J et_37.ht J) ?_
 refine .mN ?_
 refine .block (.loop (G := Nat) (fun k => Env.of [(13, .iv k), (0, .d (.sl l)), (1, .d (.sl l)), (12, .iv l.length)]) (fun k => []) (fun k => k <= l.length) (fun k => l.length - k) 0 (ZnZ _) (Sub.less ⟨U, U, U, U, trivial⟩ (fun _ h => h)) ?_)
 intro k hk
 refine .sr (.sA (.lss J J J) (.nil ?_))
 refine .seq (.cT J (fun h2 => ?_) fun h2 => ?_)
 ·have hlt : k < l.length := by omega
  obtain ⟨z, hz⟩ := hl _ (ZgM hlt)
  have hg := get_mem hlt
  rw [hz] at hg
  refine .skip (.seq (.block (.sr (.mA ?_))))
  refine .aN ?_
  refine .seq (.draw (by kernel_rfl) (by kernel_rfl) ?_)
  refine .sA (.moveD J J) (.sA (.moveD J J) (.sA (.indexAddr J et_37 J J k J hg J) (.sA (.load J sc_3 J) (.sA (.moveD J J) (.sA (.moveD J J) ?_)))))
  refine .sA (.indexAddr J et_37 J J k J hg J) (.sA (.load J sc_3 J) (.sA (.neq J J J) ?_))
  refine .nil ?_
  refine .cT J (fun h3 => ?_) fun h3 => ?_
  ·exact absurd J h3
  refine .skip (.region (.sA (.add64 J J J) ?_))
  refine .mN ?_
  refine ⟨k + 1, (by omega), (by dsimp only; omega), Sub.less ⟨U, U, U, U, trivial⟩ (fun _ h => h)⟩
 refine .exit (.sr (.aN ?_))
 refine .ret (rD J ?_)
 all_goals (rfl)
theorem c_eq31 : Yaq Tryz.prog 21 [.sl [[.v (.int .i64 2)], [.v (.int .i64 1)]], .sl [[.v (.int .i64 2)], [.v (.int .i64 1)]]] (.v (.bool true)) := c_eqInt _ (fun x hx => by
 rcases List.mem_cons.1 hx with rfl | hx
 ·exact ⟨_, J⟩
 rw [ZmS] at hx; subst hx; exact ⟨_, rfl⟩)
theorem c_awake  : Yaq Tryz.prog 11 [] (.v (.bool true)) := by
 refine Yah (n := 15) (ds' := [.v (.bool true)]) Tryz.func11 J (by kernel_rfl) J [0] J J ?_
 intro B w0 F0 fr
 refine .sr (.aN ?_)
 refine .sr (.sA (.buildSlice J et_37 (.cons J J J (.cons J J J .nil)) J (by decide)) ?_)
 refine .sA (.call J (.cons (.rfl' J) (.cons (.rfl' J) .nil)) c_pDiv31) ?_
 refine .mA ?_
 refine .sA (.extract J J J) (.sA (.extract J J J) ?_)
 refine .aA ?_
 refine .aN ?_
 refine .sr (.mA ?_)
 refine .sA (.eql J J J) ?_
 refine .mA ?_
 refine .sT 10 J (fun g1 => ?_) fun g1 => ?_
 ·refine .sG (.moveD J J) ?_
  refine .sG (.buildSlice J et_37 (.cons J J J (.cons J J J .nil)) J (by decide)) ?_
  refine .sG (.call J (.cons (.rfl' J) (.cons (.rfl' J) .nil)) c_eq31) ?_
  refine .sA (.pickT J J J) ?_
  refine .aN ?_
  refine .ret (rD J ?_)
  all_goals (simp)
 exact absurd J g1
end Go.Proofs.YtcfamaddnmnaeaaGreatDoor
namespace Go.Proofs
theorem ZfC {α : Type} {a : Option α} {b c : α} (h : a = some b) (k : b = c := by kernel_rfl) : a = some c := k ▸ h
open Go.Shelf
def Tryz.l160_ren : Go.Shelf.Ren := ⟨fun | 160 => 118 | 232 => 165 | 231 => 164 | 227 => 166 | 234 => 168 | 233 => 167 | 236 => 170 | 235 => 169 | 228 => 215 | 271 => 217 | 151 => 216 | 197 => 213 | 120 => 241 | 152 => 240 | 260 => 239 | 137 => 250 | 119 => 251 | 224 => 159 | 225 => 158 | 217 => 157 | 266 => 210 | n => n, fun | 9 => 9 | 4 => 4 | 3 => 3 | 5 => 5 | 117 => 241 | 116 => 240 | 0 => 0 | 124 => 244 | 21 => 21 | 105 => 275 | 46 => 196 | 119 => 306 | 139 => 309 | 138 => 308 | n => n, fun | 3 => 4 | 4 => 5 | n => n⟩
theorem Tryz.l160 : Go.Proofs.Lays.n160 Tryz.prog Tryz.l160_ren := {
 mixed := by kernel_rfl
 f119 := ZfC Tryz.func251
 f120 := ZfC Tryz.func241
 f137 := ZfC Tryz.func250
 f151 := ZfC Tryz.func216
 f152 := ZfC Tryz.func240
 f160 := ZfC Tryz.func118
 f197 := ZfC Tryz.func213
 f217 := ZfC Tryz.func157
 f224 := ZfC Tryz.func159
 f225 := ZfC Tryz.func158
 f227 := ZfC Tryz.func166
 f228 := ZfC Tryz.func215
 f231 := ZfC Tryz.func164
 f232 := ZfC Tryz.func165
 f233 := ZfC Tryz.func167
 f234 := ZfC Tryz.func168
 f235 := ZfC Tryz.func169
 f236 := ZfC Tryz.func170
 f260 := ZfC Tryz.func239
 f266 := ZfC Tryz.func210
 f271 := ZfC Tryz.func217
 t0 := Tryz.underlying0
 a0 := Tryz.isAgg0
 z0 := Tryz.sizeOf0
 v0 := Tryz.zeroValue0
 t3 := Tryz.underlying3
 a3 := Tryz.isAgg3
 z3 := Tryz.sizeOf3
 v3 := Tryz.zeroValue3
 t4 := Tryz.underlying4
 a4 := Tryz.isAgg4
 z4 := Tryz.sizeOf4
 v4 := Tryz.zeroValue4
 t5 := Tryz.underlying5
 a5 := Tryz.isAgg5
 z5 := Tryz.sizeOf5
 v5 := Tryz.zeroValue5
 t9 := Tryz.underlying9
 a9 := Tryz.isAgg9
 z9 := Tryz.sizeOf9
 v9 := Tryz.zeroValue9
 t21 := Tryz.underlying21
 a21 := Tryz.isAgg21
 z21 := Tryz.sizeOf21
 v21 := Tryz.zeroValue21
 t46 := Tryz.underlying196
 a46 := Tryz.isAgg196
 z46 := Tryz.sizeOf196
 v46 := Tryz.zeroValue196
 t105 := Tryz.underlying275
 a105 := Tryz.isAgg275
 z105 := Tryz.sizeOf275
 v105 := Tryz.zeroValue275
 t116 := Tryz.underlying240
 a116 := Tryz.isAgg240
 z116 := Tryz.sizeOf240
 t117 := Tryz.underlying241
 a117 := Tryz.isAgg241
 z117 := Tryz.sizeOf241
 v117 := Tryz.zeroValue241
 t119 := Tryz.underlying306
 a119 := Tryz.isAgg306
 z119 := Tryz.sizeOf306
 t124 := Tryz.underlying244
 a124 := Tryz.isAgg244
 z124 := Tryz.sizeOf244
 v124 := Tryz.zeroValue244
 t138 := Tryz.underlying308
 a138 := Tryz.isAgg308
 z138 := Tryz.sizeOf308
 v138 := Tryz.zeroValue308
 t139 := Tryz.underlying309
 a139 := Tryz.isAgg309
 z139 := Tryz.sizeOf309
 v139 := Tryz.zeroValue309
 g3 := by kernel_rfl
 g4 := by kernel_rfl }
def Tryz.l106_ren : Go.Shelf.Ren := ⟨fun | 106 => 92 | 213 => 134 | 265 => 197 | n => n, fun | 9 => 9 | 3 => 3 | n => n, fun | n => n⟩
theorem Tryz.l106 : Go.Proofs.Lays.n106 Tryz.prog Tryz.l106_ren := {
 mixed := by kernel_rfl
 f106 := ZfC Tryz.func92
 f213 := ZfC Tryz.func134
 f265 := ZfC Tryz.func197
 t3 := Tryz.underlying3
 a3 := Tryz.isAgg3
 z3 := Tryz.sizeOf3
 v3 := Tryz.zeroValue3
 t9 := Tryz.underlying9
 a9 := Tryz.isAgg9
 z9 := Tryz.sizeOf9
 v9 := Tryz.zeroValue9 }
def Tryz.l144_ren : Go.Shelf.Ren := ⟨fun | 144 => 173 | 143 => 163 | 219 => 116 | 217 => 157 | 225 => 158 | 224 => 159 | 267 => 160 | 266 => 210 | 314 => 211 | n => n, fun | 9 => 9 | 4 => 4 | 3 => 3 | 5 => 5 | 46 => 196 | 146 => 273 | 51 => 232 | n => n, fun | 1 => 0 | n => n⟩
theorem Tryz.l144 : Go.Proofs.LaysM.n144 Tryz.prog Tryz.l144_ren := {
 mixed := by kernel_rfl
 f143 := ZfC Tryz.func163
 f144 := ZfC Tryz.func173
 f217 := ZfC Tryz.func157
 f219 := ZfC Tryz.func116
 f224 := ZfC Tryz.func159
 f225 := ZfC Tryz.func158
 f266 := ZfC Tryz.func210
 f267 := ZfC Tryz.func160
 f314 := ZfC Tryz.func211
 t3 := Tryz.underlying3
 a3 := Tryz.isAgg3
 z3 := Tryz.sizeOf3
 v3 := Tryz.zeroValue3
 t4 := Tryz.underlying4
 a4 := Tryz.isAgg4
 z4 := Tryz.sizeOf4
 v4 := Tryz.zeroValue4
 t5 := Tryz.underlying5
 a5 := Tryz.isAgg5
 z5 := Tryz.sizeOf5
 v5 := Tryz.zeroValue5
 t9 := Tryz.underlying9
 a9 := Tryz.isAgg9
 z9 := Tryz.sizeOf9
 v9 := Tryz.zeroValue9
 t46 := Tryz.underlying196
 a46 := Tryz.isAgg196
 z46 := Tryz.sizeOf196
 v46 := Tryz.zeroValue196
 t51 := Tryz.underlying232
 a51 := Tryz.isAgg232
 z51 := Tryz.sizeOf232
 v51 := Tryz.zeroValue232
 t146 := Tryz.underlying273
 a146 := Tryz.isAgg273
 z146 := Tryz.sizeOf273
 v146 := Tryz.zeroValue273
 g1 := by kernel_rfl
 i3 := by kernel_rfl
 i4 := by kernel_rfl
 i5 := by kernel_rfl
 i9 := by kernel_rfl
 i46 := by kernel_rfl
 i51 := by kernel_rfl
 i146 := by kernel_rfl
 m1 := by kernel_rfl
 s1_3 := fun w h => Go.Proofs.cell_of_shapedOpen_int (zero := #[.int .i64 0]) (t := 3) h (of_decide_eq_true (by kernel_rfl)) (by kernel_rfl) rfl (by kernel_rfl) (by kernel_rfl) Tryz.underlying3 }
end Go.Proofs
namespace Go.Proofs.YtcfamaddnmnaeaaGreatDoor
section
open Go.RowKit
attribute [local go_sem ↓] run_min_kept run_max_kept
end
section
open Go.RowKit Go.Shelf Go.Lib
attribute [local go_sem ↓] run_min_kept run_max_kept
def nameB (b : UInt8) : Bool := (decide (97 <= b.toNat) && decide (b.toNat <= 122)) || (decide (48 <= b.toNat) && decide (b.toNat <= 57)) || decide (b.toNat = 45)
def headB (b : UInt8) : Bool := decide (97 <= b.toNat) && decide (b.toNat <= 122)
def Yb8 (l : List UInt8) : Bool := decide (1 <= l.length) && decide (l.length <= 40) && headB (l.headD 0) && l.all nameB
def letters : List UInt8 := [97, 98, 99, 100, 101, 102, 103, 104, 105, 106, 107, 108, 109, 110, 111, 112, 113, 114, 115, 116, 117, 118, 119, 120, 121, 122, 48, 49, 50, 51, 52, 53, 54, 55, 56, 57, 45]
theorem letters_nat : ∀ n : Fin 256, letters.contains (UInt8.ofNat n.val) = nameB (UInt8.ofNat n.val) := by decide +kernel
theorem letters_eq (b : UInt8) : letters.contains b = nameB b := by
 have := letters_nat ⟨b.toNat, b.toNat_lt⟩
 simpa using this
theorem YbP {α : Type} (p : α -> Bool) : ∀ l : List α, l.dropWhile p = [] ↔ l.all p = true
 | [] => by simp
 | x :: l => by
  cases h : p x
  ·simp [h]
  ·simp [h, YbP p l]
theorem trim_nil (l : List UInt8) : (Lib.trimS l letters = []) ↔ l.all nameB = true := by
 have hf : (fun b => letters.contains b) = nameB := funext letters_eq
 unfold Lib.trimS Lib.trimLeftS Lib.trimRightS
 rw [YbP, hf]
 constructor
 ·intro h
  rw [List.all_reverse] at h
  have h2 : (l.reverse.dropWhile nameB) = [] := by
   cases hd : l.reverse.dropWhile nameB with
   | nil => rfl
   | cons x r =>
    have h3 := List.head?_dropWhile_not nameB l.reverse
    rw [hd] at h h3
    simp at h h3
    rw [h.1] at h3
    cases h3
  rw [YbP, List.all_reverse] at h2
  exact h2
 ·intro h
  have : l.reverse.dropWhile nameB = [] := by rw [YbP, List.all_reverse]; exact h
  rw [this]; rfl
theorem pName_any (s : ByteArray) (w : World) (hs : s.size <= 9223372036854775807) :
 Calls Tryz.prog 120 #[.string s] w fun e w' => e = .returned (.bool (Yb8 s.data.toList)) /\ Below w.heap.size w w' := by
 have hl : s.data.toList.length = s.size := by rw [ZaL]; rfl
 by_cases h0 : s.size < 1
 ·have HR := Lib.hid (show Yb8 s.data.toList = false by unfold Yb8; rw [hl]; simp; omega)
  clear hl
  go_enter Tryz.func120, Tryz.ntmps120
  go_wp2_with fail
  go_ret
  exact ⟨by rw [HR.out]; rfl, Below.refl _ _⟩
 by_cases h1 : 40 < s.size
 ·have HR := Lib.hid (show Yb8 s.data.toList = false by unfold Yb8; rw [hl]; simp; omega)
  clear hl
  go_enter Tryz.func120, Tryz.ntmps120
  go_wp2_with fail
  go_ret
  exact ⟨by rw [HR.out]; rfl, Below.refl _ _⟩
 have hp : 0 < s.size := by omega
 have hh : s.data.toList.headD 0 = s[0] := by
  obtain ⟨⟨l⟩⟩ := s
  cases l with
  | nil => simp [ByteArray.size] at hp
  | cons x r => rfl
 have hlen : (decide (1 <= s.data.toList.length) && decide (s.data.toList.length <= 40)) = true := by rw [hl]; simp; omega
 have hname : Yb8 s.data.toList = (headB s[0] && s.data.toList.all nameB) := by unfold Yb8; rw [hlen, hh, Bool.true_and]
 clear hl hlen hh
 by_cases ha : s[0].toNat < 97
 ·have HR := Lib.hid (show Yb8 s.data.toList = false by rw [hname]; unfold headB; simp; omega)
  clear hname
  go_enter Tryz.func120, Tryz.ntmps120
  go_wp2_with fail
  go_ret
  exact ⟨by rw [HR.out]; rfl, Below.refl _ _⟩
 by_cases hb : 122 < s[0].toNat
 ·have HR := Lib.hid (show Yb8 s.data.toList = false by rw [hname]; unfold headB; simp; omega)
  clear hname
  go_enter Tryz.func120, Tryz.ntmps120
  go_wp2_with fail
  go_ret
  exact ⟨by rw [HR.out]; rfl, Below.refl _ _⟩
 have hhd : headB s[0] = true := by unfold headB; simp; omega
 rw [hhd, Bool.true_and] at hname
 have hlet : (⟨letters.toArray⟩ : ByteArray).size < 4294967281 := by decide
 have hcon := Any.strings_Trim_laid Tryz.l160 (by kernel_rfl) s ⟨letters.toArray⟩ w hs hlet (ascii_of_all (by decide))
 change Calls Tryz.prog 118 #[.string s, .string ⟨#[97, 98, 99, 100, 101, 102, 103, 104, 105, 106, 107, 108, 109, 110, 111, 112, 113, 114, 115, 116, 117, 118, 119, 120, 121, 122, 48, 49, 50, 51, 52, 53, 54, 55, 56, 57, 45]⟩] w (fun e w' => e = .returned (.string ⟨(Lib.trimS s.data.toList letters).toArray⟩) /\ Below w.heap.size w w') at hcon
 have ha' : 97 <= s[0].toNat := by omega
 have hb' : s[0].toNat <= 122 := by omega
 by_cases hall : s.data.toList.all nameB = true
 ·have HR := Lib.hid (hname.trans hall)
  rw [(trim_nil s.data.toList).2 hall] at hcon
  have HC := Lib.hid hcon
  clear hname hall hcon hhd
  go_enter Tryz.func120, Tryz.ntmps120
  go_wp2_with fail
  refine HC.out.mono ?_
  rintro e w' ⟨rfl, hbel⟩
  go_wp2_with fail
  go_ret
  exact ⟨by rw [HR.out]; rfl, hbel⟩
 ·have hne : (⟨(Lib.trimS s.data.toList letters).toArray⟩ : ByteArray) ≠ ⟨#[]⟩ := by
   intro h
   apply hall
   rw [<- trim_nil]
   injection h with h
   simpa using h
  have HR := Lib.hid (hname.trans (by simpa using hall))
  have hneb : (⟨(Lib.trimS s.data.toList letters).toArray⟩ : ByteArray).toList.isEmpty = false := by
   rw [ByteArray.toList_eq]
   cases hl : (⟨(Lib.trimS s.data.toList letters).toArray⟩ : ByteArray).data.toList with
   | nil => exact absurd (by simp at hl; rw [hl]) hne
   | cons _ _ => rfl
  generalize (⟨(Lib.trimS s.data.toList letters).toArray⟩ : ByteArray) = r at *
  have HC := Lib.hid hcon
  clear hname hall hcon hhd
  go_enter Tryz.func120, Tryz.ntmps120
  go_wp2_with fail
  refine HC.out.mono ?_
  rintro e w' ⟨rfl, hbel⟩
  go_wp2_with fail
  go_ret
  exact ⟨by rw [HR.out]; rfl, hbel⟩
end
section
open Go.Lib
def sumTo (f : Nat -> Int) : Nat -> Int
 | 0 => 0
 | n + 1 => sumTo f n + f n
def dv (c : UInt8) : Int := (c.toNat : Int) - 48
def at0 (l : List UInt8) (i : Nat) : UInt8 := l.getD i 0
theorem at0_eq {l : List UInt8} {i : Nat} (h : i < l.length) : at0 l i = l[i] := by unfold at0; rw [ZgD, ZgE h]; rfl
def two (kind : Int) : Bool := decide (kind = 2)
end
section
open Go.RowKit
open Ty
open Go.Lib
theorem Yad {α : Type} {l : List α} {f : α -> List D} {k : Nat} (h : k < l.length) : (l.map f)[k]? = some (f l[k]) := by simp [h]
def ffst (f : Nat -> Int) : Nat -> Int
 | 0 => 0
 | n + 1 => if ffst f n = 0 then f n else ffst f n
theorem Yag {f : Nat -> Int} {k : Nat} (h : ffst f k = 0) (h2 : f k = 0) : ffst f (k + 1) = 0 := by simp [ffst, h, h2]
theorem Yab {f : Nat -> Int} {k : Nat} (h : ffst f k = 0) (h2 : f k ≠ 0) : ∀ n, k < n -> ffst f n = f k
 | 0, hn => by omega
 | n + 1, hn => by
  unfold ffst
  by_cases hk : k = n
  ·subst hk; rw [if_pos h]
  ·rw [Yab h h2 n (by omega), if_neg h2]
theorem Ya2 {f : Nat -> Int} : ∀ n, ffst f n = 0 -> ∀ k, k < n -> f k = 0
 | 0, _, k, hk => by omega
 | n + 1, h, k, hk => by
  unfold ffst at h
  by_cases hn : ffst f n = 0
  ·rw [if_pos hn] at h
   by_cases hk2 : k = n
   ·rw [hk2]; exact h
   ·exact Ya2 n hn k (by omega)
  ·rw [if_neg hn] at h; exact absurd h hn
def sle (a b : ByteArray) : Bool := Op.bytesLess a.toList b.toList || decide (a = b)
def slt (a b : ByteArray) : Bool := Op.bytesLess a.toList b.toList
def Yax (a b : ByteArray) : Int := Lib.compareBytes a.data.toList b.data.toList
theorem cmp_list : ∀ a b : List UInt8, Lib.compareBytes a b = if Op.bytesLess a b = true then -1 else if a = b then 0 else 1
 | [], [] => rfl
 | [], _ :: _ => rfl
 | _ :: _, [] => rfl
 | a :: x, b :: y => by
  have ih := cmp_list x y
  unfold Lib.compareBytes Op.bytesLess
  by_cases h1 : a < b
  ·simp [h1]
  ·by_cases h2 : b < a
   ·have hne : a ≠ b := fun e => by subst e; exact h1 h2
    simp [h1, h2, hne]
   ·have e : a = b := UInt8.le_antisymm (UInt8.not_lt.1 h2) (UInt8.not_lt.1 h1)
    subst e
    simp only [h1, if_false, decide_false, Bool.false_or, beq_self_eq_true, Bool.true_and, List.cons.injEq, true_and]
    exact ih
theorem toList_inj {a b : ByteArray} : a.toList = b.toList ↔ a = b := by
 rw [ByteArray.toList_eq, ByteArray.toList_eq]
 constructor
 ·intro h; exact ByteArray.ext (Array.toList_inj.1 h)
 ·intro h; rw [h]
theorem less_irr : ∀ l : List UInt8, Op.bytesLess l l = false
 | [] => rfl
 | x :: r => by unfold Op.bytesLess; simp [less_irr r]
theorem strCmp_eq (a b : ByteArray) : Yax a b = if slt a b = true then -1 else if a = b then 0 else 1 := by
 unfold Yax slt
 rw [cmp_list, <- ByteArray.toList_eq, <- ByteArray.toList_eq]
 by_cases h : a = b
 ·subst h; rw [less_irr]; simp
 ·rw [if_neg (fun e => h (toList_inj.1 e)), if_neg h]
theorem strCmp_lt {a b : ByteArray} : Yax a b < 0 ↔ slt a b = true := by
 rw [strCmp_eq]
 by_cases h : slt a b = true
 ·rw [if_pos h]; exact ⟨fun _ => h, fun _ => by decide⟩
 ·rw [if_neg h]
  refine ⟨fun hh => ?_, fun hh => absurd hh h⟩
  split at hh <;> omega
theorem strCmp_zero {a b : ByteArray} : Yax a b = 0 ↔ a = b := by
 rw [strCmp_eq]
 by_cases h2 : a = b
 ·subst h2
  have hz : slt a a = false := less_irr _
  rw [hz]; simp
 ·rw [if_neg h2]
  refine ⟨fun hh => ?_, fun hh => absurd hh h2⟩
  split at hh <;> omega
theorem less_total : ∀ a b : List UInt8, Op.bytesLess a b = false -> a ≠ b -> Op.bytesLess b a = true
 | [], [], _, h => absurd rfl h
 | [], _ :: _, h, _ => by cases h
 | _ :: _, [], _, _ => rfl
 | a :: x, b :: y, h, hne => by
  unfold Op.bytesLess at h ⊢
  by_cases h1 : a < b
  ·simp [h1] at h
  ·by_cases e : a = b
   ·subst e
    simp only [h1, decide_false, Bool.false_or, beq_self_eq_true, Bool.true_and] at h ⊢
    exact less_total x y h (fun e => hne (by rw [e]))
   ·have h2 : b < a := UInt8.lt_of_le_of_ne (UInt8.not_lt.1 h1) (Ne.symm e)
    simp [h2]
theorem less_asym : ∀ a b : List UInt8, Op.bytesLess a b = true -> Op.bytesLess b a = false
 | _, [], h => by unfold Op.bytesLess at h; simp at h
 | [], _ :: _, _ => rfl
 | a :: x, b :: y, h => by
  unfold Op.bytesLess at h ⊢
  by_cases e : a = b
  ·subst e
   simp at h ⊢
   exact less_asym x y h
  ·by_cases h1 : a < b
   ·have h2 : ¬ b < a := fun h2 => UInt8.lt_irrefl _ (UInt8.lt_trans h1 h2)
    simp [h2, Ne.symm e]
   ·simp [h1, e] at h
theorem slt_sle (a b : ByteArray) : slt a b = !(sle b a) := by
 unfold slt sle
 by_cases e : a = b
 ·subst e; rw [less_irr]; simp
 ·rw [decide_eq_false (Ne.symm e), Bool.or_false]
  cases h : Op.bytesLess a.toList b.toList with
  | true => rw [less_asym _ _ h]; rfl
  | false => rw [less_total _ _ h (fun h2 => e (toList_inj.1 h2))]; rfl
theorem slt_nil (a : ByteArray) : slt a ⟨#[]⟩ = false := by
 unfold slt
 rw [show (⟨#[]⟩ : ByteArray).toList = [] by rw [ByteArray.toList_eq]]
 cases a.toList <;> rfl
structure Ali where
 source : ByteArray
 title : ByteArray
 recd : Int
deriving DecidableEq
structure Tr where
 frm : Int
 rate : Int
deriving DecidableEq
structure Deal where
 name : ByteArray
 group : ByteArray
 frm : Int
 upto : Int
 recs : List Int
 tiers : List Tr
 adv : Int
 resv : Int
 hold : Int
structure Stk where
 party : ByteArray
 weight : Int
deriving DecidableEq
structure Grp where
 name : ByteArray
 minim : Int
 cut : List Stk
structure Ctr where
 als : List Ali
 deals : List Deal
 groups : List Grp
structure Hld where
 deal : ByteArray
 period : Int
 cents : Int
deriving DecidableEq
structure Bks where
 ctr : Ctr
 next : Int
 stated : List Int
 held : List Hld
 bal : List Int
def Ali.ds (x : Ali) : List D := [.v (.string x.source), .v (.string x.title), .v (.int .i64 x.recd)]
def Tr.ds (x : Tr) : List D := [.v (.int .i64 x.frm), .v (.int .i64 x.rate)]
def Stk.ds (x : Stk) : List D := [.v (.string x.party), .v (.int .i64 x.weight)]
def Deal.ds (x : Deal) : List D := [.v (.string x.name), .v (.string x.group), .v (.int .i64 x.frm), .v (.int .i64 x.upto), .sl (x.recs.map intD), .sl (x.tiers.map Tr.ds), .v (.int .i64 x.adv), .v (.int .i64 x.resv), .v (.int .i64 x.hold)]
def Grp.ds (x : Grp) : List D := [.v (.string x.name), .v (.int .i64 x.minim), .sl (x.cut.map Stk.ds)]
def Ctr.ds (x : Ctr) : List D := [.sl (x.als.map Ali.ds), .sl (x.deals.map Deal.ds), .sl (x.groups.map Grp.ds)]
def Hld.ds (x : Hld) : List D := [.v (.string x.deal), .v (.int .i64 x.period), .v (.int .i64 x.cents)]
def Bks.ds (x : Bks) : List D := [.sl (x.ctr.als.map Ali.ds), .sl (x.ctr.deals.map Deal.ds), .sl (x.ctr.groups.map Grp.ds), .v (.int .i64 x.next), .sl (x.stated.map intD), .sl (x.held.map Hld.ds), .sl (x.bal.map intD)]
def YaI (s : ByteArray) : Bool := Yb8 s.data.toList
def prB (c : UInt8) : Bool := decide (32 <= c.toNat) && decide (c.toNat <= 126)
def titleB (l : List UInt8) : Bool := decide (1 <= l.length) && decide (l.length <= 100) && !(decide (at0 l 0 = 32)) && !(decide (at0 l (l.length - 1) = 32)) && !(Lib.contains l [32, 32]) && l.all prB
def Yar (s : ByteArray) : Bool := titleB s.data.toList
def YaL (a b : Ali) : Int := if a.source = b.source then Yax a.title b.title else Yax a.source b.source
def aliF (l : List Ali) (k : Nat) : Int :=
 if h : k < l.length then
  if YaI l[k].source = false then 5 else if Yar l[k].title = false then 3 else if 0 < k /\ 0 <= YaL (l[k-1]'(by omega)) l[k] then 8 else if 1 <= l[k].recd /\ l[k].recd <= 1000000 then 0 else 1
 else 0
def Yb5 (l : List Ali) : Int := if 500 < l.length then 2 else ffst (aliF l) l.length
def Yaw (l : List Tr) (k : Nat) : Int :=
 if h : k < l.length then
  if ¬ ((0 <= l[k].frm /\ l[k].frm <= 1000000000000) /\ 0 <= l[k].rate /\ l[k].rate <= 10000) then 1 else if k = 0 /\ l[k].frm ≠ 0 then 8 else if 0 < k /\ l[k].frm <= (l[k-1]'(by omega)).frm then 8 else 0
 else 0
def YaW (l : List Tr) : Int := if l.length = 0 then 9 else if 10 < l.length then 2 else ffst (Yaw l) l.length
def stkF (l : List Stk) (k : Nat) : Int :=
 if h : k < l.length then
  if YaI l[k].party = false then 5 else if 0 < k /\ sle l[k].party (l[k-1]'(by omega)).party = true then 8 else if 1 <= l[k].weight /\ l[k].weight <= 1000000 then 0 else 1
 else 0
def Ybq (g : Grp) : Int := if ¬ (0 <= g.minim /\ g.minim <= 1000000000) then 1 else if g.cut.length = 0 then 9 else if 20 < g.cut.length then 2 else ffst (stkF g.cut) g.cut.length
def grpF (l : List Grp) (k : Nat) : Int :=
 if h : k < l.length then
  if YaI l[k].name = false then 5 else if 0 < k /\ sle l[k].name (l[k-1]'(by omega)).name = true then 8 else Ybq l[k]
 else 0
def grpIdx (l : List Grp) (nm : ByteArray) : Bool := l.any fun g => decide (g.name = nm)
def recF (l : List Int) (k : Nat) : Int :=
 if h : k < l.length then
  if ¬ (1 <= l[k] /\ l[k] <= 1000000) then 1 else if 0 < k /\ l[k] <= l[k-1]'(by omega) then 8 else 0
 else 0
def Yas (c : Ctr) (d : Deal) : Int :=
 if grpIdx c.groups d.group = false then 9 else if ¬ ((0 <= d.frm /\ d.frm <= 2400) /\ d.frm + 1 <= d.upto /\ d.upto <= 2401) then 1 else if 100 < d.recs.length then 2
 else if ffst (recF d.recs) d.recs.length ≠ 0 then ffst (recF d.recs) d.recs.length else if YaW d.tiers ≠ 0 then YaW d.tiers
 else if ¬ ((0 <= d.adv /\ d.adv <= 1000000000) /\ (0 <= d.resv /\ d.resv <= 1000) /\ 1 <= d.hold /\ d.hold <= 100) then 1 else 0
def Ybp (c : Ctr) (k : Nat) : Int :=
 if h : k < c.deals.length then
  if YaI c.deals[k].name = false then 5 else if 0 < k /\ sle c.deals[k].name (c.deals[k-1]'(by omega)).name = true then 8 else Yas c c.deals[k]
 else 0
def ctrF (c : Ctr) : Int :=
 if Yb5 c.als ≠ 0 then Yb5 c.als else if 40 < c.deals.length \/ 20 < c.groups.length then 2 else if ffst (grpF c.groups) c.groups.length ≠ 0 then ffst (grpF c.groups) c.groups.length else ffst (Ybp c) c.deals.length
def YaQ (a b : Hld) : Int := if a.deal = b.deal then (if a.period < b.period then -1 else if a.period = b.period then 0 else 1) else Yax a.deal b.deal
def Yb2 (l : List Deal) (nm : ByteArray) : Bool := l.any fun g => decide (g.name = nm)
def hldF (b : Bks) (k : Nat) : Int :=
 if h : k < b.held.length then
  if Yb2 b.ctr.deals b.held[k].deal = false then 9 else if 0 < k /\ 0 <= YaQ (b.held[k-1]'(by omega)) b.held[k] then 8 else if (b.next <= b.held[k].period /\ b.held[k].period <= 2500) /\ 1 <= b.held[k].cents /\ b.held[k].cents <= 1000000000000 then 0 else 1
 else 0
def Ycm (l : List Int) (k : Nat) : Int := if h : k < l.length then (if 0 <= l[k] /\ l[k] <= 1000000000000 then 0 else 1) else 0
def balF (l : List Int) (k : Nat) : Int := if h : k < l.length then (if -1000000000000 <= l[k] /\ l[k] <= 1000000000000 then 0 else 1) else 0
def bksF (b : Bks) : Int :=
 if ctrF b.ctr ≠ 0 then ctrF b.ctr else if ¬ (0 <= b.next /\ b.next <= 2401) then 1 else if b.stated.length ≠ b.ctr.deals.length \/ b.bal.length ≠ b.ctr.groups.length then 3
 else if ffst (Ycm b.stated) b.stated.length ≠ 0 then ffst (Ycm b.stated) b.stated.length else if ffst (hldF b) b.held.length ≠ 0 then ffst (hldF b) b.held.length else ffst (balF b.bal) b.bal.length
def Stays (T : World -> Prop) : Prop := ∀ w w', Kept (fun b => w.heap.size <= b) w w' -> T w -> T w'
def Ya3 (P : Program) (T : World -> Prop) (f : FuncId) (ds : List D) (d : D) : Prop := Enters P f /\
 ∀ (F : Nat -> Prop) (w : World) (vs : List Value), T w -> (∀ b, F b -> b < w.heap.size) -> RepL F w vs ds -> Calls P f vs.toArray w fun e w' => ∃ v F', e = .returned v /\ Rep F' w' v d /\ Ext F w F' w'
theorem AOps.callT {cx : Cx} {ops : Array Oper} {o : Oper} {rest : List Oper} {e : Env} {σ : Obs} {Q : Post} {T : World -> Prop} {f : FuncId} {xs : List Operand} {ts : Array TypeId} {ds : List D} {d : D} (hg : GW ops o e true) (hd : DstOk cx.N o)
 (ho : o.op = .call { callee := .value (.func f), args := xs.toArray, argTypes := ts }) (hT : T cx.w0) (hS : Stays T) (hfr : cx.fr = fun b => cx.w0.heap.size <= b) (ha : ArgsOk e xs ds) (h : Ya3 cx.P T f ds d)
 (k : AOps cx ops rest (e.put o.dst (.d d)) σ Q) : AOps cx ops (o :: rest) e σ Q := by
 intro a w ⟨F, ρ, hr⟩
 have hw := hg.wanted (fun t _ => hr.env t)
 have hTw : T w := hS _ _ (by rw [<- hfr]; exact hr.below) hT
 have h1 : RepL F w (xs.map a.eval) ds := ha.rep (ρ := ρ) fun t _ => hr.env t
 have h2 := h.2 F w _ hTw hr.lt h1
 have h3 := h.1 (xs.map a.eval).toArray w
 have hx : (execOp a.eval o).run cx.P w = .ok (.enter f (xs.map a.eval).toArray) w := by
  unfold execOp
  simp only [ho, resolve, Deferred.ofValue, Act.eval, invoke, Sem.run_bind, Sem.run_pure, Result.andThen_ok]
  simpa using h3
 unfold wpList
 rw [if_pos hw]
 refine .inl ?_
 unfold Oper.wp
 rw [hx]
 refine h2.mono fun _ w' ⟨v, F', he, hv, hE⟩ => ?_
 subst he
 exact k _ _ ⟨F', ρ, hr.put hE (.d hv) hd⟩
theorem YaF {T : World -> Prop} {P : Program} {f : FuncId} {fn : Func} {c : Code} {n : Nat} {ds ds' : List D} (hf : P.funcs[f]? = some fn) (hb : fn.body = some c) (hn : (fn.name == "runtime.NumGoroutine") = false) (hN : fn.ntmps = n)
 (ts : List Nat) (hr : fn.results = (ts.map ResultVar.tmp).toArray) (hle' : Nat.ble ds.length n = true) (h : ∀ B w0 F0, T w0 -> AWP ⟨P, n, B, w0, F0, (fun b => w0.heap.size <= b), fun _ => false, fun _ => undef⟩ c (Env.args 0 ds) [] (RetQ ts ds')) : Ya3 P T f ds (retOf ds') := by
 have hle : ds.length <= n := ZnB hle'
 refine ⟨Enters.of hf hn (by rw [hb]; rfl), fun F w vs hT hF hv => ?_⟩
 refine calls_of_wp hf hb ?_
 have hR : R ⟨P, n, w.heap.size, w, F, (fun b => w.heap.size <= b), fun _ => false, fun _ => undef⟩ (Env.args 0 ds) [] { tmps := vs.toArray ++ Array.replicate (fn.ntmps - vs.toArray.size) undef, defers := [] } w := by
  refine ⟨F, fun _ => undef, ?_, rfl, hF, fun b hb => hb, fun b hb => .inl hb, Kept.refl _ _, ZnR _, fun t => ?_, ⟨fun p hp => by simp at hp, fun p hp => by simp at hp, fun p hp => by simp at hp⟩, fun b hb => hb, fun p hp => by simp at hp, fun i hi => by simp at hi⟩
  ·simp [hN, hv.1]; omega
  ·by_cases ht : t < ds.length
   ·have := Env.args_get ds 0 t ht
    rw [Nat.zero_add] at this
    rw [this]
    have hvt : t < vs.length := by rw [hv.1]; exact ht
    have : (vs.toArray ++ Array.replicate (fn.ntmps - vs.toArray.size) undef).getD t undef = vs[t] := by
     rw [ZaD, Array.getElem?_append_left (by simpa using hvt)]
     simp [hvt]
    rw [this]
    exact .d (hv.2 t hvt ht)
   ·have := Env.args_out ds 0 t (by omega)
    rw [Nat.zero_add] at this
    rw [this]
    exact .d (.any _)
 refine wp_mono (h _ _ _ hT _ _ hR) ?_
 rintro ex a w' ⟨e', σ', hq, F', ρ', hr'⟩
 have hres : (results fn a.tmps).run P w' = .ok (match ts.map fun t => a.tmps.getD t undef with | [x] => x | l => .tuple l.toArray) w' := by
  have key : ∀ (ts : List Nat), (List.mapM (fun r => match r with | .tmp t => pure (a.tmps.getD t undef) | .cell b t => do loadVar t (<- asAddr (a.tmps.getD b undef))) (ts.map ResultVar.tmp) : Sem (List Value)).run P w' = .ok (ts.map fun t => a.tmps.getD t undef) w' := by
   intro ts
   induction ts with
   | nil => rfl
   | cons t ts ih =>
    rw [List.map_cons, List.mapM_cons, Sem.run_bind]
    simp only [Sem.run_pure, Result.andThen_ok, Sem.run_bind, ih, List.map_cons]
  unfold results
  rw [hr, Sem.run_bind]
  have h2 : (Array.mapM (fun r => match r with | ResultVar.tmp t => pure (a.tmps.getD t undef) | ResultVar.cell b t => do loadVar t (<- asAddr (a.tmps.getD b undef))) (ts.map ResultVar.tmp).toArray : Sem (Array Value)).run P w' = .ok (ts.map fun t => a.tmps.getD t undef).toArray w' := by
   rw [List.mapM_toArray, Sem.run_map, key]
   rfl
  have h3 := h2
  refine (congrArg (fun r => Result.andThen r _) h3).trans ?_
  simp only [Result.andThen_ok]
  rcases ts with _ | ⟨t, _ | ⟨t2, ts⟩⟩ <;> rfl
 have hends : RetL e' σ' ts ds' -> bodyPost P fn (fun e w' => ∃ v F', e = .returned v /\ Rep F' w' v (retOf ds') /\ Ext F w F' w') .ret a w' := by
  intro hq
  have hl := hq.rep hr'
  refine ⟨hr'.defers, _, hres, _, endF F' ρ' σ', J, ?_, endF_ext hr' (fun b hb => hb)⟩
  generalize (ts.map fun t => a.tmps.getD t undef) = vs' at hl
  obtain ⟨h1, h2⟩ := hl
  rcases ds' with _ | ⟨d, _ | ⟨d2, ds'⟩⟩
  ·have : vs' = [] := List.eq_nil_of_length_eq_zero h1
   subst this
   exact .tup [] [] rfl (fun i h1 => absurd h1 (by simp))
  ·rcases vs' with _ | ⟨x, _ | ⟨y, vs'⟩⟩ <;> simp at h1
   exact h2 0 (by simp) (by simp)
  ·rcases vs' with _ | ⟨x, _ | ⟨y, vs'⟩⟩
   ·simp at h1
   ·simp at h1
   ·exact .tup _ _ h1 h2
 cases ex with
 | ret => exact hends hq
 | normal => exact hends hq
 | exit id => exact hq.elim
 | goto l => exact hq.elim
 | panic c => exact hq.elim
 | outgrown => exact hq.elim
namespace Ty
theorem st_9 : Tryz.prog.underlying 9 = some .string := by kernel_rfl
end Ty
open Go.Lib
theorem c_pName (s : ByteArray) (hs : s.size <= 9223372036854775807) : Yaq Tryz.prog 120 [.v (.string s)] (.v (.bool (YaI s))) :=
 acall_exact (us := [_]) (.of Tryz.func120 (by kernel_rfl) rfl) fun w => pName_any s w hs
theorem c_strCmp (a b : ByteArray) : Yaq Tryz.prog 92 [.v (.string a), .v (.string b)] (.v (.int .i64 (Yax a b))) :=
 acall_exact (us := [_, _]) (.of Tryz.func92 (by kernel_rfl) rfl) fun w => by
  have h := Any.strings_Compare Tryz.l106 a b w
  change Calls Tryz.prog 92 #[.string a, .string b] w _ at h
  exact h.mono fun _ _ ⟨h1, h2⟩ => ⟨h1, h2 ▸ Below.refl _ _⟩
def MaxT (w : World) : Prop := ∃ m, w.cell? ⟨Tryz.l144_ren.g 1, 0, none⟩ = some (.int .i64 m)
theorem Yan : Stays MaxT := fun w w' k ⟨m, hm⟩ => by
 refine ⟨m, ?_⟩
 have hlt := World.block_lt_of_cell? _ _ hm
 dsimp only at hlt
 rw [World.cell?_of_block (k.block _ hlt (fun h => by have h2 : w.heap.size <= Tryz.l144_ren.g 1 := h; omega))]
 exact hm
theorem c_contains (s p : ByteArray) (hs : s.size < 4294967281) : Ya3 Tryz.prog MaxT 173 [.v (.string s), .v (.string p)] (.v (.bool (Lib.contains s.data.toList p.data.toList))) :=
 ⟨.of Tryz.func173 (by kernel_rfl) rfl, fun F w vs hT hF hv => by
  rw [repL_v (us := [.string s, .string p]) hv]
  obtain ⟨m, hm⟩ := hT
  have h := Any.strings_Contains { Tryz.l144 with } s p m w hs hm
  change Calls Tryz.prog 173 #[.string s, .string p] w _ at h
  refine h.mono fun e w' ⟨h1, h2⟩ => ?_
  subst h2
  exact ⟨_, F, h1, .v _, Ext.refl hF⟩⟩
theorem c_contains2 (s : ByteArray) (hs : s.size <= 100) : Ya3 Tryz.prog MaxT 173 [.v (.string s), .v (.string ⟨#[32, 32]⟩)] (.v (.bool (Lib.contains s.data.toList [32, 32]))) := c_contains s ⟨#[32, 32]⟩ (by omega)
theorem at0_ba {s : ByteArray} {i : Nat} (h : i < s.data.toList.length) : s.data.toList[i]? = some (at0 s.data.toList i) := by rw [at0_eq h, ZgE h]
theorem emp_size {s : ByteArray} (h : s = ⟨#[]⟩) : s.size = 0 := by rw [h]; rfl
theorem nemp_size {s : ByteArray} (h : ¬ s = ⟨#[]⟩) : 0 < s.size := by
 rcases Nat.eq_zero_or_pos s.size with h0 | h0
 ·exfalso; apply h
  apply ByteArray.ext
  have : s.data.toList = [] := List.eq_nil_of_length_eq_zero (by rw [<- Lib.size_eq]; exact h0)
  exact Array.toList_inj.1 this
 ·exact h0
theorem headD_at (l : List UInt8) : l.headD 0 = at0 l 0 := by cases l <;> rfl
theorem nm_len {s : ByteArray} (h : ¬ (1 <= s.data.toList.length /\ s.data.toList.length <= 40)) : YaI s = false := by
 unfold YaI Yb8
 by_cases h1 : 1 <= s.data.toList.length
 ·rw [decide_eq_false (show ¬ s.data.toList.length <= 40 by omega), Bool.and_false, Bool.false_and, Bool.false_and]
 ·rw [decide_eq_false h1, Bool.false_and, Bool.false_and, Bool.false_and]
theorem nm_head {s : ByteArray} (h : ¬ (97 <= (at0 s.data.toList 0).toNat /\ (at0 s.data.toList 0).toNat <= 122)) : YaI s = false := by
 unfold YaI Yb8
 rw [headD_at]
 have : headB (at0 s.data.toList 0) = false := by
  unfold headB
  rw [Bool.eq_false_iff]
  simp only [ne_eq, ZbA, decide_eq_true_eq]
  exact h
 rw [this, Bool.and_false, Bool.false_and]
theorem nameB_iff {c : UInt8} : nameB c = true ↔ (97 <= c.toNat /\ c.toNat <= 122) \/ (48 <= c.toNat /\ c.toNat <= 57) \/ c.toNat = 45 := by
 unfold nameB
 simp only [Bool.or_eq_true, ZbA, decide_eq_true_eq]
 omega
theorem all_nx {p : UInt8 -> Bool} {l : List UInt8} {k : Nat} (hk : k < l.length) (h : ∀ c ∈ l.take k, p c = true) (h2 : p (at0 l k) = true) : ∀ c ∈ l.take (k + 1), p c = true := fun c hc => by
 rw [List.take_add_one, ZgE hk, Option.toList_some, List.mem_append, ZmS] at hc
 rcases hc with hc | hc
 ·exact h c hc
 ·rw [hc, <- at0_eq hk]; exact h2
theorem all_end {p : UInt8 -> Bool} {l : List UInt8} {k : Nat} (hk : l.length <= k) (h : ∀ c ∈ l.take k, p c = true) : l.all p = true := by
 rw [List.take_of_length_le hk] at h
 rw [List.all_eq_true]; exact h
theorem Ya8 {p : UInt8 -> Bool} {l : List UInt8} {k : Nat} (hk : k < l.length) (h : ¬ p (at0 l k) = true) : l.all p = false := by
 cases ha : l.all p with
 | false => rfl
 | true => exact absurd (by rw [at0_eq hk]; exact List.all_eq_true.1 ha _ (ZgM hk)) h
theorem nm_ch {s : ByteArray} {k : Nat} (hk : k < s.data.toList.length) (h : ¬ nameB (at0 s.data.toList k) = true) : YaI s = false := by
 unfold YaI Yb8
 rw [Ya8 hk h, Bool.and_false]
theorem nm_ok {s : ByteArray} (h1 : 1 <= s.data.toList.length /\ s.data.toList.length <= 40) (h2 : 97 <= (at0 s.data.toList 0).toNat /\ (at0 s.data.toList 0).toNat <= 122) (h3 : s.data.toList.all nameB = true) : YaI s = true := by
 unfold YaI Yb8
 rw [headD_at, h3, decide_eq_true h1.1, decide_eq_true h1.2]
 unfold headB
 rw [decide_eq_true h2.1, decide_eq_true h2.2]; rfl
theorem YbA {l : List UInt8} (h : ¬ (1 <= l.length /\ l.length <= 100 /\ at0 l 0 ≠ 32 /\ at0 l (l.length - 1) ≠ 32 /\ Lib.contains l [32, 32] = false /\ l.all prB = true)) : titleB l = false := by
 rw [Bool.eq_false_iff]
 intro hb
 unfold titleB at hb
 simp only [ZbA, decide_eq_true_eq, Bool.not_eq_true', decide_eq_false_iff_not] at hb
 exact h ⟨hb.1.1.1.1.1, hb.1.1.1.1.2, hb.1.1.1.2, hb.1.1.2, hb.1.2, hb.2⟩
theorem tt_yes {l : List UInt8} (h1 : 1 <= l.length) (h2 : l.length <= 100) (h3 : at0 l 0 ≠ 32) (h4 : at0 l (l.length - 1) ≠ 32) (h5 : Lib.contains l [32, 32] = false) (h6 : l.all prB = true) : titleB l = true := by
 unfold titleB
 simp only [h1, h2, h3, h4, h5, h6, decide_true, decide_false, Bool.not_false, Bool.and_true]
theorem u32' {x : UInt8} (h : (x.toNat : Int) = 32) : x = 32 := UInt8.toNat_inj.1 (by show x.toNat = 32; omega)
theorem u32n {x : UInt8} (h : ¬ (x.toNat : Int) = 32) : x ≠ 32 := fun e => h (by rw [e]; rfl)
theorem prB_iff {c : UInt8} : prB c = true ↔ 32 <= c.toNat /\ c.toNat <= 126 := by unfold prB; simp
theorem c_rName (s : ByteArray) (hs : s.size <= 9223372036854775807) : Yaq Tryz.prog 123 [.v (.string s)] (.v (.bool (YaI s))) := by
 refine Yah (n := 49) (ds' := [.v (.bool (YaI s))]) Tryz.func123 J (by kernel_rfl) J [2] J J ?_
 intro B w0 F0 fr
 have hsz := Lib.size_eq s
 refine .sr (.aN ?_)
 refine .seq (.sr (.mA ?_))
 refine .sA (.seql J J J) ?_
 refine .mA ?_
 refine .sT 7 J (fun g1 => ?_) fun g1 => ?_
 ·have HR := nm_len (s := s) (by have := emp_size g1; omega)
  refine .pA ?_
  refine .pA ?_
  refine .pA ?_
  refine .sA (.pickT J J J) ?_
  refine .mA ?_
  refine .pA ?_
  refine .pA ?_
  refine .pA ?_
  refine .sA (.pickT J J J) ?_
  refine .mA ?_
  refine .pA ?_
  refine .pA ?_
  refine .pA ?_
  refine .sA (.pickT J J J) (.nil ?_)
  refine .cond J (fun _ => ?_) (fun h => nomatch h)
  refine .sr (.aN ?_)
  refine .ret (rD J ?_)
  all_goals (first | rw [HR] | rw [nm_ch hlt (fun hc => by have := nameB_iff.1 hc; omega)])
 have hp := nemp_size g1
 refine .sG (.moveD J J) ?_
 refine .sG (.lenStr J st_9 J) ?_
 refine .sG (.gtr J J J) ?_
 refine .sA (.pickF J J J) ?_
 refine .mA ?_
 refine .sT 12 J (fun g2 => ?_) fun g2 => ?_
 ·have HR := nm_len (s := s) (by omega)
  refine .pA ?_
  refine .pA ?_
  refine .pA ?_
  refine .sA (.pickT J J J) ?_
  refine .mA ?_
  refine .pA ?_
  refine .pA ?_
  refine .pA ?_
  refine .sA (.pickT J J J) (.nil ?_)
  refine .cond J (fun _ => ?_) (fun h => nomatch h)
  refine .sr (.aN ?_)
  refine .ret (rD J ?_)
  all_goals (first | rw [HR] | rw [nm_ch hlt (fun hc => by have := nameB_iff.1 hc; omega)])
 refine .sG (.moveD J J) ?_
 refine .sG (.indexStr J st_9 J J 0 J (at0_ba (by omega))) ?_
 refine .sG (.lss J J J) ?_
 refine .sA (.pickF J J J) ?_
 refine .mA ?_
 refine .sT 17 J (fun g3 => ?_) fun g3 => ?_
 ·have HR := nm_head (s := s) (by omega)
  refine .pA ?_
  refine .pA ?_
  refine .pA ?_
  refine .sA (.pickT J J J) (.nil ?_)
  refine .cond J (fun _ => ?_) (fun h => nomatch h)
  refine .sr (.aN ?_)
  refine .ret (rD J ?_)
  all_goals (first | rw [HR] | rw [nm_ch hlt (fun hc => by have := nameB_iff.1 hc; omega)])
 refine .sG (.moveD J J) ?_
 refine .sG (.indexStr J st_9 J J 0 J (at0_ba (by omega))) ?_
 refine .sG (.gtr J J J) ?_
 refine .sA (.pickF J J J) (.nil ?_)
 refine .cT J (fun h4 => ?_) fun h4 => ?_
 ·have HR := nm_head (s := s) (by omega)
  refine .sr (.aN ?_)
  refine .ret (rD J ?_)
  all_goals (first | rw [HR] | rw [nm_ch hlt (fun hc => by have := nameB_iff.1 hc; omega)])
 have hhd : 97 <= (at0 s.data.toList 0).toNat /\ (at0 s.data.toList 0).toNat <= 122 := by omega
 refine .skip (.seq (.sr (.mA ?_)))
 refine .sA (.lenStr J st_9 J) ?_
 refine .mN ?_
 refine .block (.loop (G := Nat) (fun k => Env.of [(24, .iv k), (23, .iv s.size), (0, .d (.v (.string s)))]) (fun k => []) (fun k => k <= s.size /\ ∀ c ∈ s.data.toList.take k, nameB c = true) (fun k => s.size - k) 0 ⟨ZnZ _, fun c h => by simp at h⟩ (Sub.less ⟨U, U, U, trivial⟩ (fun _ h => h)) ?_)
 intro k hk
 refine .sr (.sA (.lss J J J) (.nil ?_))
 refine .seq (.cT J (fun h5 => ?_) fun h5 => ?_)
 ·have hlt : k < s.data.toList.length := by omega
  refine .skip (.seq (.block (.sr (.mA ?_))))
  refine .aN ?_
  refine .sr (.mA ?_)
  refine .mA ?_
  refine .sA (.indexStr J st_9 J J k J (at0_ba hlt)) ?_
  refine .aN ?_
  refine .sr (.mA ?_)
  refine .sA (.lss J J J) ?_
  refine .mA ?_
  refine .sT 32 J (fun g6 => ?_) fun g6 => ?_
  ·refine .pA ?_
   refine .pA ?_
   refine .sA (.pickT J J J) ?_
   refine .mA ?_
   refine .sG (.moveD J J) ?_
   refine .sG (.lss J J J) ?_
   refine .sG (.moveD J J) ?_
   refine .sT 39 J (fun g7 => ?_) fun g7 => ?_
   ·refine .pA ?_
    refine .pA ?_
    refine .sG (.pickT J J J) ?_
    refine .sA (.pickT J J J) ?_
    refine .mA ?_
    refine .sG (.moveD J J) ?_
    refine .sG (.neq J J J) ?_
    refine .sA (.pickT J J J) (.nil ?_)
    refine .cT J (fun h8 => ?_) fun h8 => ?_
    ·refine .sr (.aN ?_)
     refine .ret (rD J ?_)
     all_goals (first | rw [HR] | rw [nm_ch hlt (fun hc => by have := nameB_iff.1 hc; omega)])
    refine .skip (.region (.sA (.add64 J J J) ?_))
    refine .mN ?_
    refine ⟨k + 1, ⟨by omega, all_nx hlt hk.2 (nameB_iff.2 (by omega))⟩, (by dsimp only; omega), Sub.less ⟨U, U, U, trivial⟩ (fun _ h => h)⟩
   refine .sG (.moveD J J) ?_
   refine .sG (.gtr J J J) ?_
   refine .sG (.pickF J J J) ?_
   refine .sA (.pickT J J J) ?_
   refine .mA ?_
   refine .sT 44 J (fun g9 => ?_) fun g9 => ?_
   ·refine .sG (.moveD J J) ?_
    refine .sG (.neq J J J) ?_
    refine .sA (.pickT J J J) (.nil ?_)
    refine .cT J (fun h10 => ?_) fun h10 => ?_
    ·refine .sr (.aN ?_)
     refine .ret (rD J ?_)
     all_goals (first | rw [HR] | rw [nm_ch hlt (fun hc => by have := nameB_iff.1 hc; omega)])
    refine .skip (.region (.sA (.add64 J J J) ?_))
    refine .mN ?_
    refine ⟨k + 1, ⟨by omega, all_nx hlt hk.2 (nameB_iff.2 (by omega))⟩, (by dsimp only; omega), Sub.less ⟨U, U, U, trivial⟩ (fun _ h => h)⟩
   refine .pA ?_
   refine .pA ?_
   refine .sA (.pickF J J J) (.nil ?_)
   refine .cond J (fun h => nomatch h) (fun _ => ?_)
   refine .skip (.region (.sA (.add64 J J J) ?_))
   refine .mN ?_
   refine ⟨k + 1, ⟨by omega, all_nx hlt hk.2 (nameB_iff.2 (by omega))⟩, (by dsimp only; omega), Sub.less ⟨U, U, U, trivial⟩ (fun _ h => h)⟩
  refine .sG (.moveD J J) ?_
  refine .sG (.gtr J J J) ?_
  refine .sA (.pickF J J J) ?_
  refine .mA ?_
  refine .sT 36 J (fun g11 => ?_) fun g11 => ?_
  ·refine .sG (.moveD J J) ?_
   refine .sG (.lss J J J) ?_
   refine .sG (.moveD J J) ?_
   refine .sT 39 J (fun g12 => ?_) fun g12 => ?_
   ·refine .pA ?_
    refine .pA ?_
    refine .sG (.pickT J J J) ?_
    refine .sA (.pickT J J J) ?_
    refine .mA ?_
    refine .sG (.moveD J J) ?_
    refine .sG (.neq J J J) ?_
    refine .sA (.pickT J J J) (.nil ?_)
    refine .cT J (fun h13 => ?_) fun h13 => ?_
    ·refine .sr (.aN ?_)
     refine .ret (rD J ?_)
     all_goals (first | rw [HR] | rw [nm_ch hlt (fun hc => by have := nameB_iff.1 hc; omega)])
    refine .skip (.region (.sA (.add64 J J J) ?_))
    refine .mN ?_
    refine ⟨k + 1, ⟨by omega, all_nx hlt hk.2 (nameB_iff.2 (by omega))⟩, (by dsimp only; omega), Sub.less ⟨U, U, U, trivial⟩ (fun _ h => h)⟩
   refine .sG (.moveD J J) ?_
   refine .sG (.gtr J J J) ?_
   refine .sG (.pickF J J J) ?_
   refine .sA (.pickT J J J) ?_
   refine .mA ?_
   refine .sT 44 J (fun g14 => ?_) fun g14 => ?_
   ·refine .sG (.moveD J J) ?_
    refine .sG (.neq J J J) ?_
    refine .sA (.pickT J J J) (.nil ?_)
    refine .cT J (fun h15 => ?_) fun h15 => ?_
    ·refine .sr (.aN ?_)
     refine .ret (rD J ?_)
     all_goals (first | rw [HR] | rw [nm_ch hlt (fun hc => by have := nameB_iff.1 hc; omega)])
    refine .skip (.region (.sA (.add64 J J J) ?_))
    refine .mN ?_
    refine ⟨k + 1, ⟨by omega, all_nx hlt hk.2 (nameB_iff.2 (by omega))⟩, (by dsimp only; omega), Sub.less ⟨U, U, U, trivial⟩ (fun _ h => h)⟩
   refine .pA ?_
   refine .pA ?_
   refine .sA (.pickF J J J) (.nil ?_)
   refine .cond J (fun h => nomatch h) (fun _ => ?_)
   refine .skip (.region (.sA (.add64 J J J) ?_))
   refine .mN ?_
   refine ⟨k + 1, ⟨by omega, all_nx hlt hk.2 (nameB_iff.2 (by omega))⟩, (by dsimp only; omega), Sub.less ⟨U, U, U, trivial⟩ (fun _ h => h)⟩
  refine .pA ?_
  refine .pA ?_
  refine .pA ?_
  refine .pass ⟨39, J, .inr ⟨J, J⟩⟩ J J ?_
  refine .pass ⟨39, J, .inr ⟨J, J⟩⟩ J J ?_
  refine .pA ?_
  refine .sA (.pickF J J J) ?_
  refine .mA ?_
  refine .pA ?_
  refine .pA ?_
  refine .sA (.pickF J J J) (.nil ?_)
  refine .cond J (fun h => nomatch h) (fun _ => ?_)
  refine .skip (.region (.sA (.add64 J J J) ?_))
  refine .mN ?_
  refine ⟨k + 1, ⟨by omega, all_nx hlt hk.2 (nameB_iff.2 (by omega))⟩, (by dsimp only; omega), Sub.less ⟨U, U, U, trivial⟩ (fun _ h => h)⟩
 have HR := nm_ok (s := s) (by omega) hhd (all_end (by omega) hk.2)
 refine .exit (.sr (.aN ?_))
 refine .ret (rD J ?_)
 all_goals (first | rw [HR] | rw [nm_ch hlt (fun hc => by have := nameB_iff.1 hc; omega)])
theorem c_pTitle (s : ByteArray) (hs : s.size <= 9223372036854775807) : Ya3 Tryz.prog MaxT 121 [.v (.string s)] (.v (.bool (Yar s))) := by
 refine YaF (n := 45) (ds' := [.v (.bool (Yar s))]) Tryz.func121 J (by kernel_rfl) J [2] J J ?_
 intro B w0 F0 hT
 have hsz := Lib.size_eq s
 refine .sr (.aN ?_)
 refine .seq (.sr (.mA ?_))
 refine .sA (.lenStr J st_9 J) (.sA (.lss J J J) ?_)
 refine .mA ?_
 refine .sT 7 J (fun g1 => ?_) fun g1 => ?_
 ·have HR : Yar s = false := YbA (fun hh => by omega)
  refine .pA ?_
  refine .pA ?_
  refine .pA ?_
  refine .sA (.pickT J J J) ?_
  refine .mA ?_
  refine .pA ?_
  refine .pA ?_
  refine .pA ?_
  refine .sA (.pickT J J J) ?_
  refine .mA ?_
  refine .pA ?_
  refine .pA ?_
  refine .pA ?_
  refine .pA ?_
  refine .pA ?_
  refine .pA ?_
  refine .sA (.pickT J J J) ?_
  refine .mA ?_
  refine .pA ?_
  refine .pA ?_
  refine .sA (.pickT J J J) (.nil ?_)
  refine .cond J (fun _ => ?_) (fun h => nomatch h)
  refine .sr (.aN ?_)
  refine .ret (rD J ?_)
  all_goals (first | rw [HR] | rw [show Yar s = false from YbA (fun hh => by rw [Ya8 hlt (fun hc => by have := prB_iff.1 hc; omega)] at hh; exact absurd hh.2.2.2.2.2 (by decide))])
 have hp : 0 < s.size := by omega
 refine .sG (.moveD J J) ?_
 refine .sG (.lenStr J st_9 J) ?_
 refine .sG (.gtr J J J) ?_
 refine .sA (.pickF J J J) ?_
 refine .mA ?_
 refine .sT 12 J (fun g2 => ?_) fun g2 => ?_
 ·have HR : Yar s = false := YbA (fun hh => by omega)
  refine .pA ?_
  refine .pA ?_
  refine .pA ?_
  refine .sA (.pickT J J J) ?_
  refine .mA ?_
  refine .pA ?_
  refine .pA ?_
  refine .pA ?_
  refine .pA ?_
  refine .pA ?_
  refine .pA ?_
  refine .sA (.pickT J J J) ?_
  refine .mA ?_
  refine .pA ?_
  refine .pA ?_
  refine .sA (.pickT J J J) (.nil ?_)
  refine .cond J (fun _ => ?_) (fun h => nomatch h)
  refine .sr (.aN ?_)
  refine .ret (rD J ?_)
  all_goals (first | rw [HR] | rw [show Yar s = false from YbA (fun hh => by rw [Ya8 hlt (fun hc => by have := prB_iff.1 hc; omega)] at hh; exact absurd hh.2.2.2.2.2 (by decide))])
 have hq : s.size <= 100 := by omega
 refine .sG (.moveD J J) ?_
 refine .sG (.indexStr J st_9 J J 0 J (at0_ba (by omega))) ?_
 refine .sG (.eql J J J) ?_
 refine .sA (.pickF J J J) ?_
 refine .mA ?_
 refine .sT 17 J (fun g3 => ?_) fun g3 => ?_
 ·have HR : Yar s = false := YbA (fun hh => hh.2.2.1 (u32' g3))
  refine .pA ?_
  refine .pA ?_
  refine .pA ?_
  refine .pA ?_
  refine .pA ?_
  refine .pA ?_
  refine .sA (.pickT J J J) ?_
  refine .mA ?_
  refine .pA ?_
  refine .pA ?_
  refine .sA (.pickT J J J) (.nil ?_)
  refine .cond J (fun _ => ?_) (fun h => nomatch h)
  refine .sr (.aN ?_)
  refine .ret (rD J ?_)
  all_goals (first | rw [HR] | rw [show Yar s = false from YbA (fun hh => by rw [Ya8 hlt (fun hc => by have := prB_iff.1 hc; omega)] at hh; exact absurd hh.2.2.2.2.2 (by decide))])
 have hf := u32n g3
 refine .sG (.moveD J J) ?_
 refine .sG (.moveD J J) ?_
 refine .sG (.lenStr J st_9 J) ?_
 refine .sG (.sub64 J J J) ?_
 refine .sG (.indexStr J st_9 J J (s.data.toList.length - 1) (by omega) (at0_ba (by omega))) ?_
 refine .sG (.eql J J J) ?_
 refine .sA (.pickF J J J) ?_
 refine .mA ?_
 refine .sT 25 J (fun g4 => ?_) fun g4 => ?_
 ·have HR : Yar s = false := YbA (fun hh => hh.2.2.2.1 (u32' g4))
  refine .pA ?_
  refine .pA ?_
  refine .sA (.pickT J J J) (.nil ?_)
  refine .cond J (fun _ => ?_) (fun h => nomatch h)
  refine .sr (.aN ?_)
  refine .ret (rD J ?_)
  all_goals (first | rw [HR] | rw [show Yar s = false from YbA (fun hh => by rw [Ya8 hlt (fun hc => by have := prB_iff.1 hc; omega)] at hh; exact absurd hh.2.2.2.2.2 (by decide))])
 have hl := u32n g4
 refine .sG (.moveD J J) ?_
 -- wants the world
 refine .callT ⟨25, J, .inl ⟨_, J, J⟩⟩ J J hT Yan J (.cons (.rfl' J) (.cons (.rfl' J) .nil)) (c_contains2 s hq) ?_
 refine .sA (.pickF J J J) (.nil ?_)
 refine .cond J (fun h5 => ?_) (fun h5 => ?_)
 ·skip
  have HR : Yar s = false := YbA (fun hh => by rw [hh.2.2.2.2.1] at h5; cases h5)
  refine .sr (.aN ?_)
  refine .ret (rD J ?_)
  all_goals (first | rw [HR] | rw [show Yar s = false from YbA (fun hh => by rw [Ya8 hlt (fun hc => by have := prB_iff.1 hc; omega)] at hh; exact absurd hh.2.2.2.2.2 (by decide))])
 have hcn := h5
 refine .skip (.seq (.sr (.mA ?_)))
 refine .sA (.lenStr J st_9 J) ?_
 refine .mN ?_
 refine .block (.loop (G := Nat) (fun k => Env.of [(31, .iv k), (30, .iv s.size), (0, .d (.v (.string s)))]) (fun k => []) (fun k => k <= s.size /\ ∀ c ∈ s.data.toList.take k, prB c = true) (fun k => s.size - k) 0 ⟨ZnZ _, fun c h => by simp at h⟩ (Sub.less ⟨U, U, U, trivial⟩ (fun _ h => h)) ?_)
 intro k hk
 refine .sr (.sA (.lss J J J) (.nil ?_))
 refine .seq (.cT J (fun h6 => ?_) fun h6 => ?_)
 ·have hlt : k < s.data.toList.length := by omega
  refine .skip (.seq (.block (.sr (.mA ?_))))
  refine .aN ?_
  refine .sr (.mA ?_)
  refine .mA ?_
  refine .sA (.indexStr J st_9 J J k J (at0_ba hlt)) (.sA (.lss J J J) ?_)
  refine .mA ?_
  refine .sT 38 J (fun g7 => ?_) fun g7 => ?_
  ·refine .pA ?_
   refine .pA ?_
   refine .pA ?_
   refine .pA ?_
   refine .sA (.pickT J J J) (.nil ?_)
   refine .cond J (fun _ => ?_) (fun h => nomatch h)
   refine .sr (.aN ?_)
   refine .ret (rD J ?_)
   all_goals (first | rw [HR] | rw [show Yar s = false from YbA (fun hh => by rw [Ya8 hlt (fun hc => by have := prB_iff.1 hc; omega)] at hh; exact absurd hh.2.2.2.2.2 (by decide))])
  refine .sG (.moveD J J) ?_
  refine .sG (.moveD J J) ?_
  refine .sG (.indexStr J st_9 J J k J (at0_ba hlt)) ?_
  refine .sG (.gtr J J J) ?_
  refine .sA (.pickF J J J) (.nil ?_)
  refine .cT J (fun h8 => ?_) fun h8 => ?_
  ·refine .sr (.aN ?_)
   refine .ret (rD J ?_)
   all_goals (first | rw [HR] | rw [show Yar s = false from YbA (fun hh => by rw [Ya8 hlt (fun hc => by have := prB_iff.1 hc; omega)] at hh; exact absurd hh.2.2.2.2.2 (by decide))])
  refine .skip (.region (.sA (.add64 J J J) ?_))
  refine .mN ?_
  refine ⟨k + 1, ⟨by omega, all_nx hlt hk.2 (prB_iff.2 (by omega))⟩, (by dsimp only; omega), Sub.less ⟨U, U, U, trivial⟩ (fun _ h => h)⟩
 have HR : Yar s = true := tt_yes (by omega) (by omega) hf hl hcn (all_end (by omega) hk.2)
 refine .exit (.sr (.aN ?_))
 refine .ret (rD J ?_)
 all_goals (first | rw [HR] | rw [show Yar s = false from YbA (fun hh => by rw [Ya8 hlt (fun hc => by have := prB_iff.1 hc; omega)] at hh; exact absurd hh.2.2.2.2.2 (by decide))])
theorem c_rTitle (s : ByteArray) (hs : s.size <= 9223372036854775807) : Ya3 Tryz.prog MaxT 124 [.v (.string s)] (.v (.bool (Yar s))) := by
 refine YaF (n := 44) (ds' := [.v (.bool (Yar s))]) Tryz.func124 J (by kernel_rfl) J [2] J J ?_
 intro B w0 F0 hT
 have hsz := Lib.size_eq s
 refine .sr (.aN ?_)
 refine .seq (.sr (.mA ?_))
 refine .sA (.seql J J J) ?_
 refine .mA ?_
 refine .sT 6 J (fun g1 => ?_) fun g1 => ?_
 ·have HR : Yar s = false := YbA (fun hh => by have := emp_size g1; omega)
  refine .pA ?_
  refine .pA ?_
  refine .pA ?_
  refine .sA (.pickT J J J) ?_
  refine .mA ?_
  refine .pA ?_
  refine .pA ?_
  refine .pA ?_
  refine .sA (.pickT J J J) ?_
  refine .mA ?_
  refine .pA ?_
  refine .pA ?_
  refine .pA ?_
  refine .pA ?_
  refine .pA ?_
  refine .pA ?_
  refine .sA (.pickT J J J) ?_
  refine .mA ?_
  refine .pA ?_
  refine .pA ?_
  refine .sA (.pickT J J J) (.nil ?_)
  refine .cond J (fun _ => ?_) (fun h => nomatch h)
  refine .sr (.aN ?_)
  refine .ret (rD J ?_)
  all_goals (first | rw [HR] | rw [show Yar s = false from YbA (fun hh => by rw [Ya8 hlt (fun hc => by have := prB_iff.1 hc; omega)] at hh; exact absurd hh.2.2.2.2.2 (by decide))])
 have hp : 0 < s.size := nemp_size g1
 refine .sG (.moveD J J) ?_
 refine .sG (.lenStr J st_9 J) ?_
 refine .sG (.gtr J J J) ?_
 refine .sA (.pickF J J J) ?_
 refine .mA ?_
 refine .sT 11 J (fun g2 => ?_) fun g2 => ?_
 ·have HR : Yar s = false := YbA (fun hh => by omega)
  refine .pA ?_
  refine .pA ?_
  refine .pA ?_
  refine .sA (.pickT J J J) ?_
  refine .mA ?_
  refine .pA ?_
  refine .pA ?_
  refine .pA ?_
  refine .pA ?_
  refine .pA ?_
  refine .pA ?_
  refine .sA (.pickT J J J) ?_
  refine .mA ?_
  refine .pA ?_
  refine .pA ?_
  refine .sA (.pickT J J J) (.nil ?_)
  refine .cond J (fun _ => ?_) (fun h => nomatch h)
  refine .sr (.aN ?_)
  refine .ret (rD J ?_)
  all_goals (first | rw [HR] | rw [show Yar s = false from YbA (fun hh => by rw [Ya8 hlt (fun hc => by have := prB_iff.1 hc; omega)] at hh; exact absurd hh.2.2.2.2.2 (by decide))])
 have hq : s.size <= 100 := by omega
 refine .sG (.moveD J J) ?_
 refine .sG (.indexStr J st_9 J J 0 J (at0_ba (by omega))) ?_
 refine .sG (.eql J J J) ?_
 refine .sA (.pickF J J J) ?_
 refine .mA ?_
 refine .sT 16 J (fun g3 => ?_) fun g3 => ?_
 ·have HR : Yar s = false := YbA (fun hh => hh.2.2.1 (u32' g3))
  refine .pA ?_
  refine .pA ?_
  refine .pA ?_
  refine .pA ?_
  refine .pA ?_
  refine .pA ?_
  refine .sA (.pickT J J J) ?_
  refine .mA ?_
  refine .pA ?_
  refine .pA ?_
  refine .sA (.pickT J J J) (.nil ?_)
  refine .cond J (fun _ => ?_) (fun h => nomatch h)
  refine .sr (.aN ?_)
  refine .ret (rD J ?_)
  all_goals (first | rw [HR] | rw [show Yar s = false from YbA (fun hh => by rw [Ya8 hlt (fun hc => by have := prB_iff.1 hc; omega)] at hh; exact absurd hh.2.2.2.2.2 (by decide))])
 have hf := u32n g3
 refine .sG (.moveD J J) ?_
 refine .sG (.moveD J J) ?_
 refine .sG (.lenStr J st_9 J) ?_
 refine .sG (.sub64 J J J) ?_
 refine .sG (.indexStr J st_9 J J (s.data.toList.length - 1) (by omega) (at0_ba (by omega))) ?_
 refine .sG (.eql J J J) ?_
 refine .sA (.pickF J J J) ?_
 refine .mA ?_
 refine .sT 24 J (fun g4 => ?_) fun g4 => ?_
 ·have HR : Yar s = false := YbA (fun hh => hh.2.2.2.1 (u32' g4))
  refine .pA ?_
  refine .pA ?_
  refine .sA (.pickT J J J) (.nil ?_)
  refine .cond J (fun _ => ?_) (fun h => nomatch h)
  refine .sr (.aN ?_)
  refine .ret (rD J ?_)
  all_goals (first | rw [HR] | rw [show Yar s = false from YbA (fun hh => by rw [Ya8 hlt (fun hc => by have := prB_iff.1 hc; omega)] at hh; exact absurd hh.2.2.2.2.2 (by decide))])
 have hl := u32n g4
 refine .sG (.moveD J J) ?_
 -- wants the world
 refine .callT ⟨24, J, .inl ⟨_, J, J⟩⟩ J J hT Yan J (.cons (.rfl' J) (.cons (.rfl' J) .nil)) (c_contains2 s hq) ?_
 refine .sA (.pickF J J J) (.nil ?_)
 refine .cond J (fun h5 => ?_) (fun h5 => ?_)
 ·skip
  have HR : Yar s = false := YbA (fun hh => by rw [hh.2.2.2.2.1] at h5; cases h5)
  refine .sr (.aN ?_)
  refine .ret (rD J ?_)
  all_goals (first | rw [HR] | rw [show Yar s = false from YbA (fun hh => by rw [Ya8 hlt (fun hc => by have := prB_iff.1 hc; omega)] at hh; exact absurd hh.2.2.2.2.2 (by decide))])
 have hcn := h5
 refine .skip (.seq (.sr (.mA ?_)))
 refine .sA (.lenStr J st_9 J) ?_
 refine .mN ?_
 refine .block (.loop (G := Nat) (fun k => Env.of [(30, .iv k), (29, .iv s.size), (0, .d (.v (.string s)))]) (fun k => []) (fun k => k <= s.size /\ ∀ c ∈ s.data.toList.take k, prB c = true) (fun k => s.size - k) 0 ⟨ZnZ _, fun c h => by simp at h⟩ (Sub.less ⟨U, U, U, trivial⟩ (fun _ h => h)) ?_)
 intro k hk
 refine .sr (.sA (.lss J J J) (.nil ?_))
 refine .seq (.cT J (fun h6 => ?_) fun h6 => ?_)
 ·have hlt : k < s.data.toList.length := by omega
  refine .skip (.seq (.block (.sr (.mA ?_))))
  refine .aN ?_
  refine .sr (.mA ?_)
  refine .mA ?_
  refine .sA (.indexStr J st_9 J J k J (at0_ba hlt)) (.sA (.lss J J J) ?_)
  refine .mA ?_
  refine .sT 37 J (fun g7 => ?_) fun g7 => ?_
  ·refine .pA ?_
   refine .pA ?_
   refine .pA ?_
   refine .pA ?_
   refine .sA (.pickT J J J) (.nil ?_)
   refine .cond J (fun _ => ?_) (fun h => nomatch h)
   refine .sr (.aN ?_)
   refine .ret (rD J ?_)
   all_goals (first | rw [HR] | rw [show Yar s = false from YbA (fun hh => by rw [Ya8 hlt (fun hc => by have := prB_iff.1 hc; omega)] at hh; exact absurd hh.2.2.2.2.2 (by decide))])
  refine .sG (.moveD J J) ?_
  refine .sG (.moveD J J) ?_
  refine .sG (.indexStr J st_9 J J k J (at0_ba hlt)) ?_
  refine .sG (.gtr J J J) ?_
  refine .sA (.pickF J J J) (.nil ?_)
  refine .cT J (fun h8 => ?_) fun h8 => ?_
  ·refine .sr (.aN ?_)
   refine .ret (rD J ?_)
   all_goals (first | rw [HR] | rw [show Yar s = false from YbA (fun hh => by rw [Ya8 hlt (fun hc => by have := prB_iff.1 hc; omega)] at hh; exact absurd hh.2.2.2.2.2 (by decide))])
  refine .skip (.region (.sA (.add64 J J J) ?_))
  refine .mN ?_
  refine ⟨k + 1, ⟨by omega, all_nx hlt hk.2 (prB_iff.2 (by omega))⟩, (by dsimp only; omega), Sub.less ⟨U, U, U, trivial⟩ (fun _ h => h)⟩
 have HR : Yar s = true := tt_yes (by omega) (by omega) hf hl hcn (all_end (by omega) hk.2)
 refine .exit (.sr (.aN ?_))
 refine .ret (rD J ?_)
 all_goals (first | rw [HR] | rw [show Yar s = false from YbA (fun hh => by rw [Ya8 hlt (fun hc => by have := prB_iff.1 hc; omega)] at hh; exact absurd hh.2.2.2.2.2 (by decide))])
theorem YbG (n a b : Int) : Yaq Tryz.prog 77 [.v (.int .i64 n), .v (.int .i64 a), .v (.int .i64 b)] (.v (.bool (decide (a <= n /\ n <= b)))) := by
 refine Yah (n := 15) (ds' := [.v (.bool (decide (a <= n /\ n <= b)))]) Tryz.func77 J (by kernel_rfl) J [6] J J ?_
 intro B w0 F0 fr
 refine .sr (.aN ?_)
 refine .sr (.mA ?_)
 refine .mA ?_
 refine .sA (.geq J J J) ?_
 refine .mA ?_
 refine .sT 10 J (fun g1 => ?_) fun g1 => ?_
 ·refine .sG (.moveD J J) ?_
  refine .sG (.moveD J J) ?_
  refine .sG (.leq J J J) ?_
  refine .sA (.pickT J J J) ?_
  refine .aN ?_
  refine .ret (rD J ?_)
  all_goals (simp; omega)
 refine .pA ?_
 refine .pA ?_
 refine .pA ?_
 refine .sA (.pickF J J J) ?_
 refine .aN ?_
 refine .ret (rD J ?_)
 all_goals (simp; omega)
theorem Ybr (n a b : Int) : Yaq Tryz.prog 107 [.v (.int .i64 n), .v (.int .i64 a), .v (.int .i64 b)] (.v (.bool (decide (a <= n /\ n <= b)))) := by
 refine Yah (n := 15) (ds' := [.v (.bool (decide (a <= n /\ n <= b)))]) Tryz.func107 J (by kernel_rfl) J [6] J J ?_
 intro B w0 F0 fr
 refine .sr (.aN ?_)
 refine .sr (.mA ?_)
 refine .mA ?_
 refine .sA (.leq J J J) ?_
 refine .mA ?_
 refine .sT 10 J (fun g1 => ?_) fun g1 => ?_
 ·refine .sG (.moveD J J) ?_
  refine .sG (.moveD J J) ?_
  refine .sG (.leq J J J) ?_
  refine .sA (.pickT J J J) ?_
  refine .aN ?_
  refine .ret (rD J ?_)
  all_goals (simp; omega)
 refine .pA ?_
 refine .pA ?_
 refine .pA ?_
 refine .sA (.pickF J J J) ?_
 refine .aN ?_
 refine .ret (rD J ?_)
 all_goals (simp; omega)
section
variable {cx : Cx} {ops : Array Oper} {o : Oper} {rest : List Oper} {e : Env} {σ : Obs} {Q : Post}
end
section
variable {P : Program} {B : Nat} {ops : Array Oper} {o : Oper} {e : Env} {σ : Obs}
end
section
variable {P : Program} {B : Nat} {ops : Array Oper} {o : Oper} {e : Env} {σ : Obs}
theorem AOp.loadAggT {t : TypeId} {x : Operand} {size : Nat} {ds : List D} (ho : o.op = .load t x) (hT : AggT P t size) (hx : e.ev x = .d (.fp ds)) (hl : size <= ds.length) : AOp P B ops o e σ (.d (.agg (ds.take size))) :=
 .value fun F ρ w a hF hr _ => by
 have h1 := hr x (by rw [ho]; simp [Op.operands])
 rw [hx] at h1
 have h2 := Yao h1
 obtain ⟨ad, hv⟩ := rep_fp h2
 rw [hv] at h2
 cases h2 with
 | fp _ _ vs hF' hcell hone hrep =>
  have hl' : (loadCells ad ((List.range size).map vs).length).run P w = .ok ((List.range size).map vs).toArray w := run_loadCells_list w _ _ (fun j v hj => by
   have hjl := (ZgS.1 hj).1
   simp at hjl
   rw [hcell j (by omega), <- hj]
   simp [hjl])
  simp only [ZlM, List.length_range] at hl'
  refine ⟨.agg ((List.range size).map vs).toArray, F, w, ?_, .d (.agg _ _ (by simp; omega) (fun i hi => ?_) (fun i hi hi2 => ?_)), Ext.refl hF⟩
  ·unfold execOp
   simp only [ho, hv, Instr.loadAt, Instr.sureAddr, loadVar, Sem.run_bind, Sem.run_pure, Result.andThen_ok, hT.agg w, hT.size w, if_true, hl']
  ·simp at hi ⊢
   exact hone i (by omega)
  ·simp at hi hi2 ⊢
   exact hrep i (by omega)
end
namespace Ty
theorem ag_122 : AggT Tryz.prog 122 3 := .of (by kernel_rfl)
theorem et_32 : ElemTy Tryz.prog 32 122 3 40 (.agg #[(.string ⟨#[]⟩), (.string ⟨#[]⟩), (.int .i64 0)]) := ⟨by kernel_rfl, by kernel_rfl, by kernel_rfl, by decide⟩
theorem YbN : Yaf Tryz.prog 122 0 = some 0 := by kernel_rfl
theorem fo_122_1 : Yaf Tryz.prog 122 1 = some 1 := by kernel_rfl
theorem fo_122_2 : Yaf Tryz.prog 122 2 = some 2 := by kernel_rfl
theorem sc_9 : Scal Tryz.prog 9 := .of (by kernel_rfl)
theorem sz_122 : ∀ w, (sizeOf 122).run Tryz.prog w = .ok 3 w := SizeT.of (by kernel_rfl)
theorem zt_122 : (Tryz.prog.info? 122).bind (·.zero) = some (.agg #[(.string ⟨#[]⟩), (.string ⟨#[]⟩), (.int .i64 0)]) := by kernel_rfl
end Ty
open Go.Lib
theorem take_f {α : Type} {p : α -> Bool} {l : List α} {k : Nat} (hk : k < l.length) (h : ∀ c ∈ l.take k, p c = false) (h2 : p l[k] = false) : ∀ c ∈ l.take (k + 1), p c = false := by
 intro c hc
 rw [List.take_add_one, ZgE hk] at hc
 simp only [Option.toList_some, List.mem_append, ZmS] at hc
 rcases hc with h1 | h1
 ·exact h c h1
 ·rw [h1]; exact h2
def orI (l : List Int) : Int := (l.find? fun x => decide (x ≠ 0)).getD 0
theorem orI_yes {l : List Int} {k : Nat} (hk : k < l.length) (h : ∀ c ∈ l.take k, decide (c ≠ 0) = false) (h2 : l[k] ≠ 0) : orI l = l[k] := by
 unfold orI
 have e : l = l.take k ++ l[k] :: l.drop (k + 1) := by rw [<- List.drop_eq_getElem_cons hk, List.take_append_drop]
 have h3 : (l.take k).find? (fun x => decide (x ≠ 0)) = none := List.find?_eq_none.2 fun x hx => by rw [h x hx]; simp
 have h4 : l.find? (fun x => decide (x ≠ 0)) = some l[k] := by
  have : (l.take k ++ l[k] :: l.drop (k + 1)).find? (fun x => decide (x ≠ 0)) = some l[k] := by
   rw [List.find?_append, h3, List.find?_cons, decide_eq_true h2]; rfl
  rw [<- e] at this; exact this
 rw [h4]; rfl
theorem orI_no {l : List Int} (h : ∀ c ∈ l.take l.length, decide (c ≠ 0) = false) : orI l = 0 := by
 unfold orI
 rw [List.find?_eq_none.2 fun x hx => by rw [h x (by rw [List.take_length]; exact hx)]; simp]
 rfl
theorem orI_two (a b : Int) : orI [a, b] = if a = 0 then b else a := by
 by_cases h : a = 0
 ·rw [if_pos h]
  by_cases h2 : b = 0 <;> simp [orI, h, h2]
 ·rw [if_neg h]; simp [orI, h]
theorem orI_ali (a b : Ali) : orI [Yax a.source b.source, Yax a.title b.title] = YaL a b := by
 rw [orI_two]
 unfold YaL
 by_cases h : a.source = b.source
 ·rw [if_pos (strCmp_zero.2 h), if_pos h]
 ·rw [if_neg (fun hh => h (strCmp_zero.1 hh)), if_neg h]
theorem cmp_pos {a b : ByteArray} (h : slt b a = true) : 0 <= Yax a b := by
 have : ¬ Yax a b < 0 := fun hh => by
  have h2 := strCmp_lt.1 hh
  rw [show slt a b = false from less_asym _ _ h] at h2; cases h2
 omega
theorem cmp_neg {a b : ByteArray} (h : slt b a = false) (hne : ¬ b = a) : Yax a b < 0 := strCmp_lt.2 (less_total _ _ h (fun e => hne (toList_inj.1 e)))
theorem ali_1 {a b : Ali} (h : slt b.source a.source = true) : 0 <= YaL a b := by
 have hne : ¬ a.source = b.source := fun e => by rw [e] at h; rw [show slt b.source b.source = false from less_irr _] at h; cases h
 unfold YaL; rw [if_neg hne]; exact cmp_pos h
theorem ali_2 {a b : Ali} (h : slt b.source a.source = false) (hne : ¬ b.source = a.source) : ¬ 0 <= YaL a b := by
 unfold YaL; rw [if_neg (fun e => hne e.symm)]
 have := cmp_neg h hne
 omega
theorem sle_cmp {a b : ByteArray} : sle b a = true ↔ 0 <= Yax a b := by
 have h := slt_sle a b
 have h2 := @strCmp_lt a b
 cases hs : sle b a with
 | true => rw [hs] at h; rw [h] at h2; simp at h2; simpa using h2
 | false => rw [hs] at h; rw [h] at h2; simp at h2; simpa using h2
theorem ali_3 {a b : Ali} (h : b.source = a.source) : 0 <= YaL a b ↔ sle b.title a.title = true := by
 unfold YaL; rw [if_pos h.symm, sle_cmp]
theorem c_or (l : List Int) : Yaq Tryz.prog 89 [.sl (l.map intD)] (.v (.int .i64 (orI l))) := by
 refine Yah (n := 18) (ds' := [.v (.int .i64 (orI l))]) Tryz.func89 J (by kernel_rfl) J [2] J J ?_
 intro B w0 F0 fr
 refine .bound 0 J (fun hbd0 => ?_)
 rw [ZlM] at hbd0
 refine .sr (.aN ?_)
 refine .sr (.aN ?_)
 refine .seq (.sr (.mA ?_))
 refine .sA (.lenSl J et_37.ht J) ?_
 refine .mN ?_
 refine .block (.loop (G := Nat) (fun k => Env.of [(8, .iv k), (6, .d (.sl (l.map intD))), (7, .iv (l.map intD).length), (3, .d (.v (.int .i64 0)))]) (fun k => []) (fun k => k <= l.length /\ ∀ c ∈ l.take k, decide (c ≠ 0) = false) (fun k => l.length - k) 0 ⟨ZnZ _, fun c h => by simp at h⟩ (Sub.less ⟨U, U, U, U, trivial⟩ (fun _ h => h)) ?_)
 intro k hk
 refine .sr (.sA (.lss J J J) (.nil ?_))
 refine .seq (.cT J (fun h1 => ?_) fun h1 => ?_)
 ·rw [ZlM] at h1
  have hlt : k < l.length := by omega
  refine .skip (.seq (.block (.sr (.sA (.indexAddr J et_37 J J k J (Yad hlt) J) ?_))))
  refine .sA (.load J sc_3 J) ?_
  refine .aN ?_
  refine .sr (.mA ?_)
  refine .mA ?_
  refine .sA (.neq J J J) (.nil ?_)
  refine .cT J (fun h2 => ?_) fun h2 => ?_
  ·rw [orI_yes hlt hk.2 h2]
   refine .sr (.mA ?_)
   refine .aN ?_
   refine .ret (rD J ?_)
   all_goals (rfl)
  have hT := take_f (p := fun x : Int => decide (x ≠ 0)) hlt hk.2 (decide_eq_false h2)
  refine .skip (.region (.sA (.add64 J J J) ?_))
  refine .mN ?_
  refine ⟨k + 1, ⟨by omega, hT⟩, (by dsimp only; omega), Sub.less ⟨U, U, U, U, trivial⟩ (fun _ h => h)⟩
 rw [ZlM] at h1
 rw [orI_no (fun c hc => hk.2 c (by rw [show k = l.length by omega]; exact hc))]
 refine .exit (.sr (.mA ?_))
 refine .aN ?_
 refine .ret (rD J ?_)
 all_goals (rfl)
theorem c_cmpAli (a b : Ali) : Yaq Tryz.prog 86 [.agg a.ds, .agg b.ds] (.v (.int .i64 (YaL a b))) := by
 refine Yah (n := 17) (ds' := [.v (.int .i64 (YaL a b))]) Tryz.func86 J (by kernel_rfl) J [4] J J ?_
 intro B w0 F0 fr
 refine .sr (.sA (.box J J J) ?_)
 refine .sA (.box J J J) ?_
 refine .aN ?_
 refine .seq (.draw (by kernel_rfl) (by kernel_rfl) ?_)
 refine .sA (.fieldAddr J YbN J) (.sA (.load J sc_9 J) (.sA (.fieldAddr J YbN J) (.sA (.load J sc_9 J) (.sA (.call J (.cons (.rfl' J) (.cons (.rfl' J) .nil)) (c_strCmp _ _)) (.sA (.fieldAddr J fo_122_1 J) ?_)))))
 refine .sA (.load J sc_9 J) (.sA (.fieldAddr J fo_122_1 J) (.sA (.load J sc_9 J) (.sA (.call J (.cons (.rfl' J) (.cons (.rfl' J) .nil)) (c_strCmp _ _)) ?_)))
 refine .sA (.buildSlice J et_37 (.cons J J J (.cons J J J .nil)) J (by decide)) ?_
 refine .sA (.call J (.cons (.rfl' J) .nil) (c_or [Yax a.source b.source, Yax a.title b.title])) (.sA (.assignD J J) ?_)
 refine .nil ?_
 refine .ret (rD J ?_)
 all_goals (rw [orI_ali])
theorem c_pAlis (l : List Ali) (hb : ∀ x ∈ l, x.source.size <= 9223372036854775807 /\ x.title.size <= 9223372036854775807) : Ya3 Tryz.prog MaxT 110 [.sl (l.map Ali.ds)] (.v (.int .i64 (Yb5 l))) := by
 refine YaF (n := 44) (ds' := [.v (.int .i64 (Yb5 l))]) Tryz.func110 J (by kernel_rfl) J [2] J J ?_
 intro B w0 F0 hT
 refine .sr (.aN ?_)
 refine .seq (.sr (.mA ?_))
 refine .sA (.lenSl J et_32.ht J) ?_
 refine .sA (.gtr J J J) (.nil ?_)
 refine .cT J (fun h1 => ?_) fun h1 => ?_
 ·rw [ZlM] at h1
  have HR : Yb5 l = 2 := if_pos (by omega)
  refine .sr (.aN ?_)
  refine .ret (rD J ?_)
  all_goals (first | rw [HR] | (rw [HX, Yab (f := aliF l) hk.2 (by unfold aliF; rw [dif_pos hlt]; grind) _ hlt]; unfold aliF; rw [dif_pos hlt]; grind))
 rw [ZlM] at h1
 have HX : Yb5 l = ffst (aliF l) l.length := if_neg (by omega)
 refine .skip (.seq (.sr (.mA ?_)))
 refine .sA (.lenSl J et_32.ht J) ?_
 refine .mN ?_
 refine .block (.loop (G := Nat) (fun k => Env.of [(10, .iv k), (8, .d (.sl (l.map Ali.ds))), (9, .iv (l.map Ali.ds).length), (0, .d (.sl (l.map Ali.ds)))]) (fun k => []) (fun k => k <= l.length /\ ffst (aliF l) k = 0) (fun k => l.length - k) 0 ⟨ZnZ _, J⟩ (Sub.less ⟨U, U, U, U, trivial⟩ (fun _ h => h)) ?_)
 intro k hk
 refine .sr (.sA (.lss J J J) (.nil ?_))
 refine .seq (.cT J (fun h2 => ?_) fun h2 => ?_)
 ·rw [ZlM] at h2
  have hlt : k < l.length := by omega
  have hbk := hb _ (ZgM hlt)
  refine .skip (.seq (.block (.sr (.mA ?_))))
  refine .sA (.indexAddr J et_32 J J k J (Yad hlt) J) (.sA (.loadAgg J ag_122 J J) ?_)
  refine .alloc 101 J J J J zt_122 J J J ?_
  refine .aA ?_
  refine .store J J J sz_122 J (.head _) J J J (ZnB J) ?_
  refine .freezeCells 4 (ds := l[k].ds) J (.head _) (.nil ?_)
  refine .block (.sr (.sA (.fieldAddr J YbN J) ?_))
  refine .sA (.load J sc_9 J) (.sA (.call J (.cons (.rfl' J) .nil) (c_pName _ hbk.1)) (.sA (.not J J) ?_))
  refine .aN ?_
  refine .cond J (fun h3 => ?_) (fun h3 => ?_)
  ·replace h3 := Ybb h3
   refine .sr (.aN ?_)
   refine .ret (rD J ?_)
   all_goals (first | rw [HR] | (rw [HX, Yab (f := aliF l) hk.2 (by unfold aliF; rw [dif_pos hlt]; grind) _ hlt]; unfold aliF; rw [dif_pos hlt]; grind))
  replace h3 := Ybc h3
  have n1 : ¬ YaI l[k].source = false := by rw [h3]; decide
  refine .sr (.sA (.fieldAddr J fo_122_1 J) ?_)
  refine .sA (.load J sc_9 J) ?_
  -- wants the world
  refine .callT J J J hT Yan J (.cons (.rfl' J) .nil) (c_pTitle _ hbk.2) ?_
  refine .sA (.not J J) ?_
  refine .aN ?_
  refine .cond J (fun h4 => ?_) (fun h4 => ?_)
  ·replace h4 := Ybb h4
   refine .sr (.aN ?_)
   refine .ret (rD J ?_)
   all_goals (first | rw [HR] | (rw [HX, Yab (f := aliF l) hk.2 (by unfold aliF; rw [dif_pos hlt]; grind) _ hlt]; unfold aliF; rw [dif_pos hlt]; grind))
  replace h4 := Ybc h4
  have n2 : ¬ Yar l[k].title = false := by rw [h4]; decide
  refine .seq (.draw (by kernel_rfl) (by kernel_rfl) ?_)
  refine .sA (.moveD J J) (.sA (.gtr J J J) (.sA (.moveD J J) ?_))
  refine .sT 28 J (fun g5 => ?_) fun g5 => ?_
  ·have hk0 : 0 < k := by omega
   refine .sG (.moveD J J) ?_
   refine .sG (.moveD J J) ?_
   refine .sG (.sub64 J J J) ?_
   refine .sG (.indexAddr J et_32 J J (k - 1) (by omega) (Yad (by omega)) J) ?_
   refine .sG (.loadAgg J ag_122 J J) ?_
   refine .sG (.loadAgg J ag_122 J J) ?_
   refine .sG (.call J (.cons (.rfl' J) (.cons (.rfl' J) .nil)) (c_cmpAli _ _)) ?_
   refine .sG (.geq J J J) ?_
   refine .sA (.pickT J J J) (.sA (.assignD J J) ?_)
   refine .nil ?_
   refine .cT J (fun h6 => ?_) fun h6 => ?_
   ·have n3 : (0 < k /\ 0 <= YaL (l[k-1]'(by omega)) l[k]) := ⟨hk0, by omega⟩
    refine .sr (.aN ?_)
    refine .ret (rD J ?_)
    all_goals (first | rw [HR] | (rw [HX, Yab (f := aliF l) hk.2 (by unfold aliF; rw [dif_pos hlt]; grind) _ hlt]; unfold aliF; rw [dif_pos hlt]; grind))
   have n3 : ¬ (0 < k /\ 0 <= YaL (l[k-1]'(by omega)) l[k]) := fun hh => h6 hh.2
   refine .sr (.sA (.fieldAddr J fo_122_2 J) ?_)
   refine .sA (.load J sc_3 J) (.sA (.call J (.cons (.rfl' J) (.cons (.rfl' J) (.cons (.rfl' J) .nil))) (YbG _ _ _)) (.sA (.not J J) ?_))
   refine .aN ?_
   refine .cN J (fun h7 => ?_) fun h7 => ?_
   ·refine .sr (.aN ?_)
    refine .ret (rD J ?_)
    all_goals (first | rw [HR] | (rw [HX, Yab (f := aliF l) hk.2 (by unfold aliF; rw [dif_pos hlt]; grind) _ hlt]; unfold aliF; rw [dif_pos hlt]; grind))
   refine .skip (.region (.sA (.add64 J J J) ?_))
   refine .mN ?_
   refine ⟨k + 1, ⟨by omega, Yag hk.2 (by unfold aliF; rw [dif_pos hlt]; grind)⟩, (by dsimp only; omega), Sub.less ⟨U, U, U, U, trivial⟩ (fun _ h => h)⟩
  have n3 : ¬ (0 < k /\ 0 <= YaL (l[k-1]'(by omega)) l[k]) := fun hh => by omega
  refine .pA ?_
  refine .pA ?_
  refine .pA ?_
  refine .pA ?_
  refine .pA ?_
  refine .pA ?_
  refine .pA ?_
  refine .pA ?_
  refine .sA (.pickF J J J) (.sA (.assignD J J) ?_)
  refine .nil ?_
  refine .cond J (fun h => nomatch h) (fun _ => ?_)
  refine .sr (.sA (.fieldAddr J fo_122_2 J) ?_)
  refine .sA (.load J sc_3 J) (.sA (.call J (.cons (.rfl' J) (.cons (.rfl' J) (.cons (.rfl' J) .nil))) (YbG _ _ _)) (.sA (.not J J) ?_))
  refine .aN ?_
  refine .cN J (fun h8 => ?_) fun h8 => ?_
  ·refine .sr (.aN ?_)
   refine .ret (rD J ?_)
   all_goals (first | rw [HR] | (rw [HX, Yab (f := aliF l) hk.2 (by unfold aliF; rw [dif_pos hlt]; grind) _ hlt]; unfold aliF; rw [dif_pos hlt]; grind))
  refine .skip (.region (.sA (.add64 J J J) ?_))
  refine .mN ?_
  refine ⟨k + 1, ⟨by omega, Yag hk.2 (by unfold aliF; rw [dif_pos hlt]; grind)⟩, (by dsimp only; omega), Sub.less ⟨U, U, U, U, trivial⟩ (fun _ h => h)⟩
 rw [ZlM] at h2
 have HR : Yb5 l = 0 := by rw [HX, show l.length = k by omega]; exact hk.2
 refine .exit (.sr (.aN ?_))
 refine .ret (rD J ?_)
 all_goals (first | rw [HR] | (rw [HX, Yab (f := aliF l) hk.2 (by unfold aliF; rw [dif_pos hlt]; grind) _ hlt]; unfold aliF; rw [dif_pos hlt]; grind))
theorem c_rAlis (l : List Ali) (hb : ∀ x ∈ l, x.source.size <= 9223372036854775807 /\ x.title.size <= 9223372036854775807) : Ya3 Tryz.prog MaxT 198 [.sl (l.map Ali.ds)] (.v (.int .i64 (Yb5 l))) := by
 refine YaF (n := 67) (ds' := [.v (.int .i64 (Yb5 l))]) Tryz.func198 J (by kernel_rfl) J [2] J J ?_
 intro B w0 F0 hT
 refine .sr (.aN ?_)
 refine .seq (.sr (.mA ?_))
 refine .sA (.lenSl J et_32.ht J) ?_
 refine .sA (.gtr J J J) (.nil ?_)
 refine .cT J (fun h1 => ?_) fun h1 => ?_
 ·rw [ZlM] at h1
  have HR : Yb5 l = 2 := if_pos (by omega)
  refine .sr (.aN ?_)
  refine .ret (rD J ?_)
  all_goals (first | rw [HR] | (rw [HX, Yab (f := aliF l) hk.2 (by unfold aliF; rw [dif_pos hlt]; grind) _ hlt]; unfold aliF; rw [dif_pos hlt]; grind))
 rw [ZlM] at h1
 have HX : Yb5 l = ffst (aliF l) l.length := if_neg (by omega)
 refine .skip (.seq (.sr (.mA ?_)))
 refine .sA (.lenSl J et_32.ht J) ?_
 refine .mN ?_
 refine .block (.loop (G := Nat) (fun k => Env.of [(10, .iv k), (8, .d (.sl (l.map Ali.ds))), (9, .iv (l.map Ali.ds).length), (0, .d (.sl (l.map Ali.ds)))]) (fun k => []) (fun k => k <= l.length /\ ffst (aliF l) k = 0) (fun k => l.length - k) 0 ⟨ZnZ _, J⟩ (Sub.less ⟨U, U, U, U, trivial⟩ (fun _ h => h)) ?_)
 intro k hk
 refine .sr (.sA (.lss J J J) (.nil ?_))
 refine .seq (.cT J (fun h2 => ?_) fun h2 => ?_)
 ·rw [ZlM] at h2
  have hlt : k < l.length := by omega
  have hbk := hb _ (ZgM hlt)
  refine .skip (.seq (.block (.sr (.mA ?_))))
  refine .sA (.indexAddr J et_32 J J k J (Yad hlt) J) (.sA (.loadAgg J ag_122 J J) ?_)
  refine .alloc 101 J J J J zt_122 J J J ?_
  refine .aA ?_
  refine .store J J J sz_122 J (.head _) J J J (ZnB J) ?_
  refine .freezeCells 4 (ds := l[k].ds) J (.head _) (.nil ?_)
  refine .block (.sr (.sA (.fieldAddr J YbN J) ?_))
  refine .sA (.load J sc_9 J) (.sA (.call J (.cons (.rfl' J) .nil) (c_rName _ hbk.1)) (.sA (.not J J) ?_))
  refine .aN ?_
  refine .cond J (fun h3 => ?_) (fun h3 => ?_)
  ·replace h3 := Ybb h3
   refine .sr (.aN ?_)
   refine .ret (rD J ?_)
   all_goals (first | rw [HR] | (rw [HX, Yab (f := aliF l) hk.2 (by unfold aliF; rw [dif_pos hlt]; grind) _ hlt]; unfold aliF; rw [dif_pos hlt]; grind))
  replace h3 := Ybc h3
  have n1 : ¬ YaI l[k].source = false := by rw [h3]; decide
  refine .sr (.sA (.fieldAddr J fo_122_1 J) ?_)
  refine .sA (.load J sc_9 J) ?_
  -- wants the world
  refine .callT J J J hT Yan J (.cons (.rfl' J) .nil) (c_rTitle _ hbk.2) ?_
  refine .sA (.not J J) ?_
  refine .aN ?_
  refine .cond J (fun h4 => ?_) (fun h4 => ?_)
  ·replace h4 := Ybb h4
   refine .sr (.aN ?_)
   refine .ret (rD J ?_)
   all_goals (first | rw [HR] | (rw [HX, Yab (f := aliF l) hk.2 (by unfold aliF; rw [dif_pos hlt]; grind) _ hlt]; unfold aliF; rw [dif_pos hlt]; grind))
  replace h4 := Ybc h4
  have n2 : ¬ Yar l[k].title = false := by rw [h4]; decide
  refine .seq (.draw (by kernel_rfl) (by kernel_rfl) ?_)
  refine .sA (.moveD J J) (.sA (.gtr J J J) (.sA (.moveD J J) ?_))
  refine .sT 28 J (fun g5 => ?_) fun g5 => ?_
  ·have hk0 : 0 < k := by omega
   refine .sG (.fieldAddr J YbN J) ?_
   refine .sG (.load J sc_9 J) ?_
   refine .sG (.moveD J J) ?_
   refine .sG (.moveD J J) ?_
   refine .sG (.sub64 J J J) ?_
   refine .sG (.indexAddr J et_32 J J (k - 1) (by omega) (Yad (by omega)) J) ?_
   refine .sG (.fieldAddr J YbN J) ?_
   refine .sG (.load J sc_9 J) ?_
   refine .sG (.slss J J J) ?_
   refine .sG (.moveD J J) ?_
   refine .split 38 J (fun g6 => ?_) (fun g6 => ?_)
   ·skip
    have n3 : (0 < k /\ 0 <= YaL (l[k-1]'(by omega)) l[k]) := ⟨hk0, ali_1 g6⟩
    refine .pA ?_
    refine .pA ?_
    refine .pA ?_
    refine .pA ?_
    refine .pA ?_
    refine .pA ?_
    refine .pA ?_
    refine .pA ?_
    refine .pA ?_
    refine .pA ?_
    refine .pass ⟨48, J, .inr ⟨J, J⟩⟩ J J ?_
    refine .pass ⟨48, J, .inr ⟨J, J⟩⟩ J J ?_
    refine .pass ⟨48, J, .inr ⟨J, J⟩⟩ J J ?_
    refine .pass ⟨48, J, .inr ⟨J, J⟩⟩ J J ?_
    refine .pass ⟨48, J, .inr ⟨J, J⟩⟩ J J ?_
    refine .pass ⟨48, J, .inr ⟨J, J⟩⟩ J J ?_
    refine .pass ⟨48, J, .inr ⟨J, J⟩⟩ J J ?_
    refine .pass ⟨48, J, .inr ⟨J, J⟩⟩ J J ?_
    refine .pass ⟨48, J, .inr ⟨J, J⟩⟩ J J ?_
    refine .pA ?_
    refine .sG (.pickT J J J) ?_
    refine .sA (.pickT J J J) (.sA (.assignD J J) ?_)
    refine .nil ?_
    refine .cond J (fun _ => ?_) (fun h => nomatch h)
    refine .sr (.aN ?_)
    refine .ret (rD J ?_)
    all_goals (first | rw [HR] | (rw [HX, Yab (f := aliF l) hk.2 (by unfold aliF; rw [dif_pos hlt]; grind) _ hlt]; unfold aliF; rw [dif_pos hlt]; grind))
   have hs0 := g6
   refine .sG (.fieldAddr J YbN J) ?_
   refine .sG (.load J sc_9 J) ?_
   refine .sG (.moveD J J) ?_
   refine .sG (.moveD J J) ?_
   refine .sG (.sub64 J J J) ?_
   refine .sG (.indexAddr J et_32 J J (k - 1) (by omega) (Yad (by omega)) J) ?_
   refine .sG (.fieldAddr J YbN J) ?_
   refine .sG (.load J sc_9 J) ?_
   refine .sG (.seql J J J) ?_
   refine .sG (.moveD J J) ?_
   refine .sT 48 J (fun g7 => ?_) fun g7 => ?_
   ·have hse := g7
    refine .sG (.fieldAddr J fo_122_1 J) ?_
    refine .sG (.load J sc_9 J) ?_
    refine .sG (.moveD J J) ?_
    refine .sG (.moveD J J) ?_
    refine .sG (.sub64 J J J) ?_
    refine .sG (.indexAddr J et_32 J J (k - 1) (by omega) (Yad (by omega)) J) ?_
    refine .sG (.fieldAddr J fo_122_1 J) ?_
    refine .sG (.load J sc_9 J) ?_
    refine .sG (.sleq J J J) ?_
    refine .sG (.pickT J J J) ?_
    refine .sG (.pickF J J J) ?_
    refine .sA (.pickT J J J) (.sA (.assignD J J) ?_)
    refine .nil ?_
    refine .cond J (fun h8 => ?_) (fun h8 => ?_)
    ·skip
     have n3 : (0 < k /\ 0 <= YaL (l[k-1]'(by omega)) l[k]) := ⟨hk0, (ali_3 hse).2 h8⟩
     refine .sr (.aN ?_)
     refine .ret (rD J ?_)
     all_goals (first | rw [HR] | (rw [HX, Yab (f := aliF l) hk.2 (by unfold aliF; rw [dif_pos hlt]; grind) _ hlt]; unfold aliF; rw [dif_pos hlt]; grind))
    have n3 : ¬ (0 < k /\ 0 <= YaL (l[k-1]'(by omega)) l[k]) := fun hh => by have h5 := (ali_3 hse).1 hh.2; rw [show sle l[k].title (l[k-1]'(by omega)).title = false from h8] at h5; cases h5
    refine .sr (.sA (.fieldAddr J fo_122_2 J) ?_)
    refine .sA (.load J sc_3 J) (.sA (.call J (.cons (.rfl' J) (.cons (.rfl' J) (.cons (.rfl' J) .nil))) (Ybr _ _ _)) (.sA (.not J J) ?_))
    refine .aN ?_
    refine .cN J (fun h9 => ?_) fun h9 => ?_
    ·refine .sr (.aN ?_)
     refine .ret (rD J ?_)
     all_goals (first | rw [HR] | (rw [HX, Yab (f := aliF l) hk.2 (by unfold aliF; rw [dif_pos hlt]; grind) _ hlt]; unfold aliF; rw [dif_pos hlt]; grind))
    refine .skip (.region (.sA (.add64 J J J) ?_))
    refine .mN ?_
    refine ⟨k + 1, ⟨by omega, Yag hk.2 (by unfold aliF; rw [dif_pos hlt]; grind)⟩, (by dsimp only; omega), Sub.less ⟨U, U, U, U, trivial⟩ (fun _ h => h)⟩
   have n3 : ¬ (0 < k /\ 0 <= YaL (l[k-1]'(by omega)) l[k]) := fun hh => ali_2 hs0 g7 hh.2
   refine .pA ?_
   refine .pA ?_
   refine .pA ?_
   refine .pA ?_
   refine .pA ?_
   refine .pA ?_
   refine .pA ?_
   refine .pA ?_
   refine .pA ?_
   refine .sG (.pickF J J J) ?_
   refine .sG (.pickF J J J) ?_
   refine .sA (.pickT J J J) (.sA (.assignD J J) ?_)
   refine .nil ?_
   refine .cond J (fun h => nomatch h) (fun _ => ?_)
   refine .sr (.sA (.fieldAddr J fo_122_2 J) ?_)
   refine .sA (.load J sc_3 J) (.sA (.call J (.cons (.rfl' J) (.cons (.rfl' J) (.cons (.rfl' J) .nil))) (Ybr _ _ _)) (.sA (.not J J) ?_))
   refine .aN ?_
   refine .cN J (fun h10 => ?_) fun h10 => ?_
   ·refine .sr (.aN ?_)
    refine .ret (rD J ?_)
    all_goals (first | rw [HR] | (rw [HX, Yab (f := aliF l) hk.2 (by unfold aliF; rw [dif_pos hlt]; grind) _ hlt]; unfold aliF; rw [dif_pos hlt]; grind))
   refine .skip (.region (.sA (.add64 J J J) ?_))
   refine .mN ?_
   refine ⟨k + 1, ⟨by omega, Yag hk.2 (by unfold aliF; rw [dif_pos hlt]; grind)⟩, (by dsimp only; omega), Sub.less ⟨U, U, U, U, trivial⟩ (fun _ h => h)⟩
  have n3 : ¬ (0 < k /\ 0 <= YaL (l[k-1]'(by omega)) l[k]) := fun hh => by omega
  refine .pA ?_
  refine .pA ?_
  refine .pA ?_
  refine .pA ?_
  refine .pA ?_
  refine .pA ?_
  refine .pA ?_
  refine .pA ?_
  refine .pA ?_
  refine .pA ?_
  refine .pass ⟨38, J, .inr ⟨J, J⟩⟩ J J ?_
  refine .pass ⟨38, J, .inr ⟨J, J⟩⟩ J J ?_
  refine .pass ⟨38, J, .inr ⟨J, J⟩⟩ J J ?_
  refine .pass ⟨38, J, .inr ⟨J, J⟩⟩ J J ?_
  refine .pass ⟨38, J, .inr ⟨J, J⟩⟩ J J ?_
  refine .pass ⟨38, J, .inr ⟨J, J⟩⟩ J J ?_
  refine .pass ⟨38, J, .inr ⟨J, J⟩⟩ J J ?_
  refine .pass ⟨38, J, .inr ⟨J, J⟩⟩ J J ?_
  refine .pass ⟨38, J, .inr ⟨J, J⟩⟩ J J ?_
  refine .pass ⟨38, J, .inr ⟨J, J⟩⟩ J J ?_
  refine .pass ⟨48, J, .inr ⟨J, J⟩⟩ J J ?_
  refine .pass ⟨48, J, .inr ⟨J, J⟩⟩ J J ?_
  refine .pass ⟨48, J, .inr ⟨J, J⟩⟩ J J ?_
  refine .pass ⟨48, J, .inr ⟨J, J⟩⟩ J J ?_
  refine .pass ⟨48, J, .inr ⟨J, J⟩⟩ J J ?_
  refine .pass ⟨48, J, .inr ⟨J, J⟩⟩ J J ?_
  refine .pass ⟨48, J, .inr ⟨J, J⟩⟩ J J ?_
  refine .pass ⟨48, J, .inr ⟨J, J⟩⟩ J J ?_
  refine .pass ⟨48, J, .inr ⟨J, J⟩⟩ J J ?_
  refine .pass ⟨38, J, .inr ⟨J, J⟩⟩ J J ?_
  refine .pA ?_
  refine .sA (.pickF J J J) (.sA (.assignD J J) ?_)
  refine .nil ?_
  refine .cond J (fun h => nomatch h) (fun _ => ?_)
  refine .sr (.sA (.fieldAddr J fo_122_2 J) ?_)
  refine .sA (.load J sc_3 J) (.sA (.call J (.cons (.rfl' J) (.cons (.rfl' J) (.cons (.rfl' J) .nil))) (Ybr _ _ _)) (.sA (.not J J) ?_))
  refine .aN ?_
  refine .cN J (fun h11 => ?_) fun h11 => ?_
  ·refine .sr (.aN ?_)
   refine .ret (rD J ?_)
   all_goals (first | rw [HR] | (rw [HX, Yab (f := aliF l) hk.2 (by unfold aliF; rw [dif_pos hlt]; grind) _ hlt]; unfold aliF; rw [dif_pos hlt]; grind))
  refine .skip (.region (.sA (.add64 J J J) ?_))
  refine .mN ?_
  refine ⟨k + 1, ⟨by omega, Yag hk.2 (by unfold aliF; rw [dif_pos hlt]; grind)⟩, (by dsimp only; omega), Sub.less ⟨U, U, U, U, trivial⟩ (fun _ h => h)⟩
 rw [ZlM] at h2
 have HR : Yb5 l = 0 := by rw [HX, show l.length = k by omega]; exact hk.2
 refine .exit (.sr (.aN ?_))
 refine .ret (rD J ?_)
 all_goals (first | rw [HR] | (rw [HX, Yab (f := aliF l) hk.2 (by unfold aliF; rw [dif_pos hlt]; grind) _ hlt]; unfold aliF; rw [dif_pos hlt]; grind))
end
end Go.Proofs.YtcfamaddnmnaeaaGreatDoor
